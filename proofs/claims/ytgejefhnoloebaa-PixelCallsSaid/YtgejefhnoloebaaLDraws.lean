/- The law of drawing, walked. -/
import Derived.Test.YtgejefhnoloebaaLay
namespace Go.Proofs.Ytgejefhnoloebaa
open Go.RowKit Go.Sort
set_option linter.unusedVariables false
set_option linter.unusedSimpArgs false

set_option maxRecDepth 100000 in
set_option maxHeartbeats 8000000 in
theorem draw_any (W H SW SH : Nat) (x y : Int) (p s : List Int) (a sa : Option Addr) (n cap sn scap : Nat) (w : World) (hxx : I64 x) (hyy : I64 y)
    (hW : W ≤ 16384) (hH : H ≤ 16384) (hSW : SW ≤ 16384) (hSH : SH ≤ 16384) (hn : n = 4 * (W * H)) (hsn : sn = 4 * (SW * SH)) (hn2 : n ≤ 16384) (hsn2 : sn ≤ 16384) (hr1 : rightM ⟨W, H, p⟩ = true) (hr2 : rightM ⟨SW, SH, s⟩ = true)
    (hp : SlAt .u8 w a n p) (hs : SlAt .u8 w sa sn s) (hpb : IsBytes p) (hsb : IsBytes s) (hnil : a = none → n = 0 ∧ cap = 0) (hsc : sn ≤ scap) (hscm : scap ≤ 9223372036854775807) :
    Calls Try.prog 30 #[.agg #[.int .i64 W, .int .i64 H, .slice a n cap], .agg #[.int .i64 SW, .int .i64 SH, .slice sa sn scap], .int .i64 x, .int .i64 y] w fun e w' => ∃ v, e = .returned (.agg #[.int .i64 W, .int .i64 H, v]) ∧ Made w (tab n (drawF (spotOf W H SW SH x y) p s)) v w' := by
  obtain ⟨V, hV⟩ : ∃ V, ((w.alloc (.cells #[.int .i64 W, .int .i64 H, .slice a n cap] 35)).alloc (.cells #[.int .i64 SW, .int .i64 SH, .slice sa sn scap] 35)).alloc (.cells #[.int .i64 0, .int .i64 0, .slice none 0 0] 35) = V := ⟨_, rfl⟩
  have kV : Kept (fun _ => False) w V := by rw [← hV]; exact (((Kept.refl _ w).alloc _).alloc _).alloc _
  have b0 : V.heap[w.heap.size]? = some (.cells #[.int .i64 W, .int .i64 H, .slice a n cap] 35 (0, 0)) := by rw [← hV]; exact blk_alloc (blk_alloc (blk_new _ _) _) _
  have b1 : V.heap[w.heap.size + 1]? = some (.cells #[.int .i64 SW, .int .i64 SH, .slice sa sn scap] 35 (0, 0)) := by rw [← hV]; exact blk_alloc (blk_at _ _ (by simp)) _
  have b2 : V.heap[w.heap.size + 1 + 1]? = some (.cells #[.int .i64 0, .int .i64 0, .slice none 0 0] 35 (0, 0)) := by rw [← hV]; exact blk_at _ _ (by simp)
  have sV : w.heap.size + 3 ≤ V.heap.size := by rw [← hV]; simp
  have HTW := Lib.hid (twin_any W H a n cap p V (hp.up kV) hn2 hnil)
  obtain ⟨⟨c0, -⟩, ⟨c1, -⟩, c2, -⟩ := blk3 b0
  have HB1 := Lib.hid b1
  have HB2 := Lib.hid b2
  have HK := Lib.hid kV
  have HS := Lib.hid hs
  have hpl := hp.1
  have HLAY := Lib.hid (fun (V' : World) (av : Option Addr) (cv : Nat) (ho : Own .u8 5 V' (.slice av n cv) p) (hs' : SlAt .u8 V' sa sn s) (hsep : ∀ b off, 0 < sn → sa = some ⟨b, off, none⟩ → (Value.slice av n cv).ownBlock ≠ some b) =>
    lay_any W H SW SH x y p s av sa n cv sn scap V' hxx hyy hW hH hSW hSH hn hsn hn2 hsn2 hr1 hr2 ho hs' hpb hsb hsc hscm hsep)
  have HUB := Lib.hid (ub_of hs)
  have HPL := Lib.hid hpl
  clear b0 b1 b2 kV hp hs hpb hsb hnil hr1 hr2 hn hsn hxx hyy hpl
  go_enter Try.func30, Try.ntmps30
  go_wp2_with fail
  refine HTW.out.mono ?_; rintro e w1 ⟨v, rfl, ho, hk, hf⟩
  obtain ⟨av, cv, rfl, -⟩ := ho.shape
  rw [HPL.out] at ho hf ⊢
  obtain ⟨U, hU⟩ : ∃ U, w1.alloc (.cells #[.int .i64 W, .int .i64 H, .slice av n cv] 35) = U := ⟨_, rfl⟩
  obtain ⟨P9, hP9⟩ : ∃ P, w1.heap.size = P := ⟨_, rfl⟩
  have kU : Kept (fun _ => False) w1 U := by rw [← hU]; exact (Kept.refl _ _).alloc _
  have hP9l : V.heap.size ≤ P9 := by have := hk.size; omega
  have HBU := Lib.hid (show U.heap[P9]? = some (.cells #[.int .i64 W, .int .i64 H, .slice av n cv] 35 (0, 0)) by rw [← hU, ← hP9]; exact blk_new _ _)
  have HB1 := Lib.hid ((hk.then kU).blk HB1.out id)
  have HB2 := Lib.hid ((hk.then kU).blk HB2.out id)
  have HOU := Lib.hid (ho.kept kU (fun _ _ => id))
  have HKU := Lib.hid ((HK.out.then hk).then kU)
  have HF := Lib.hid (show ∀ b, (Value.slice av n cv).ownBlock = some b → w.heap.size + 3 ≤ b ∧ b < P9 from fun b hb => ⟨by have := hf b hb; omega, by have := Own.lt ho b hb; omega⟩)
  obtain ⟨⟨d0, -⟩, ⟨d1, -⟩, d2, -⟩ := blk3 HB1.out
  obtain ⟨⟨e0, -⟩, ⟨e1, -⟩, e2, -⟩ := blk3 HBU.out
  clear hk kU ho hf c0 c1 c2
  go_wp2_with fail
  refine (HLAY.out _ av cv HOU.out (HS.out.up HKU.out) (fun b off h0 he hb => by have h1 := (HF.out b hb).1; have h2 := HUB.out b off h0 he; omega)).mono ?_
  rintro e w3 ⟨rfl, ho3, hk3⟩
  have q9 := hk3.blk HBU.out (fun h => by have := (HF.out P9 h).2; omega)
  have q2 := hk3.blk HB2.out (fun h => by have := (HF.out _ h).1; omega)
  obtain ⟨⟨e0, -⟩, ⟨e1, -⟩, e2, -⟩ := blk3 q9
  obtain ⟨V1, V2, V3, f1, f2, f3, ⟨g0, g0'⟩, ⟨g1, g1'⟩, ⟨g2, g2'⟩, bV, kV3⟩ := store3 q2 (.int .i64 W) (.int .i64 H) (.slice av n cv)
  obtain ⟨⟨m0, -⟩, ⟨m1, -⟩, m2, -⟩ := blk3 bV
  have HO := Lib.hid (ho3.kept kV3 (fun b hb (hS : b = w.heap.size + 1 + 1) => by have := HF.out b hb; omega))
  have HKK := Lib.hid ((HKU.out.trans (hk3.mono fun i _ hi => Or.inr (by have := HF.out i hi; omega))).trans (kV3.mono fun i _ hi => Or.inr (by have h9 : i = w.heap.size + 1 + 1 := hi; omega)))
  clear ho3 hk3 q9 q2 bV kV3 d0 d1 d2 hU hP9 hV
  go_wp2
  exact bodyPost_ret (v := .agg #[.int .i64 W, .int .i64 H, .slice av n cv]) (by simp [results, Try.results30, go_sem, m0, m1, m2]) rfl ⟨_, rfl, HO.out, HKK.out, fun b hb => by have := HF.out b hb; omega⟩

set_option maxRecDepth 100000 in
set_option maxHeartbeats 8000000 in
theorem draws_early (d s : Mx) (x y : Int) (a sa : Option Addr) (n cap sn scap : Nat) (w : World) (hdw : I64 d.w) (hdh : I64 d.h) (hsw : I64 s.w) (hsh : I64 s.h) (hdl : d.p.length = n) (hsl : s.p.length = sn) (hn9 : n ≤ 9223372036854775807) (hsn9 : sn ≤ 9223372036854775807) (h : 16384 < n ∨ 16384 < sn ∨ rightM d = false ∨ rightM s = false) :
    Calls Try.prog 7 #[.agg #[.int .i64 d.w, .int .i64 d.h, .slice a n cap], .agg #[.int .i64 s.w, .int .i64 s.h, .slice sa sn scap], .int .i64 x, .int .i64 y] w fun e w' => e = .returned (.bool true) ∧ Kept (fun _ => False) w w' := by
  by_cases z1 : 16384 < n
  · have CF := Lib.hid (fun w => show Calls Try.prog 18 #[.agg #[.int .i64 d.w, .int .i64 d.h, .slice a n cap]] w fun e w' => e = .returned (.bool false) ∧ Kept (fun _ => False) w w' from by have h := few_any d.w d.h a n cap w (by omega); rw [decide_eq_false (by omega)] at h; exact h)
    clear h
    go_enter Try.func7, Try.ntmps7
    go_wp2_with fail
    refine (known_any _).mono ?_; rintro e w1 ⟨rfl, hk⟩
    have kk := (((Kept.refl (fun _ => False) w).alloc (.cells #[.int .i64 d.w, .int .i64 d.h, .slice a n cap] 35)).alloc (.cells #[.int .i64 s.w, .int .i64 s.h, .slice sa sn scap] 35)).then hk
    have HD1 := Lib.hid (hk.blk (blk_alloc (blk_new w (.cells #[.int .i64 d.w, .int .i64 d.h, .slice a n cap] 35)) (.cells #[.int .i64 s.w, .int .i64 s.h, .slice sa sn scap] 35)) id)
    have HS1 := Lib.hid (hk.blk (blk_at (w.alloc (.cells #[.int .i64 d.w, .int .i64 d.h, .slice a n cap] 35)) (.cells #[.int .i64 s.w, .int .i64 s.h, .slice sa sn scap] 35) (b := w.heap.size + 1) (by simp)) id)
    have HK1 := Lib.hid kk
    obtain ⟨⟨c0, -⟩, ⟨c1, -⟩, c2, -⟩ := blk3 HD1.out
    obtain ⟨⟨e0, -⟩, ⟨e1, -⟩, e2, -⟩ := blk3 HS1.out
    clear hk kk
    go_wp2_with fail
    refine (CF.out _).mono ?_; rintro e v0 ⟨rfl, hk⟩
    have HD2 := Lib.hid (hk.blk HD1.out id)
    have HS2 := Lib.hid (hk.blk HS1.out id)
    have HK2 := Lib.hid (HK1.out.then hk)
    clear hk c0 c1 c2 e0 e1 e2
    obtain ⟨⟨c0, -⟩, ⟨c1, -⟩, c2, -⟩ := blk3 HD2.out
    obtain ⟨⟨e0, -⟩, ⟨e1, -⟩, e2, -⟩ := blk3 HS2.out
    go_wp2
    go_ret
    exact ⟨rfl, HK2.out⟩
  have CF := Lib.hid (fun w => show Calls Try.prog 18 #[.agg #[.int .i64 d.w, .int .i64 d.h, .slice a n cap]] w fun e w' => e = .returned (.bool true) ∧ Kept (fun _ => False) w w' from by have h := few_any d.w d.h a n cap w (by omega); rw [decide_eq_true (by omega)] at h; exact h)
  by_cases z2 : 16384 < sn
  · have CG := Lib.hid (fun w => show Calls Try.prog 18 #[.agg #[.int .i64 s.w, .int .i64 s.h, .slice sa sn scap]] w fun e w' => e = .returned (.bool false) ∧ Kept (fun _ => False) w w' from by have h := few_any s.w s.h sa sn scap w (by omega); rw [decide_eq_false (by omega)] at h; exact h)
    clear h
    go_enter Try.func7, Try.ntmps7
    go_wp2_with fail
    refine (known_any _).mono ?_; rintro e w1 ⟨rfl, hk⟩
    have kk := (((Kept.refl (fun _ => False) w).alloc (.cells #[.int .i64 d.w, .int .i64 d.h, .slice a n cap] 35)).alloc (.cells #[.int .i64 s.w, .int .i64 s.h, .slice sa sn scap] 35)).then hk
    have HD1 := Lib.hid (hk.blk (blk_alloc (blk_new w (.cells #[.int .i64 d.w, .int .i64 d.h, .slice a n cap] 35)) (.cells #[.int .i64 s.w, .int .i64 s.h, .slice sa sn scap] 35)) id)
    have HS1 := Lib.hid (hk.blk (blk_at (w.alloc (.cells #[.int .i64 d.w, .int .i64 d.h, .slice a n cap] 35)) (.cells #[.int .i64 s.w, .int .i64 s.h, .slice sa sn scap] 35) (b := w.heap.size + 1) (by simp)) id)
    have HK1 := Lib.hid kk
    obtain ⟨⟨c0, -⟩, ⟨c1, -⟩, c2, -⟩ := blk3 HD1.out
    obtain ⟨⟨e0, -⟩, ⟨e1, -⟩, e2, -⟩ := blk3 HS1.out
    clear hk kk
    go_wp2_with fail
    refine (CF.out _).mono ?_; rintro e v0 ⟨rfl, hk⟩
    have HD2 := Lib.hid (hk.blk HD1.out id)
    have HS2 := Lib.hid (hk.blk HS1.out id)
    have HK2 := Lib.hid (HK1.out.then hk)
    clear hk c0 c1 c2 e0 e1 e2
    obtain ⟨⟨c0, -⟩, ⟨c1, -⟩, c2, -⟩ := blk3 HD2.out
    obtain ⟨⟨e0, -⟩, ⟨e1, -⟩, e2, -⟩ := blk3 HS2.out
    go_wp2_with fail
    refine (CG.out _).mono ?_; rintro e v1 ⟨rfl, hk⟩
    have HD3 := Lib.hid (hk.blk HD2.out id)
    have HS3 := Lib.hid (hk.blk HS2.out id)
    have HK3 := Lib.hid (HK2.out.then hk)
    clear hk c0 c1 c2 e0 e1 e2
    obtain ⟨⟨c0, -⟩, ⟨c1, -⟩, c2, -⟩ := blk3 HD3.out
    obtain ⟨⟨e0, -⟩, ⟨e1, -⟩, e2, -⟩ := blk3 HS3.out
    go_wp2
    go_ret
    exact ⟨rfl, HK3.out⟩
  have CG := Lib.hid (fun w => show Calls Try.prog 18 #[.agg #[.int .i64 s.w, .int .i64 s.h, .slice sa sn scap]] w fun e w' => e = .returned (.bool true) ∧ Kept (fun _ => False) w w' from by have h := few_any s.w s.h sa sn scap w (by omega); rw [decide_eq_true (by omega)] at h; exact h)
  have CO := Lib.hid (fun w => show Calls Try.prog 27 #[.agg #[.int .i64 d.w, .int .i64 d.h, .slice a n cap]] w fun e w' => e = .returned (.agg #[.int .i64 d.w, .int .i64 d.h, .slice a n cap]) ∧ Kept (fun _ => False) w w' from by exact of_any _ _ _ _ _ _)
  cases hdr : rightM d with
  | false =>
    have CR := Lib.hid (fun w => show Calls Try.prog 26 #[.agg #[.int .i64 d.w, .int .i64 d.h, .slice a n cap]] w fun e w' => e = .returned (.bool false) ∧ Kept (fun _ => False) w w' from by rw [← hdr]; exact rright_any d a n cap w hdw hdh hdl (by omega))
    clear h hdr
    go_enter Try.func7, Try.ntmps7
    go_wp2_with fail
    refine (known_any _).mono ?_; rintro e w1 ⟨rfl, hk⟩
    have kk := (((Kept.refl (fun _ => False) w).alloc (.cells #[.int .i64 d.w, .int .i64 d.h, .slice a n cap] 35)).alloc (.cells #[.int .i64 s.w, .int .i64 s.h, .slice sa sn scap] 35)).then hk
    have HD1 := Lib.hid (hk.blk (blk_alloc (blk_new w (.cells #[.int .i64 d.w, .int .i64 d.h, .slice a n cap] 35)) (.cells #[.int .i64 s.w, .int .i64 s.h, .slice sa sn scap] 35)) id)
    have HS1 := Lib.hid (hk.blk (blk_at (w.alloc (.cells #[.int .i64 d.w, .int .i64 d.h, .slice a n cap] 35)) (.cells #[.int .i64 s.w, .int .i64 s.h, .slice sa sn scap] 35) (b := w.heap.size + 1) (by simp)) id)
    have HK1 := Lib.hid kk
    obtain ⟨⟨c0, -⟩, ⟨c1, -⟩, c2, -⟩ := blk3 HD1.out
    obtain ⟨⟨e0, -⟩, ⟨e1, -⟩, e2, -⟩ := blk3 HS1.out
    clear hk kk
    go_wp2_with fail
    refine (CF.out _).mono ?_; rintro e v0 ⟨rfl, hk⟩
    have HD2 := Lib.hid (hk.blk HD1.out id)
    have HS2 := Lib.hid (hk.blk HS1.out id)
    have HK2 := Lib.hid (HK1.out.then hk)
    clear hk c0 c1 c2 e0 e1 e2
    obtain ⟨⟨c0, -⟩, ⟨c1, -⟩, c2, -⟩ := blk3 HD2.out
    obtain ⟨⟨e0, -⟩, ⟨e1, -⟩, e2, -⟩ := blk3 HS2.out
    go_wp2_with fail
    refine (CG.out _).mono ?_; rintro e v1 ⟨rfl, hk⟩
    have HD3 := Lib.hid (hk.blk HD2.out id)
    have HS3 := Lib.hid (hk.blk HS2.out id)
    have HK3 := Lib.hid (HK2.out.then hk)
    clear hk c0 c1 c2 e0 e1 e2
    obtain ⟨⟨c0, -⟩, ⟨c1, -⟩, c2, -⟩ := blk3 HD3.out
    obtain ⟨⟨e0, -⟩, ⟨e1, -⟩, e2, -⟩ := blk3 HS3.out
    go_wp2_with fail
    refine (CO.out _).mono ?_; rintro e v2 ⟨rfl, hk⟩
    have HD4 := Lib.hid (hk.blk HD3.out id)
    have HS4 := Lib.hid (hk.blk HS3.out id)
    have HK4 := Lib.hid (HK3.out.then hk)
    clear hk c0 c1 c2 e0 e1 e2
    obtain ⟨⟨c0, -⟩, ⟨c1, -⟩, c2, -⟩ := blk3 HD4.out
    obtain ⟨⟨e0, -⟩, ⟨e1, -⟩, e2, -⟩ := blk3 HS4.out
    go_wp2_with fail
    refine (CR.out _).mono ?_; rintro e v3 ⟨rfl, hk⟩
    have HD5 := Lib.hid (hk.blk HD4.out id)
    have HS5 := Lib.hid (hk.blk HS4.out id)
    have HK5 := Lib.hid (HK4.out.then hk)
    clear hk c0 c1 c2 e0 e1 e2
    obtain ⟨⟨c0, -⟩, ⟨c1, -⟩, c2, -⟩ := blk3 HD5.out
    obtain ⟨⟨e0, -⟩, ⟨e1, -⟩, e2, -⟩ := blk3 HS5.out
    go_wp2
    go_ret
    exact ⟨rfl, HK5.out⟩
  | true =>
    have CR := Lib.hid (fun w => show Calls Try.prog 26 #[.agg #[.int .i64 d.w, .int .i64 d.h, .slice a n cap]] w fun e w' => e = .returned (.bool true) ∧ Kept (fun _ => False) w w' from by rw [← hdr]; exact rright_any d a n cap w hdw hdh hdl (by omega))
    have CP := Lib.hid (fun w => show Calls Try.prog 27 #[.agg #[.int .i64 s.w, .int .i64 s.h, .slice sa sn scap]] w fun e w' => e = .returned (.agg #[.int .i64 s.w, .int .i64 s.h, .slice sa sn scap]) ∧ Kept (fun _ => False) w w' from by exact of_any _ _ _ _ _ _)
    have hsr : rightM s = false := by rw [hdr] at h; simp at h; rcases h with h | h | h <;> first | exact h | omega
    have CS := Lib.hid (fun w => show Calls Try.prog 26 #[.agg #[.int .i64 s.w, .int .i64 s.h, .slice sa sn scap]] w fun e w' => e = .returned (.bool false) ∧ Kept (fun _ => False) w w' from by rw [← hsr]; exact rright_any s sa sn scap w hsw hsh hsl (by omega))
    clear h hdr hsr
    go_enter Try.func7, Try.ntmps7
    go_wp2_with fail
    refine (known_any _).mono ?_; rintro e w1 ⟨rfl, hk⟩
    have kk := (((Kept.refl (fun _ => False) w).alloc (.cells #[.int .i64 d.w, .int .i64 d.h, .slice a n cap] 35)).alloc (.cells #[.int .i64 s.w, .int .i64 s.h, .slice sa sn scap] 35)).then hk
    have HD1 := Lib.hid (hk.blk (blk_alloc (blk_new w (.cells #[.int .i64 d.w, .int .i64 d.h, .slice a n cap] 35)) (.cells #[.int .i64 s.w, .int .i64 s.h, .slice sa sn scap] 35)) id)
    have HS1 := Lib.hid (hk.blk (blk_at (w.alloc (.cells #[.int .i64 d.w, .int .i64 d.h, .slice a n cap] 35)) (.cells #[.int .i64 s.w, .int .i64 s.h, .slice sa sn scap] 35) (b := w.heap.size + 1) (by simp)) id)
    have HK1 := Lib.hid kk
    obtain ⟨⟨c0, -⟩, ⟨c1, -⟩, c2, -⟩ := blk3 HD1.out
    obtain ⟨⟨e0, -⟩, ⟨e1, -⟩, e2, -⟩ := blk3 HS1.out
    clear hk kk
    go_wp2_with fail
    refine (CF.out _).mono ?_; rintro e v0 ⟨rfl, hk⟩
    have HD2 := Lib.hid (hk.blk HD1.out id)
    have HS2 := Lib.hid (hk.blk HS1.out id)
    have HK2 := Lib.hid (HK1.out.then hk)
    clear hk c0 c1 c2 e0 e1 e2
    obtain ⟨⟨c0, -⟩, ⟨c1, -⟩, c2, -⟩ := blk3 HD2.out
    obtain ⟨⟨e0, -⟩, ⟨e1, -⟩, e2, -⟩ := blk3 HS2.out
    go_wp2_with fail
    refine (CG.out _).mono ?_; rintro e v1 ⟨rfl, hk⟩
    have HD3 := Lib.hid (hk.blk HD2.out id)
    have HS3 := Lib.hid (hk.blk HS2.out id)
    have HK3 := Lib.hid (HK2.out.then hk)
    clear hk c0 c1 c2 e0 e1 e2
    obtain ⟨⟨c0, -⟩, ⟨c1, -⟩, c2, -⟩ := blk3 HD3.out
    obtain ⟨⟨e0, -⟩, ⟨e1, -⟩, e2, -⟩ := blk3 HS3.out
    go_wp2_with fail
    refine (CO.out _).mono ?_; rintro e v2 ⟨rfl, hk⟩
    have HD4 := Lib.hid (hk.blk HD3.out id)
    have HS4 := Lib.hid (hk.blk HS3.out id)
    have HK4 := Lib.hid (HK3.out.then hk)
    clear hk c0 c1 c2 e0 e1 e2
    obtain ⟨⟨c0, -⟩, ⟨c1, -⟩, c2, -⟩ := blk3 HD4.out
    obtain ⟨⟨e0, -⟩, ⟨e1, -⟩, e2, -⟩ := blk3 HS4.out
    go_wp2_with fail
    refine (CR.out _).mono ?_; rintro e v3 ⟨rfl, hk⟩
    have HD5 := Lib.hid (hk.blk HD4.out id)
    have HS5 := Lib.hid (hk.blk HS4.out id)
    have HK5 := Lib.hid (HK4.out.then hk)
    clear hk c0 c1 c2 e0 e1 e2
    obtain ⟨⟨c0, -⟩, ⟨c1, -⟩, c2, -⟩ := blk3 HD5.out
    obtain ⟨⟨e0, -⟩, ⟨e1, -⟩, e2, -⟩ := blk3 HS5.out
    go_wp2_with fail
    refine (CP.out _).mono ?_; rintro e v4 ⟨rfl, hk⟩
    have HD6 := Lib.hid (hk.blk HD5.out id)
    have HS6 := Lib.hid (hk.blk HS5.out id)
    have HK6 := Lib.hid (HK5.out.then hk)
    clear hk c0 c1 c2 e0 e1 e2
    obtain ⟨⟨c0, -⟩, ⟨c1, -⟩, c2, -⟩ := blk3 HD6.out
    obtain ⟨⟨e0, -⟩, ⟨e1, -⟩, e2, -⟩ := blk3 HS6.out
    go_wp2_with fail
    refine (CS.out _).mono ?_; rintro e v5 ⟨rfl, hk⟩
    have HD7 := Lib.hid (hk.blk HD6.out id)
    have HS7 := Lib.hid (hk.blk HS6.out id)
    have HK7 := Lib.hid (HK6.out.then hk)
    clear hk c0 c1 c2 e0 e1 e2
    obtain ⟨⟨c0, -⟩, ⟨c1, -⟩, c2, -⟩ := blk3 HD7.out
    obtain ⟨⟨e0, -⟩, ⟨e1, -⟩, e2, -⟩ := blk3 HS7.out
    go_wp2
    go_ret
    exact ⟨rfl, HK7.out⟩

theorem right_nat {W H : Nat} {p : List Int} (h : rightM ⟨W, H, p⟩ = true) : W ≤ 16384 ∧ H ≤ 16384 ∧ p.length = 4 * (W * H) := by
  unfold rightM at h
  rw [Bool.and_eq_true] at h
  have hs : sizeB W H = true := h.1
  have h4 : (p.length : Int) = 4 * (W : Int) * (H : Int) := of_decide_eq_true h.2
  obtain ⟨b1, b2, b3, b4, -⟩ := sizeB_t hs
  rw [Int.mul_assoc, show (W : Int) * (H : Int) = ((W * H : Nat) : Int) by simp] at h4
  exact ⟨by omega, by omega, by omega⟩
theorem nats_of {m : Mx} (h : rightM m = true) : ∃ W H : Nat, m.w = W ∧ m.h = H := by
  unfold rightM at h
  rw [Bool.and_eq_true] at h
  obtain ⟨b1, -, b3, -⟩ := sizeB_t h.1
  exact ⟨m.w.toNat, m.h.toNat, by omega, by omega⟩
theorem ov_byte {d s a : Int} (hd : 0 ≤ d ∧ d < 256) (hs : 0 ≤ s ∧ s < 256) (ha : 0 ≤ a ∧ a < 256) : 0 ≤ ov d s a ∧ ov d s a < 256 := by
  have := ov_bd (d := d) (s := s) (a := a) (by omega) (by omega) (by omega); omega
theorem drawF_bytes (t : Spot) (n : Nat) {p s : List Int} (hp : IsBytes p) (hs : IsBytes s) : IsBytes (tab n (drawF t p s)) := by
  intro v hv
  simp only [tab, List.mem_map] at hv
  obtain ⟨q, -, rfl⟩ := hv
  unfold drawF
  split
  · unfold overK
    split
    · omega
    · exact ov_byte (getD_byte hp _) (getD_byte hs _) (getD_byte hs _)
  · exact getD_byte hp _

set_option maxRecDepth 100000 in
set_option maxHeartbeats 8000000 in
theorem draws_go (d s : Mx) (W H SW SH : Nat) (x y : Int) (a sa : Option Addr) (n cap sn scap : Nat) (w : World) (hxx : I64 x) (hyy : I64 y) (hdw : I64 d.w) (hdh : I64 d.h) (hsw : I64 s.w) (hsh : I64 s.h) (hdl : d.p.length = n) (hsl : s.p.length = sn) (hn9 : n ≤ 9223372036854775807) (hsn9 : sn ≤ 9223372036854775807) (eW : d.w = W) (eH : d.h = H) (eSW : s.w = SW) (eSH : s.h = SH) (hn2 : n ≤ 16384) (hsn2 : sn ≤ 16384)
    (hdr : rightM d = true) (hsr : rightM s = true) (hp : SlAt .u8 w a n d.p) (hs : SlAt .u8 w sa sn s.p) (hpb : IsBytes d.p) (hsb : IsBytes s.p) (hnil : a = none → n = 0 ∧ cap = 0) (hsc : sn ≤ scap) (hscm : scap ≤ 9223372036854775807) :
    Calls Try.prog 7 #[.agg #[.int .i64 d.w, .int .i64 d.h, .slice a n cap], .agg #[.int .i64 s.w, .int .i64 s.h, .slice sa sn scap], .int .i64 x, .int .i64 y] w fun e w' => e = .returned (.bool true) ∧ Kept (fun _ => False) w w' := by
  have hr1 : rightM ⟨W, H, d.p⟩ = true := by rw [← eW, ← eH]; exact hdr
  have hr2 : rightM ⟨SW, SH, s.p⟩ = true := by rw [← eSW, ← eSH]; exact hsr
  obtain ⟨g1, g2, g3⟩ := right_nat hr1
  obtain ⟨g4, g5, g6⟩ := right_nat hr2
  obtain ⟨L, hL⟩ : ∃ L, tab n (drawF (spotOf W H SW SH x y) d.p s.p) = L := ⟨_, rfl⟩
  have hLb : IsBytes L := by rw [← hL]; exact drawF_bytes _ _ hpb hsb
  obtain ⟨r, hr⟩ : ∃ r, sameM d s = r := ⟨_, rfl⟩
  have CF := Lib.hid (fun w => show Calls Try.prog 18 #[.agg #[.int .i64 d.w, .int .i64 d.h, .slice a n cap]] w fun e w' => e = .returned (.bool true) ∧ Kept (fun _ => False) w w' from by have h := few_any d.w d.h a n cap w (by omega); rw [decide_eq_true (by omega)] at h; exact h)
  have CG := Lib.hid (fun w => show Calls Try.prog 18 #[.agg #[.int .i64 s.w, .int .i64 s.h, .slice sa sn scap]] w fun e w' => e = .returned (.bool true) ∧ Kept (fun _ => False) w w' from by have h := few_any s.w s.h sa sn scap w (by omega); rw [decide_eq_true (by omega)] at h; exact h)
  have CO := Lib.hid (fun w => show Calls Try.prog 27 #[.agg #[.int .i64 d.w, .int .i64 d.h, .slice a n cap]] w fun e w' => e = .returned (.agg #[.int .i64 d.w, .int .i64 d.h, .slice a n cap]) ∧ Kept (fun _ => False) w w' from by exact of_any _ _ _ _ _ _)
  have CP := Lib.hid (fun w => show Calls Try.prog 27 #[.agg #[.int .i64 s.w, .int .i64 s.h, .slice sa sn scap]] w fun e w' => e = .returned (.agg #[.int .i64 s.w, .int .i64 s.h, .slice sa sn scap]) ∧ Kept (fun _ => False) w w' from by exact of_any _ _ _ _ _ _)
  have CR := Lib.hid (fun w => show Calls Try.prog 26 #[.agg #[.int .i64 d.w, .int .i64 d.h, .slice a n cap]] w fun e w' => e = .returned (.bool true) ∧ Kept (fun _ => False) w w' from by rw [← hdr]; exact rright_any d a n cap w hdw hdh hdl (by omega))
  have CS := Lib.hid (fun w => show Calls Try.prog 26 #[.agg #[.int .i64 s.w, .int .i64 s.h, .slice sa sn scap]] w fun e w' => e = .returned (.bool true) ∧ Kept (fun _ => False) w w' from by rw [← hsr]; exact rright_any s sa sn scap w hsw hsh hsl (by omega))
  have QD := Lib.hid (fun (V' : World) (hk : Kept (fun _ => False) w V') => show Calls Try.prog 30 #[.agg #[.int .i64 d.w, .int .i64 d.h, .slice a n cap], .agg #[.int .i64 s.w, .int .i64 s.h, .slice sa sn scap], .int .i64 x, .int .i64 y] V' fun e w' => ∃ v, e = .returned (.agg #[.int .i64 d.w, .int .i64 d.h, v]) ∧ Made V' L v w' from by rw [eW, eH, eSW, eSH, ← hL]; exact draw_any W H SW SH x y d.p s.p a sa n cap sn scap V' hxx hyy g1 g2 g4 g5 (by omega) (by omega) hn2 hsn2 hr1 hr2 (hp.up hk) (hs.up hk) hpb hsb hnil hsc hscm)
  have QR := Lib.hid (fun (V' : World) (hk : Kept (fun _ => False) w V') => show Calls Try.prog 31 #[.agg #[.int .i64 d.w, .int .i64 d.h, .slice a n cap], .agg #[.int .i64 s.w, .int .i64 s.h, .slice sa sn scap], .int .i64 x, .int .i64 y] V' fun e w' => ∃ v, e = .returned (.agg #[.int .i64 d.w, .int .i64 d.h, v]) ∧ Made V' L v w' from by rw [eW, eH, eSW, eSH, ← hL]; exact rdraw_any W H SW SH x y d.p s.p a sa n cap sn scap V' hxx hyy g1 g2 g4 g5 (by omega) (by omega) hn2 hsn2 (hp.up hk) (hs.up hk) hpb hsb hnil)
  have QS := Lib.hid (fun (V' : World) (hk : Kept (fun _ => False) w V') => show Calls Try.prog 29 #[.agg #[.int .i64 d.w, .int .i64 d.h, .slice a n cap], .agg #[.int .i64 s.w, .int .i64 s.h, .slice sa sn scap]] V' fun e w' => e = .returned (.bool r) ∧ Kept (fun _ => False) V' w' from by rw [← hr]; exact same_any d s a sa n sn cap scap V' (hp.up hk) (hs.up hk) hpb hsb)
  have QT := Lib.hid (fun (V' : World) (hk : Kept (fun _ => False) w V') => show Calls Try.prog 32 #[.agg #[.int .i64 d.w, .int .i64 d.h, .slice a n cap], .agg #[.int .i64 s.w, .int .i64 s.h, .slice sa sn scap]] V' fun e w' => e = .returned (.bool r) ∧ Kept (fun _ => False) V' w' from by rw [← hr]; exact rsame_any d s a sa n sn cap scap V' (hp.up hk) (hs.up hk) hpb hsb)
  have QDD := Lib.hid (fun (V' : World) (hk : Kept (fun _ => False) w V') => show Calls Try.prog 29 #[.agg #[.int .i64 d.w, .int .i64 d.h, .slice a n cap], .agg #[.int .i64 d.w, .int .i64 d.h, .slice a n cap]] V' fun e w' => e = .returned (.bool true) ∧ Kept (fun _ => False) V' w' from by have h := same_any d d a a n n cap cap V' (hp.up hk) (hp.up hk) hpb hpb; rw [sameM_self] at h; exact h)
  have QA := Lib.hid (fun (V' : World) (a1 a2 : Option Addr) (n1 n2 c1 c2 : Nat) (h1 : SlAt .u8 V' a1 n1 L) (h2 : SlAt .u8 V' a2 n2 L) => show Calls Try.prog 24 #[.agg #[.int .i64 d.w, .int .i64 d.h, .slice a1 n1 c1], .agg #[.int .i64 d.w, .int .i64 d.h, .slice a2 n2 c2]] V' fun e w' => e = .returned (.bool true) ∧ Kept (fun _ => False) V' w' from by
    have h := alike_any ⟨d.w, d.h, L⟩ ⟨d.w, d.h, L⟩ a1 a2 n1 n2 c1 c2 V' h1 h2 hLb hLb
    rw [sameM_self] at h; exact h)
  clear hdr hsr hp hs hpb hsb hnil hr1 hr2 g1 g2 g3 g4 g5 g6 hL hLb hr hdl hsl eW eH eSW eSH
  go_enter Try.func7, Try.ntmps7
  go_wp2_with fail
  refine (known_any _).mono ?_; rintro e w1 ⟨rfl, hk⟩
  have kk := (((Kept.refl (fun _ => False) w).alloc (.cells #[.int .i64 d.w, .int .i64 d.h, .slice a n cap] 35)).alloc (.cells #[.int .i64 s.w, .int .i64 s.h, .slice sa sn scap] 35)).then hk
  have HD1 := Lib.hid (hk.blk (blk_alloc (blk_new w (.cells #[.int .i64 d.w, .int .i64 d.h, .slice a n cap] 35)) (.cells #[.int .i64 s.w, .int .i64 s.h, .slice sa sn scap] 35)) id)
  have HS1 := Lib.hid (hk.blk (blk_at (w.alloc (.cells #[.int .i64 d.w, .int .i64 d.h, .slice a n cap] 35)) (.cells #[.int .i64 s.w, .int .i64 s.h, .slice sa sn scap] 35) (b := w.heap.size + 1) (by simp)) id)
  have HK1 := Lib.hid kk
  obtain ⟨⟨c0, -⟩, ⟨c1, -⟩, c2, -⟩ := blk3 HD1.out
  obtain ⟨⟨e0, -⟩, ⟨e1, -⟩, e2, -⟩ := blk3 HS1.out
  clear hk kk
  go_wp2_with fail
  refine (CF.out _).mono ?_; rintro e v0 ⟨rfl, hk⟩
  have HD2 := Lib.hid (hk.blk HD1.out id)
  have HS2 := Lib.hid (hk.blk HS1.out id)
  have HK2 := Lib.hid (HK1.out.then hk)
  clear hk c0 c1 c2 e0 e1 e2
  obtain ⟨⟨c0, -⟩, ⟨c1, -⟩, c2, -⟩ := blk3 HD2.out
  obtain ⟨⟨e0, -⟩, ⟨e1, -⟩, e2, -⟩ := blk3 HS2.out
  go_wp2_with fail
  refine (CG.out _).mono ?_; rintro e v1 ⟨rfl, hk⟩
  have HD3 := Lib.hid (hk.blk HD2.out id)
  have HS3 := Lib.hid (hk.blk HS2.out id)
  have HK3 := Lib.hid (HK2.out.then hk)
  clear hk c0 c1 c2 e0 e1 e2
  obtain ⟨⟨c0, -⟩, ⟨c1, -⟩, c2, -⟩ := blk3 HD3.out
  obtain ⟨⟨e0, -⟩, ⟨e1, -⟩, e2, -⟩ := blk3 HS3.out
  go_wp2_with fail
  refine (CO.out _).mono ?_; rintro e v2 ⟨rfl, hk⟩
  have HD4 := Lib.hid (hk.blk HD3.out id)
  have HS4 := Lib.hid (hk.blk HS3.out id)
  have HK4 := Lib.hid (HK3.out.then hk)
  clear hk c0 c1 c2 e0 e1 e2
  obtain ⟨⟨c0, -⟩, ⟨c1, -⟩, c2, -⟩ := blk3 HD4.out
  obtain ⟨⟨e0, -⟩, ⟨e1, -⟩, e2, -⟩ := blk3 HS4.out
  go_wp2_with fail
  refine (CR.out _).mono ?_; rintro e v3 ⟨rfl, hk⟩
  have HD5 := Lib.hid (hk.blk HD4.out id)
  have HS5 := Lib.hid (hk.blk HS4.out id)
  have HK5 := Lib.hid (HK4.out.then hk)
  clear hk c0 c1 c2 e0 e1 e2
  obtain ⟨⟨c0, -⟩, ⟨c1, -⟩, c2, -⟩ := blk3 HD5.out
  obtain ⟨⟨e0, -⟩, ⟨e1, -⟩, e2, -⟩ := blk3 HS5.out
  go_wp2_with fail
  refine (CP.out _).mono ?_; rintro e v4 ⟨rfl, hk⟩
  have HD6 := Lib.hid (hk.blk HD5.out id)
  have HS6 := Lib.hid (hk.blk HS5.out id)
  have HK6 := Lib.hid (HK5.out.then hk)
  clear hk c0 c1 c2 e0 e1 e2
  obtain ⟨⟨c0, -⟩, ⟨c1, -⟩, c2, -⟩ := blk3 HD6.out
  obtain ⟨⟨e0, -⟩, ⟨e1, -⟩, e2, -⟩ := blk3 HS6.out
  go_wp2_with fail
  refine (CS.out _).mono ?_; rintro e v5 ⟨rfl, hk⟩
  have HD7 := Lib.hid (hk.blk HD6.out id)
  have HS7 := Lib.hid (hk.blk HS6.out id)
  have HK7 := Lib.hid (HK6.out.then hk)
  clear hk c0 c1 c2 e0 e1 e2
  obtain ⟨⟨c0, -⟩, ⟨c1, -⟩, c2, -⟩ := blk3 HD7.out
  obtain ⟨⟨e0, -⟩, ⟨e1, -⟩, e2, -⟩ := blk3 HS7.out
  obtain ⟨V, hV⟩ : ∃ V, V = v5 := ⟨_, rfl⟩
  subst hV
  have HDV := Lib.hid HD7.out
  have HSV := Lib.hid HS7.out
  have HKV := Lib.hid HK7.out
  have hkp0 : Kept (fun _ => False) V V.drew := (Kept.refl _ _).drew
  have QD := Lib.hid (fun V' hk => QD.out V' (HKV.out.then hk))
  have QR := Lib.hid (fun V' hk => QR.out V' (HKV.out.then hk))
  have QS := Lib.hid (fun V' hk => QS.out V' (HKV.out.then hk))
  have QT := Lib.hid (fun V' hk => QT.out V' (HKV.out.then hk))
  have QDD := Lib.hid (fun V' hk => QDD.out V' (HKV.out.then hk))
  go_wp2
  go_region_held3 (fun w' => w'.cell? ⟨w.heap.size, 0, none⟩ = some (.int .i64 d.w) ∧ w'.cell? ⟨w.heap.size, 1, none⟩ = some (.int .i64 d.h) ∧ w'.cell? ⟨w.heap.size, 2, none⟩ = some (.slice a n cap) ∧ w'.cell? ⟨w.heap.size + 1, 0, none⟩ = some (.int .i64 s.w) ∧ w'.cell? ⟨w.heap.size + 1, 1, none⟩ = some (.int .i64 s.h) ∧ w'.cell? ⟨w.heap.size + 1, 2, none⟩ = some (.slice sa sn scap)) (first | ((go_keep; done)) | (go_split_ands; all_goals go_keep)) (first | (go_at_call 30; refine Calls.mono (QD.out _ (by first | exact hkq | exact hkp0)) ?_; rintro e w' ⟨v, rfl, hm⟩; have h := hm.2.1; obtain ⟨av1, cv1, rfl, hs1, -⟩ := hm.1.shape; have hkq := (show Kept (fun _ => False) V w' from by first | exact hkq.then h | exact hkp0.then h); (first | (have HS1 := Lib.hid (HS1.out.up h)) | skip); (first | (have HS2 := Lib.hid (HS2.out.up h)) | skip); obtain ⟨⟨c0, -⟩, ⟨c1, -⟩, c2, -⟩ := blk3 (hkq.blk HDV.out id); obtain ⟨⟨e0, -⟩, ⟨e1, -⟩, e2, -⟩ := blk3 (hkq.blk HSV.out id); clear h; have HS1 := Lib.hid hs1; clear hs1 hm) | (go_at_call 31; refine Calls.mono (QR.out _ (by first | exact hkq | exact hkp0)) ?_; rintro e w' ⟨v, rfl, hm⟩; have h := hm.2.1; obtain ⟨av2, cv2, rfl, hs2, -⟩ := hm.1.shape; have hkq := (show Kept (fun _ => False) V w' from by first | exact hkq.then h | exact hkp0.then h); (first | (have HS1 := Lib.hid (HS1.out.up h)) | skip); (first | (have HS2 := Lib.hid (HS2.out.up h)) | skip); obtain ⟨⟨c0, -⟩, ⟨c1, -⟩, c2, -⟩ := blk3 (hkq.blk HDV.out id); obtain ⟨⟨e0, -⟩, ⟨e1, -⟩, e2, -⟩ := blk3 (hkq.blk HSV.out id); clear h; have HS2 := Lib.hid hs2; clear hs2 hm) | (go_at_call 27; refine Calls.mono (of_any _ _ _ _ _ _) ?_; rintro e w' ⟨rfl, h⟩; have hkq := (show Kept (fun _ => False) V w' from by first | exact hkq.then h | exact hkp0.then h); (first | (have HS1 := Lib.hid (HS1.out.up h)) | skip); (first | (have HS2 := Lib.hid (HS2.out.up h)) | skip); obtain ⟨⟨c0, -⟩, ⟨c1, -⟩, c2, -⟩ := blk3 (hkq.blk HDV.out id); obtain ⟨⟨e0, -⟩, ⟨e1, -⟩, e2, -⟩ := blk3 (hkq.blk HSV.out id); clear h) | (go_at_call 24; refine Calls.mono (QA.out _ av1 av2 L.length L.length cv1 cv2 HS1.out HS2.out) ?_; rintro e w' ⟨rfl, h⟩; have hkq := (show Kept (fun _ => False) V w' from by first | exact hkq.then h | exact hkp0.then h); (first | (have HS1 := Lib.hid (HS1.out.up h)) | skip); (first | (have HS2 := Lib.hid (HS2.out.up h)) | skip); obtain ⟨⟨c0, -⟩, ⟨c1, -⟩, c2, -⟩ := blk3 (hkq.blk HDV.out id); obtain ⟨⟨e0, -⟩, ⟨e1, -⟩, e2, -⟩ := blk3 (hkq.blk HSV.out id); clear h) | (go_at_call 29; first | ((with_reducible refine Calls.mono (QS.out _ (by first | exact hkq | exact hkp0)) ?_); rintro e w' ⟨rfl, h⟩; have hkq := (show Kept (fun _ => False) V w' from by first | exact hkq.then h | exact hkp0.then h); (first | (have HS1 := Lib.hid (HS1.out.up h)) | skip); (first | (have HS2 := Lib.hid (HS2.out.up h)) | skip); obtain ⟨⟨c0, -⟩, ⟨c1, -⟩, c2, -⟩ := blk3 (hkq.blk HDV.out id); obtain ⟨⟨e0, -⟩, ⟨e1, -⟩, e2, -⟩ := blk3 (hkq.blk HSV.out id); clear h) | ((with_reducible refine Calls.mono (QDD.out _ (by first | exact hkq | exact hkp0)) ?_); rintro e w' ⟨rfl, h⟩; have hkq := (show Kept (fun _ => False) V w' from by first | exact hkq.then h | exact hkp0.then h); (first | (have HS1 := Lib.hid (HS1.out.up h)) | skip); (first | (have HS2 := Lib.hid (HS2.out.up h)) | skip); obtain ⟨⟨c0, -⟩, ⟨c1, -⟩, c2, -⟩ := blk3 (hkq.blk HDV.out id); obtain ⟨⟨e0, -⟩, ⟨e1, -⟩, e2, -⟩ := blk3 (hkq.blk HSV.out id); clear h)) | (go_at_call 32; refine Calls.mono (QT.out _ (by first | exact hkq | exact hkp0)) ?_; rintro e w' ⟨rfl, h⟩; have hkq := (show Kept (fun _ => False) V w' from by first | exact hkq.then h | exact hkp0.then h); (first | (have HS1 := Lib.hid (HS1.out.up h)) | skip); (first | (have HS2 := Lib.hid (HS2.out.up h)) | skip); obtain ⟨⟨c0, -⟩, ⟨c1, -⟩, c2, -⟩ := blk3 (hkq.blk HDV.out id); obtain ⟨⟨e0, -⟩, ⟨e1, -⟩, e2, -⟩ := blk3 (hkq.blk HSV.out id); clear h))
  all_goals go_wp2
  all_goals
    go_ret
    exact ⟨rfl, HKV.out.then hkq⟩

theorem law_draws {mx my sx sy x y : Int} {a sa : Option Addr} {n cap sn scap : Nat} {zm zs : List Int} {w : World} (f0 : (Lit.int .i64 mx).wf = true ∧ (Lit.int .i64 my).wf = true ∧ IsRow .u8 w a n cap zm) (f1 : (Lit.int .i64 sx).wf = true ∧ (Lit.int .i64 sy).wf = true ∧ IsRow .u8 w sa sn scap zs)
    (f2 : (Lit.int .i64 x).wf = true) (f3 : (Lit.int .i64 y).wf = true) :
    Calls Try.prog 7 #[.agg #[.int .i64 mx, .int .i64 my, .slice a n cap], .agg #[.int .i64 sx, .int .i64 sy, .slice sa sn scap], .int .i64 x, .int .i64 y] w fun e w' => e = .returned (.bool true) ∧ Below w.heap.size w w' := by
  refine Calls.mono (R := fun e w' => e = .returned (.bool true) ∧ Kept (fun _ => False) w w') ?_ fun _ _ h => ⟨h.1, h.2.below⟩
  obtain ⟨s1, l1, m1, b1, -, n1⟩ := f0.2.2.slAt
  obtain ⟨s2, l2, m2, b2, -, -⟩ := f1.2.2.slAt
  by_cases h : 16384 < n ∨ 16384 < sn ∨ rightM ⟨mx, my, zm.take n⟩ = false ∨ rightM ⟨sx, sy, zs.take sn⟩ = false
  · exact draws_early ⟨mx, my, zm.take n⟩ ⟨sx, sy, zs.take sn⟩ x y a sa n cap sn scap w (int_of_wf f0.1) (int_of_wf f0.2.1) (int_of_wf f1.1) (int_of_wf f1.2.1) s1.1 s2.1 (by omega) (by omega) h
  · have hr1 : rightM ⟨mx, my, zm.take n⟩ = true := by
      cases hr : rightM ⟨mx, my, zm.take n⟩ with
      | true => rfl
      | false => exact absurd (Or.inr (Or.inr (Or.inl hr))) h
    have hr2 : rightM ⟨sx, sy, zs.take sn⟩ = true := by
      cases hr : rightM ⟨sx, sy, zs.take sn⟩ with
      | true => rfl
      | false => exact absurd (Or.inr (Or.inr (Or.inr hr))) h
    obtain ⟨W, H, e1, e2⟩ := nats_of hr1
    obtain ⟨SW, SH, e3, e4⟩ := nats_of hr2
    exact draws_go ⟨mx, my, zm.take n⟩ ⟨sx, sy, zs.take sn⟩ W H SW SH x y a sa n cap sn scap w (int_of_wf f2) (int_of_wf f3) (int_of_wf f0.1) (int_of_wf f0.2.1) (int_of_wf f1.1) (int_of_wf f1.2.1) s1.1 s2.1 (by omega) (by omega) e1 e2 e3 e4 (by omega) (by omega) hr1 hr2 s1 s2 (fun v hv => by have := byte_of_wf (b1 v hv); omega) (fun v hv => by have := byte_of_wf (b2 v hv); omega) n1 l2 m2

end Go.Proofs.Ytgejefhnoloebaa
