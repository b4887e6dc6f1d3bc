/- Join, where no two data events follow one another. -/
import Derived.Test.YtnaoobgghgnflaaF12
import Derived.Test.YtnaoobgghgnflaaGrow
import Derived.Deep.DeepCutAuto
namespace Go.Proofs.Ytnaoobgghgnflaa
open Go.RowKit Go.Sort Pl
attribute [local go_sem] growOp growUpon sameUpon
set_option linter.unusedVariables false
set_option linter.unusedSimpArgs false
/-- No two events of data follow one another. -/
def Apart (L : List Ev) : Prop := ∀ j e f, L[j]? = some e → L[j + 1]? = some f → e.k = f.k → f.k ≠ 7 ∧ f.k ≠ 10
theorem pat_of {w : World} {a : Option Addr} {n : Nat} {L : List EvV} (h : SlE w a n L) {j : Nat} {v : EvV} (hv : L[j]? = some v) : ∃ b off, a = some ⟨b, off, none⟩ ∧ PAt w b (off + j * 7) v := by
  obtain ⟨h1, h2⟩ := h
  have hj : j < L.length := (List.getElem?_eq_some_iff.1 hv).1
  obtain ⟨b, off, ha, hc⟩ := h2.resolve_left (by omega)
  exact ⟨b, off, ha, hc j v hv⟩
theorem eapp {w : World} {k : IntKind} {a : Option Addr} {n : Nat} {xs : List Int} (h : SlAt k w a n xs) (hn : a = none → n = 0) : True := trivial
set_option maxRecDepth 100000 in
set_option maxHeartbeats 8000000 in
theorem join_any (W : World) (a0 : Option Addr) (n cap0 : Nat) (Ls : List EvV) (L : List Ev) (hs : SlE W a0 n Ls) (hev : EvL W (fun _ => False) Ls L) (hap : Apart L) (hl : n ≤ 200000) (hpd : ∀ e ∈ L, e.ps.length ≤ 100000 ∧ e.ds.length ≤ 100000) :
    Calls Try.prog 12 #[.slice a0 n cap0] W fun r w' => ∃ a cap Vs, r = .returned (.slice a n cap) ∧ SlE w' a n Vs ∧ EvL w' (fun i => i < W.heap.size) Vs L ∧ (∀ b off, a = some ⟨b, off, none⟩ → W.heap.size ≤ b) ∧ Kept (fun _ => False) W w' := by
  have hLn := hs.1
  have hLL := hev.length
  obtain ⟨i0, hi, hz, hsz, hby⟩ := info_parts info30
  have HI := Lib.hid hi
  have HS := Lib.hid (And.intro hs (And.intro hev (And.intro hap (And.intro hpd (And.intro hLn hLL)))))
  have h63 : (9223372036854775807 : Nat) = maxLen := rfl
  clear hs hev hap hpd hi hLn hLL
  go_enter Try.func12, Try.ntmps12
  go_wp2
  go_loopg [3, 5, 6, 9] n (fun gg g0 _ _ kv wr => ∃ (k : Nat) (gv : Value) (Vs : List EvV), gv = g0 ∧ n ≤ gg + k ∧ k ≤ n ∧ kv = .int .i64 (k : Int) ∧ OwnE wr gv Vs ∧ EvL wr (fun i => gv.ownBlock = some i ∨ i < W.heap.size) Vs (L.take k) ∧ Kept (fun _ => False) W wr ∧ (∀ b, gv.ownBlock = some b → W.heap.size ≤ b))
  case atStart => exact ⟨0, _, [], rfl, by omega, by omega, rfl, OwnE.nil _, trivial, Kept.refl _ _, (fun _ h => by cases h)⟩
  case round =>
    obtain ⟨k, gv, Vs, rfl, hgg, hkn, rfl, hog, hel, hk, hgb⟩ := hrel
    have hVk : Vs.length = k := by rw [hel.length, List.length_take, ← HS.out.2.2.2.2.2, HS.out.2.2.2.2.1]; omega
    by_cases hk1 : k < n
    · have g1 : decide (k < n) = true := decide_eq_true hk1
      have g1' : decide ((k : Int) < (n : Int)) = true := decide_eq_true (by omega)
      have wk : IntKind.i64.wrap ((k : Int) + 1) = (k : Int) + 1 := IntWalk.i64_in _ (by omega)
      have wk1 : IntKind.i64.wrap ((k : Int) - 1) = (k : Int) - 1 := IntWalk.i64_in _ (by omega)
      have hkL : k < Ls.length := by rw [HS.out.2.2.2.2.1]; exact hk1
      obtain ⟨v, hv⟩ : ∃ v, Ls[k]? = some v := ⟨_, List.getElem?_eq_getElem hkL⟩
      obtain ⟨b, off, rfl, hpat⟩ := pat_of HS.out.1 hv
      obtain ⟨e, hLe, hat⟩ := HS.out.2.1.get hv
      have hem : e ∈ L := List.mem_of_getElem? hLe
      obtain ⟨q0, q1, q2, q3, q4, q5, q6⟩ := (hpat.kept hk id).cells
      obtain ⟨W1, hW1⟩ : ∃ W1, wr.alloc (.cells v.cs 30) = W1 := ⟨_, rfl⟩
      have hk1w : Kept (fun _ => False) wr W1 := by rw [← hW1]; exact (Kept.refl _ _).alloc _
      have hb1 : W1.heap[wr.heap.size]? = some (.cells v.cs 30 (0, 0)) := by rw [← hW1]; exact blk_new wr _
      obtain ⟨r0, r1, r2, r3, r4, r5, r6⟩ := blk7 hb1
      obtain ⟨ga, gc, hge, hgs, -⟩ := hog.shape
      rw [hVk] at hge hgs
      obtain ⟨Q, hQ⟩ : ∃ Q, wr.heap.size = Q := ⟨_, rfl⟩
      obtain ⟨E1, hE1⟩ : ∃ E, W1.drew = E := ⟨_, rfl⟩
      have hkE : Kept (fun _ => False) W1 E1 := by rw [← hE1]; exact (Kept.refl _ _).drew
      obtain ⟨x0, x1, x2, x3, x4, x5, x6⟩ := blk7 (hkE.blk hb1 id)
      have HG := Lib.hid (And.intro hog (And.intro hel (And.intro hk (And.intro hgb (And.intro hVk (And.intro hk1w (And.intro hb1 (And.intro hgs (And.intro hLe (And.intro hat (And.intro hem (And.intro hkE (And.intro hv hk1w.size)))))))))))))
      unfold EvV.cs at hW1
      subst hge
      clear hog hel hk hgb hVk hk1w hb1 hkL hv hpat hLe hat hem hkE hgs hQ
      go_upto_region 6 with fail
      go_cut [37] (fun xv wx => xv = .bool false ∧ wx = E1)
      case first =>
        by_cases h0 : k = 0
        · subst h0
          have g0 : decide ((0 : Int) ≤ ((0 : Nat) : Int) - 1) = false := by decide
          have g0' : decide ((0 : Int) ≤ (0 : Int) - 1) = false := by decide
          have g0'' : decide ((0 : Int) ≤ -1) = false := by decide
          refine wp_region_still_lit (by kernel_rfl) (by kernel_rfl) ?_
          refine wpStill_step (fun K hK => ?_)
          go_simp
          repeat (generalize hfr : Act.mk _ _ = fr; refine hK _ ?_; clear hK K; refine wpStill_step (fun K hK => ?_); subst hfr; go_simp)
          generalize hfr : Act.mk _ _ = fr
          refine hK _ ?_
          clear hK K
          refine wpStill_nil ?_
          subst hfr
          try rw [show (World.mk W1.heap W1.tape (W1.drawn + 1) W1.os W1.output) = E1 from hE1]
          go_wp2
          go_meet
          exact ⟨rfl, rfl⟩
        · have g0 : decide ((0 : Int) ≤ (k : Int) - 1) = true := decide_eq_true (by omega)
          have hkv : k - 1 < Vs.length := by rw [HG.out.2.2.2.2.1]; omega
          obtain ⟨u, hu⟩ : ∃ u, Vs[k - 1]? = some u := ⟨_, List.getElem?_eq_getElem hkv⟩
          obtain ⟨f, hf, hfu⟩ := HG.out.2.1.get hu
          have hfL : L[k - 1]? = some f := by rw [List.getElem?_take_of_lt (by omega)] at hf; exact hf
          obtain ⟨b3, o3, rfl, hp3⟩ := pat_of HG.out.2.2.2.2.2.2.2.1 hu
          have hcast : ((k : Int) - 1) = ((k - 1 : Nat) : Int) := by omega
          obtain ⟨K1, hK1⟩ : ∃ m, k - 1 = m := ⟨_, rfl⟩
          rw [hK1] at hcast hp3 hfL
          obtain ⟨y0, -⟩ := (hp3.kept HG.out.2.2.2.2.2.1 id).cells
          obtain ⟨z0, -⟩ := ((hp3.kept HG.out.2.2.2.2.2.1 id).kept HG.out.2.2.2.2.2.2.2.2.2.2.2.1 id).cells
          have hap := HS.out.2.2.1 K1 f e hfL (by have h := HG.out.2.2.2.2.2.2.2.2.1; rw [show K1 + 1 = k by omega]; exact h)
          have hke : v.k = e.k := HG.out.2.2.2.2.2.2.2.2.2.1.1
          have hkf : u.k = f.k := hfu.1
          have hl1 : K1 < k := by omega
          have hl2 : ((k : Int) - 1) < (k : Int) := by omega
          have hl3 : ¬ ((k : Int) - 1) < 0 := by omega
          have htn : ((k : Int) - 1).toNat = K1 := by omega
          have g1k : decide ((1 : Int) ≤ (k : Int)) = true := decide_eq_true (by omega)
          have g1k' : decide (1 ≤ k) = true := decide_eq_true (by omega)
          have htn2 : k - 1 = K1 := hK1
          have hl4 : (1 : Int) ≤ (k : Int) := by omega
          rw [hkf] at y0 z0
          rw [hke] at r0 x0
          by_cases hEq : f.k = e.k
          · obtain ⟨n7, n10⟩ := hap hEq
            have ge : (f.k == e.k) = true := by simp [hEq]
            have g7 : (e.k == 7) = false := by simp [n7]
            have g10 : (e.k == 10) = false := by simp [n10]
            clear hkv hu hf hfu hfL hp3 hap hke hkf hEq n7 n10 hK1 h0
            clear hcast
            refine wp_region_still_lit (by kernel_rfl) (by kernel_rfl) ?_
            refine wpStill_step (fun K hK => ?_)
            go_simp
            repeat (generalize hfr : Act.mk _ _ = fr; refine hK _ ?_; clear hK K; refine wpStill_step (fun K hK => ?_); subst hfr; go_simp)
            generalize hfr : Act.mk _ _ = fr
            refine hK _ ?_
            clear hK K
            refine wpStill_nil ?_
            subst hfr
            try rw [show (World.mk W1.heap W1.tape (W1.drawn + 1) W1.os W1.output) = E1 from hE1]
            go_wp2
            go_meet
            exact ⟨rfl, rfl⟩
          · have ge : (f.k == e.k) = false := by simp [hEq]
            clear hkv hu hf hfu hfL hp3 hap hke hkf hEq hK1 h0
            clear hcast
            refine wp_region_still_lit (by kernel_rfl) (by kernel_rfl) ?_
            refine wpStill_step (fun K hK => ?_)
            go_simp
            repeat (generalize hfr : Act.mk _ _ = fr; refine hK _ ?_; clear hK K; refine wpStill_step (fun K hK => ?_); subst hfr; go_simp)
            generalize hfr : Act.mk _ _ = fr
            refine hK _ ?_
            clear hK K
            refine wpStill_nil ?_
            subst hfr
            try rw [show (World.mk W1.heap W1.tape (W1.drawn + 1) W1.os W1.output) = E1 from hE1]
            go_wp2
            go_meet
            exact ⟨rfl, rfl⟩
      case rest =>
        obtain ⟨hx, hw⟩ := hcut
        subst hx
        subst hw
        obtain ⟨WR, hWR⟩ : ∃ E, E = wc.drew := ⟨_, rfl⟩
        have hkR : Kept (fun _ => False) wc WR := by rw [hWR]; exact (Kept.refl _ _).drew
        have hkWR : Kept (fun _ => False) wr WR := (HG.out.2.2.2.2.2.1.then HG.out.2.2.2.2.2.2.2.2.2.2.2.1).then hkR
        have hbR : WR.heap[wr.heap.size]? = some (.cells v.cs 30 (0, 0)) := (HG.out.2.2.2.2.2.2.2.2.2.2.2.1.then hkR).blk HG.out.2.2.2.2.2.2.1 id
        obtain ⟨-, -, -, -, -, y5, y6⟩ := blk7 hbR
        have X5 := cell_regrown y5
        have X6 := cell_regrown y6
        have hat := HG.out.2.2.2.2.2.2.2.2.2.1
        have hlen := HS.out.2.2.2.1 e HG.out.2.2.2.2.2.2.2.2.2.2.1
        have hkWw : Kept (fun _ => False) W WR := HG.out.2.2.1.then hkWR
        obtain ⟨a1, a2, a3, a4, a5, asp, asd, anp, and_, -, -⟩ := hat
        have hnp : e.ps.length = v.np := asp.1
        have hnd : e.ds.length = v.nd := asd.1
        have HCI := Lib.hid (fun (w' : World) (hk : Kept (fun _ => False) WR w') => clonei_any v.ap v.np v.cp e.ps w' (asp.kept (hkWw.then hk) (fun _ _ _ _ => id)) anp (by omega))
        have HCB := Lib.hid (fun (w' : World) (hk : Kept (fun _ => False) WR w') => clone_any v.ad v.nd v.cd e.ds w' (asd.kept (hkWw.then hk) (fun _ _ _ _ => id)) and_ (by omega))
        obtain ⟨RI, hRI⟩ : ∃ R : Value → World → Prop, R = fun u w' => ∃ a c, u = .slice a v.np c ∧ Own .i64 3 w' (.slice a v.np c) e.ps ∧ ∀ b, (Value.slice a v.np c).ownBlock = some b → WR.heap.size ≤ b := ⟨_, rfl⟩
        obtain ⟨RB, hRB⟩ : ∃ R : Value → World → Prop, R = fun u w' => ∃ a c, u = .slice a v.nd c ∧ Own .u8 5 w' (.slice a v.nd c) e.ds ∧ ∀ b, (Value.slice a v.nd c).ownBlock = some b → WR.heap.size ≤ b := ⟨_, rfl⟩
        have HRI := Lib.hid hRI
        have HRB := Lib.hid hRB
        have HWR := Lib.hid hWR
        have HXX := Lib.hid (And.intro hkWR (And.intro hbR (And.intro hnp (And.intro hnd (And.intro ⟨a1, a2, a3, a4, a5⟩ hkWR.size)))) : Kept (fun _ => False) wr WR ∧ WR.heap[wr.heap.size]? = some (.cells v.cs 30 (0, 0)) ∧ e.ps.length = v.np ∧ e.ds.length = v.nd ∧ (v.k = e.k ∧ v.r = e.r ∧ v.b = e.b ∧ v.pv = e.pv ∧ v.s = e.s) ∧ wr.heap.size ≤ WR.heap.size)
        clear hRI hRB hWR hkR hkWR hbR y5 y6 hlen hkWw a1 a2 a3 a4 a5 asp asd anp and_ hnp hnd r0 r1 r2 r3 r4 r5 r6 x0 x1 x2 x3 x4 x5 x6 q0 q1 q2 q3 q4 q5 q6
        go_wp2
        refine wp_region_grow #[0, 1, 3, 0, 8, 31, 31, 127, 255, 511] 7 [] (fun i => if i = 2 then some RI else if i = 5 then some RB else none) (by kernel_rfl) rfl (by kernel_rfl) (fun i hi => by cases hi) (fun _ _ _ _ _ h => h) ?_
        rintro _ rfl
        rw [← HWR.out]
        simp only [List.take_succ_cons, List.take_zero, List.drop_succ_cons, List.drop_zero, number, Nat.reduceAdd]
        repeat (refine wpGrow_step (fun K hK => ?_); go_simp; refine hK _ _ ?_; clear hK K)
        refine wpGrow_step (fun K hK => ?_)
        go_simp
        refine ⟨fun w' hg => (HCI.out w' hg.old).mono (fun e9 w'' ⟨u, he, ho, hk, hb⟩ => ⟨_, he, hk, by rw [HRI.out]; obtain ⟨va, vc, rfl, -⟩ := ho.shape; rw [HXX.out.2.2.1] at ho hb ⊢; exact ⟨va, vc, rfl, ho, fun b h => Nat.le_trans hg.old.size (hb b h)⟩⟩), fun v2 w2 hv2 hg2 => ?_⟩
        rw [HRI.out] at hv2
        obtain ⟨pa, pc, rfl, hv2⟩ := hv2
        have HV2 := Lib.hid hv2
        clear hv2
        refine hK _ _ ?_; clear hK K
        repeat (refine wpGrow_step (fun K hK => ?_); go_simp; refine hK _ _ ?_; clear hK K)
        refine wpGrow_step (fun K hK => ?_)
        go_simp
        refine ⟨fun w' hg => (HCB.out w' hg.old).mono (fun e9 w'' ⟨u, he, ho, hk, hb⟩ => ⟨_, he, hk, by rw [HRB.out]; obtain ⟨va, vc, rfl, -⟩ := ho.shape; rw [HXX.out.2.2.2.1] at ho hb ⊢; exact ⟨va, vc, rfl, ho, fun b h => Nat.le_trans hg.old.size (hb b h)⟩⟩), fun v5 w5 hv5 hg5 => ?_⟩
        rw [HRB.out] at hv5
        obtain ⟨da, dc, rfl, hv5⟩ := hv5
        have HV5 := Lib.hid hv5
        clear hv5
        refine hK _ _ ?_; clear hK K
        repeat (refine wpGrow_step (fun K hK => ?_); go_simp; refine hK _ _ ?_; clear hK K)
        refine wpGrow_nil ?_
        intro w3 hk3 hω
        have hb3 := hk3.blk HXX.out.2.1 id
        have ho2 : Own .i64 3 w3 (.slice pa v.np pc) e.ps := HV2.out.1.kept (show Kept (fun _ => False) w2 w3 from hω 2) (fun _ _ => id)
        have ho5 : Own .u8 5 w3 (.slice da v.nd dc) e.ds := HV5.out.1.kept (show Kept (fun _ => False) w5 w3 from hω 5) (fun _ _ => id)
        obtain ⟨V2, hV2⟩ : ∃ u : EvV, u = ⟨v.k, v.r, v.b, v.pv, v.s, pa, v.np, pc, da, v.nd, dc⟩ := ⟨_, rfl⟩
        obtain ⟨m0, m1, m2, m3, m4, m5, m6⟩ := blk7 hb3
        have fz5 := blk_free hb3 5
        obtain ⟨U1, hU1⟩ : ∃ U, w3.setCell ⟨wr.heap.size, 5, none⟩ (.slice pa v.np pc) = U := ⟨_, rfl⟩
        have hbU1 : U1.heap[wr.heap.size]? = some (.cells (EvV.cs ⟨v.k, v.r, v.b, v.pv, v.s, pa, v.np, pc, v.ad, v.nd, v.cd⟩) 30 (0, 0)) := by rw [← hU1]; exact blk_set hb3 5 _
        obtain ⟨-, -, -, -, -, -, m6'⟩ := blk7 hbU1
        have fz6 := blk_free hbU1 6
        obtain ⟨U2, hU2⟩ : ∃ U, U1.setCell ⟨wr.heap.size, 6, none⟩ (.slice da v.nd dc) = U := ⟨_, rfl⟩
        have hbU2 : U2.heap[wr.heap.size]? = some (.cells V2.cs 30 (0, 0)) := by rw [← hU2, hV2]; exact blk_set hbU1 6 _
        have hkU : Kept (fun i => i = wr.heap.size) w3 U2 := by rw [← hU2, ← hU1]; exact ((Kept.refl (fun i => i = wr.heap.size) w3).setCell (p := ⟨wr.heap.size, 5, none⟩) (.inl rfl) _).setCell (p := ⟨wr.heap.size, 6, none⟩) (.inl rfl) _
        obtain ⟨n0, n1, n2, n3, n4, n5, n6⟩ := blk7 hbU2
        obtain ⟨W4, hW4⟩ : ∃ W4, U2.alloc (.cells V2.cs 30) = W4 := ⟨_, rfl⟩
        have hk4 : Kept (fun _ => False) U2 W4 := by rw [← hW4]; exact (Kept.refl _ _).alloc _
        have hb4 : W4.heap[U2.heap.size]? = some (.cells V2.cs 30 (0, 0)) := by rw [← hW4]; exact blk_new U2 _
        have hkA : Kept (fun i => i = wr.heap.size) wr W4 := (((HXX.out.1.then hk3).mono (fun _ _ h => h.elim)).then hkU).then (hk4.mono (fun _ _ h => h.elim))
        have hnq : ∀ b, (Value.slice ga k gc).ownBlock = some b → ¬ b = wr.heap.size := fun b hb h => by have := HG.out.1.lt b hb; omega
        have n2lt : ∀ b, (Value.slice pa v.np pc).ownBlock = some b → b < w3.heap.size := ho2.lt
        have n5lt : ∀ b, (Value.slice da v.nd dc).ownBlock = some b → b < w3.heap.size := ho5.lt
        have q2 : ∀ b, (Value.slice pa v.np pc).ownBlock = some b → ¬ b = wr.heap.size := fun b hb h => by obtain ⟨c, hc⟩ := own_blk ho2 hb; exact blk_ne hc hb3 (by decide) h
        have q5 : ∀ b, (Value.slice da v.nd dc).ownBlock = some b → ¬ b = wr.heap.size := fun b hb h => by obtain ⟨c, hc⟩ := own_blk ho5 hb; exact blk_ne hc hb3 (by decide) h
        have hkU4 : Kept (fun i => i = wr.heap.size) w3 W4 := hkU.then (hk4.mono (fun _ _ h => h.elim))
        have HA := Lib.hid (And.intro (HG.out.1.kept hkA hnq) (And.intro (slE_one hb4) (And.intro (ho2.kept hkU4 q2) (And.intro (ho5.kept hkU4 q5) (And.intro hkA (And.intro (hkU.size) (And.intro hk4.size (And.intro (And.intro n2lt n5lt) hV2))))))))
        rw [hV2] at n0 n1 n2 n3 n4 n5 n6 hW4
        unfold EvV.cs at hW4
        simp only at n0 n1 n2 n3 n4 n5 n6 hW4
        have HGV := Lib.hid (show Vs.length = k from HG.out.2.2.2.2.1)
        clear hω hk3 hb3 ho2 ho5 hbU1 hbU2 hkU hk4 hb4 hkA hnq n2lt n5lt q2 q5 hkU4 X5 X6 hV2
        go_wp2_with (first
          | (at_builtin; refine wpList_appE rfl (.tmp 58) (.tmp 60) 26 rfl i0 _ 80 Try.underlying26 HI.out hz hsz hby rfl (.slice ga k gc) Vs rfl HA.out.1 (some ⟨U2.heap.size, 0, none⟩) 1 1 [V2] rfl (fun h => by cases h) HA.out.2.1 (by have := HGV.out; omega) (by have := HGV.out; omega) ?_; intro v8 w8 ho8 hk8 hpr8; have H8 := Lib.hid (And.intro ho8 (And.intro hk8 hpr8)); clear ho8 hk8 hpr8))
        go_roundg (gk - 1)
        case rel =>
          obtain ⟨ho8, hk8, hpr8⟩ := H8.out
          obtain ⟨hgA, hsA, h2A, h5A, hkA, hzU, hz4, ⟨l2, l5⟩, hV2⟩ := HA.out
          have hz3 : wr.heap.size ≤ W4.heap.size := hkA.size
          have hkF : Kept (fun i => i = wr.heap.size ∨ (Value.slice ga k gc).ownBlock = some i) wr w8 := (hkA.mono (fun _ _ h => .inl h)).then (hk8.mono (fun _ _ h => .inr h))
          have hM8 : ∀ i, v8.ownBlock = some i → (Value.slice ga k gc).ownBlock = some i ∨ wr.heap.size ≤ i := by
            intro i hi
            rcases hpr8 with h | h
            · exact .inl (by rw [← h]; exact hi)
            · rw [hi] at h; cases h; exact .inr hz3
          have htk : L.take (k + 1) = L.take k ++ [e] := by rw [List.take_add_one, HG.out.2.2.2.2.2.2.2.2.1]; rfl
          have hgl := HG.out.1.lt
          have hnot2 : ∀ b, (Value.slice pa v.np pc).ownBlock = some b → ¬ v8.ownBlock = some b ∧ ¬ (Value.slice ga k gc).ownBlock = some b := fun b hb => by
            have h1 := HV2.out.2 b hb
            have h9 := l2 b hb
            have hz := HXX.out.2.2.2.2.2
            refine ⟨fun h => ?_, fun h => by have := hgl b h; omega⟩
            rcases hpr8 with h3 | h3
            · rw [h3] at h; have := hgl b h; omega
            · rw [h] at h3; cases h3; omega
          have hnot5 : ∀ b, (Value.slice da v.nd dc).ownBlock = some b → ¬ v8.ownBlock = some b ∧ ¬ (Value.slice ga k gc).ownBlock = some b := fun b hb => by
            have h1 := HV5.out.2 b hb
            have h9 := l5 b hb
            have hz := HXX.out.2.2.2.2.2
            refine ⟨fun h => ?_, fun h => by have := hgl b h; omega⟩
            rcases hpr8 with h3 | h3
            · rw [h3] at h; have := hgl b h; omega
            · rw [h] at h3; cases h3; omega
          have o2 := h2A.kept hk8 (fun b hb h => (hnot2 b hb).2 h)
          have o5 := h5A.kept hk8 (fun b hb h => (hnot5 b hb).2 h)
          have o2l := o2.lt
          have o5l := o5.lt
          obtain ⟨pa', pc', hpe, hsp, -, -, hpn, hpb⟩ := o2.shape
          obtain ⟨da', dc', hde, hsd, -, -, hdn, hdb⟩ := o5.shape
          rw [HXX.out.2.2.1] at hpe hsp hpn
          rw [HXX.out.2.2.2.1] at hde hsd hdn
          cases hpe
          cases hde
          refine ⟨k + 1, v8, Vs ++ [V2], rfl, by omega, by omega, by simp, ho8, ?_, HG.out.2.2.1.trans (hkF.mono fun i hi h => ?_), fun b hb => ?_⟩
          · rw [htk]
            refine (HG.out.2.1.kept hkF (fun i hi h => by rcases h with h | h; omega; exact .inl h) (M' := fun i => v8.ownBlock = some i ∨ i < W.heap.size) (fun i hi => by rcases hi with h | h; exact (hM8 i h).imp .inl id; exact .inl (.inr h))).append ⟨?_, trivial⟩
            rw [hV2]
            obtain ⟨a1, a2, a3, a4, a5⟩ := HXX.out.2.2.2.2.1
            exact ⟨a1, a2, a3, a4, a5, hsp, hsd, hpn, hdn, fun b off h => ⟨fun hh => by rcases hh with hh | hh; exact (hnot2 b (hpb b off h)).1 hh; have h1 := HV2.out.2 b (hpb b off h); have h2 := HXX.out.2.2.2.2.2; have h3 := HG.out.2.2.1.size; omega, o2l b (hpb b off h)⟩, fun b off h => ⟨fun hh => by rcases hh with hh | hh; exact (hnot5 b (hdb b off h)).1 hh; have h1 := HV5.out.2 b (hdb b off h); have h2 := HXX.out.2.2.2.2.2; have h3 := HG.out.2.2.1.size; omega, o5l b (hdb b off h)⟩⟩
          · rcases h with h | h
            · have := HG.out.2.2.1.size; exact .inr (by omega)
            · exact .inr (HG.out.2.2.2.1 i h)
          · rcases hM8 b hb with h | h
            · exact HG.out.2.2.2.1 b h
            · have := HG.out.2.2.1.size; omega
        case measure => omega
    · obtain rfl : k = n := by omega
      have g1 : decide (k < k) = false := decide_eq_false hk1
      have hall : L.take k = L := List.take_of_length_le (by rw [← HS.out.2.2.2.2.2, HS.out.2.2.2.2.1]; omega)
      rw [hall] at hel
      obtain ⟨ga, gc, hge, hgs, -, -, -, hgo⟩ := hog.shape
      rw [hVk] at hge hgs
      have HE := Lib.hid (And.intro hgs (And.intro (hel.kept (Kept.refl (fun _ => False) wr) (fun _ _ h => h.elim) (fun i h => .inl (.inr h)) : EvL wr (fun i => i < W.heap.size) Vs L) (And.intro (fun b off h => hgb b (hgo b off h) : ∀ b off, ga = some ⟨b, off, none⟩ → W.heap.size ≤ b) hk)))
      subst hge
      clear hog hel hk hgb hVk hgs hall hgo
      go_wp2
      go_ret
      first | exact ⟨ga, gc, Vs, rfl, HE.out⟩ | exact ⟨ga, ⟨gc, rfl⟩, Vs, HE.out⟩
end Go.Proofs.Ytnaoobgghgnflaa
