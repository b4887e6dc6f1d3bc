/- A character laid; A character printed; A character that has no room in its line; Wide characters on lines, in plain Lean. -/
import Derived.Test.YtmplpcmcbliadaaGreatDoorBx16
import Derived.Test.YtmplpcmcbliadaaGreatDoorBx11
import Derived.Test.YtmplpcmcbliadaaGreatDoorBx6
set_option linter.unusedVariables false
set_option linter.unusedSimpArgs false
namespace Go.Proofs.YtmplpcmcbliadaaGreatDoor
open Go.RowKit Go.Sort Pl
attribute [local go_sem] growOp growUpon sameUpon
theorem ScrR.of {G Gc : Nat -> Prop} {w u : World} {p : Nat} {P : SP} (h : ScrX Gc u p P) (hg : ∀ i, Gc i -> G i \/ w.heap.size <= i) (hk : Kept G w u) (hl : ∀ i, G i -> i < w.heap.size) : ScrR G w p P u :=
 ⟨h.mono (fun i hi => (hg i hi).imp id (fun h2 => ⟨h2, h.lt i hi⟩)) (fun i hi => by
  rcases hi with hi | hi
  ·exact Nat.lt_of_lt_of_le (hl i hi) hk.size
  ·exact hi.2), hk⟩
def SP.wrapped (P : SP) (r : Int) : SP := if P.c.wrap = true then SP.index { P with ch := r, c := { P.c with col := 0, wrap := false } } else { P with ch := r }
def SP.stand (P : SP) (wd : Nat) (pf : List Cl -> Nat -> List Cl) : SP :=
 { P with L := P.L.set P.c.row.toNat (pf (P.L.getD P.c.row.toNat []) P.c.col.toNat), c := if (P.cols : Int) <= P.c.col + wd then { P.c with col := (P.cols : Int) - 1, wrap := true } else { P.c with col := P.c.col + wd } }
theorem index_ok {P : SP} (ok : SPok P) (ht : P.top <= 80000) : SPok P.index /\ P.index.c.wrap = false /\ P.index.c.col = P.c.col /\ P.index.c.a = P.c.a /\ P.index.cols = P.cols /\ P.index.rows = P.rows /\ P.index.es = P.es /\ P.index.ch = P.ch /\ P.index.top <= P.top + 1 := by
 obtain ⟨h1, h2, h3, h4, h5, h6⟩ := ok
 unfold SP.index
 split
 ·exact ⟨⟨h1, h2, by simp; omega, by simp; omega, h5, h6⟩, rfl, rfl, rfl, rfl, rfl, rfl, rfl, Nat.le_refl _⟩
 ·exact ⟨⟨by simp; omega, h2, h3, h4, h5, h6⟩, rfl, rfl, rfl, rfl, rfl, rfl, rfl, Nat.le_succ _⟩
theorem index_cls {P : SP} {Cls : List Cl -> Prop} (h : ∀ l ∈ P.L, Cls l) (hb : Cls (List.replicate P.cols ⟨0, 0, ⟨0, P.c.a.bg, 0⟩⟩)) : ∀ l ∈ P.index.L, Cls l := by
 unfold SP.index
 split
 ·intro l hl
  rcases List.mem_append.1 hl with h1 | h1
  ·exact h l (List.mem_of_mem_drop h1)
  ·rw [List.mem_singleton.1 h1]; exact hb
 ·exact h
structure PutOk (cols : Nat) (a : Look) (r : Int) (wd : Nat) (Cls : List Cl -> Prop) (Sp : List Cl -> Nat -> Prop) (pf : List Cl -> Nat -> List Cl) : Prop where
 put : ∀ (x : World) (bg c col : Nat) (l : List Cl), OwnC x (.slice (some ⟨bg, 0, none⟩) cols c) l -> Cls l -> Sp l col -> col + wd <= cols -> Calls Tryz.prog 274 #[.slice (some ⟨bg, 0, none⟩) cols c, .int .i64 col, .int .i32 r, .int .i64 wd, lookV a] x fun e x' => ∃ v, e = .returned (.tuple #[v, .bool true]) /\ MadeC x (pf l col) v x'
 res : ∀ (x : World) (bg c : Nat) (l : List Cl), OwnC x (.slice (some ⟨bg, 0, none⟩) cols c) l -> Cls l -> Calls Tryz.prog 350 #[.slice (some ⟨bg, 0, none⟩) cols c, .int .i64 cols] x fun e x' => ∃ v, e = .returned v /\ MadeC x l v x'
 cls : ∀ l col, Cls l -> Sp l col -> l.length = cols -> col + wd <= cols -> Cls (pf l col) /\ (pf l col).length = cols
 blank : Cls (List.replicate cols ⟨0, 0, ⟨0, a.bg, 0⟩⟩)
theorem Kept.trans5 {G Gc : Nat -> Prop} {w a b c d e : World} (h1 : Kept G w a) (h2 : Kept (fun _ => False) a b) (h3 : Kept Gc b c) (hg : ∀ i, Gc i -> G i \/ w.heap.size <= i) (h4 : Kept (fun _ => False) c d) (h5 : Kept G d e) : Kept G w e :=
 (((h1.then (h2.mono fun _ _ h => h.elim)).trans (h3.mono fun i _ h => hg i h)).then (h4.mono fun _ _ h => h.elim)).then h5
set_option maxRecDepth 100000 in
set_option maxHeartbeats 8000000 in
theorem slay_n (G : Nat -> Prop) (p : Nat) (P : SP) (w : World) (hx : ScrX G w p P) (ok : SPok P) (ht : P.top <= 80000) (r : Int) (wd : Nat) (Cls : List Cl -> Prop) (Sp : List Cl -> Nat -> Prop) (pf : List Cl -> Nat -> List Cl) (hwd : 1 <= wd /\ wd <= 2)
  (hW : ∀ x, Calls Tryz.prog 270 #[.int .i32 r] x fun e x' => e = .returned (.int .i64 wd) /\ Kept (fun _ => False) x x')
  (hmode : ∃ i, Instr.findNow (.int .i64) (.int .i64 7) P.es 0 = some (some (i, .bool true))) (hcl : ∀ l ∈ P.L, Cls l) (hp : PutOk P.cols P.c.a r wd Cls Sp pf)
  (hwr : P.c.wrap = false) (hsp : ∀ l, (P.wrapped r).L[(P.wrapped r).c.row.toNat]? = some l -> Sp l (P.wrapped r).c.col.toNat) (hov : (P.wrapped r).c.col + wd <= P.cols) :
  Calls Tryz.prog 192 #[.pointer (some ⟨p, 0, none⟩), .int .i32 r] w fun e w' => (∃ x, e = .returned x) /\ ScrR G w p ((P.wrapped r).stand wd pf) w' := by
 obtain ⟨g0, g1, md, pv, st, tb, G0, G1, h⟩ := hx
 obtain ⟨im, him⟩ := hmode
 obtain ⟨A1, hA1⟩ : ∃ X, w.alloc (.cells #[.pointer (some ⟨p, 0, none⟩)] 85) = X := ⟨_, rfl⟩
 have kA1 : Kept (fun _ => False) w A1 := by rw [<- hA1]; exact (Kept.refl _ _).alloc _
 have bA1 : A1.heap[w.heap.size]? = some (.cells #[.pointer (some ⟨p, 0, none⟩)] 85 (0, 0)) := by rw [<- hA1]; exact blk_new _ _
 obtain ⟨bS, hbS⟩ : ∃ b, w.heap.size = b := ⟨_, rfl⟩
 rw [hbS] at bA1
 obtain ⟨A2, hA2⟩ : ∃ X, A1.alloc (.cells #[.int .i32 r] 21) = X := ⟨_, rfl⟩
 have kA2 : Kept (fun _ => False) A1 A2 := by rw [<- hA2]; exact (Kept.refl _ _).alloc _
 have bA2 : A2.heap[A1.heap.size]? = some (.cells #[.int .i32 r] 21 (0, 0)) := by rw [<- hA2]; exact blk_new _ _
 obtain ⟨bR, hbR⟩ : ∃ b, A1.heap.size = b := ⟨_, rfl⟩
 rw [hbR] at bA2
 have bA12 := kA2.blk bA1 id
 have zS : A2.cell? ⟨bS, 0, none⟩ = some (.pointer (some ⟨p, 0, none⟩)) := blk_cell bA12 0
 have zR : A2.cell? ⟨bR, 0, none⟩ = some (.int .i32 r) := blk_cell bA2 0
 have HW := Lib.hid (hW A2)
 have okr := ok.row
 have okc := ok.col
 have hrr := ok.hr
 have hcc := ok.hc
 have gw0 : ((wd : Int) == 0) = false := by simp; omega
 have eW : P.wrapped r = { P with ch := r } := by unfold SP.wrapped; rw [if_neg (by rw [hwr]; simp)]
 obtain ⟨P1, hP1⟩ : ∃ X, P.wrapped r = X := ⟨_, rfl⟩
 have ok1 : SPok P1 := by rw [<- hP1, eW]; exact ⟨ok.row, ok.col, ok.nl, ok.top, ok.hr, ok.hc⟩
 have hw1 : P1.c.wrap = false := by rw [<- hP1, eW]; exact hwr
 have ha1 : P1.c.a = P.c.a := by rw [<- hP1, eW]
 have hcols1 : P1.cols = P.cols := by rw [<- hP1, eW]
 have hrows1 : P1.rows = P.rows := by rw [<- hP1, eW]
 have hcl1 : ∀ l ∈ P1.L, Cls l := by rw [<- hP1, eW]; exact hcl
 rw [hP1] at hov hsp ⊢
 obtain ⟨R, hR⟩ : ∃ R : Nat, P1.c.row = (R : Int) := ⟨P1.c.row.toNat, by have := ok1.row; omega⟩
 obtain ⟨C, hC⟩ : ∃ C : Nat, P1.c.col = (C : Int) := ⟨P1.c.col.toNat, by have := ok1.col; omega⟩
 have hRt : P1.c.row.toNat = R := by rw [hR]; simp
 have hCt : P1.c.col.toNat = C := by rw [hC]; simp
 obtain ⟨l, hl⟩ : ∃ l, P1.L[R]? = some l := ⟨_, List.getElem?_eq_getElem (by rw [ok1.nl]; have := ok1.row; omega)⟩
 have hgl : P1.L.getD R [] = l := by rw [List.getD_eq_getElem?_getD, hl]; rfl
 have hov2 : C + wd <= P.cols := by omega
 have HSP := Lib.hid (show Sp l C from by have h9 := hsp l (by rw [hRt]; exact hl); rw [hCt] at h9; exact h9)
 clear hsp
 have HEN := Lib.hid (fun hen : ¬ (P.cols : Int) <= P1.c.col + wd => show P1.stand wd pf = { P1 with L := P1.L.set R (pf l C), c := { P1.c with col := P1.c.col + wd } } from by unfold SP.stand; rw [hRt, hCt, hgl, if_neg (by rw [hcols1]; exact hen)])
 have HEP := Lib.hid (fun hen : (P.cols : Int) <= P1.c.col + wd => show P1.stand wd pf = { P1 with L := P1.L.set R (pf l C), c := { P1.c with col := (P1.cols : Int) - 1, wrap := true } } from by unfold SP.stand; rw [hRt, hCt, hgl, if_pos (by rw [hcols1]; exact hen)])
 have HF := Lib.hid (And.intro hR (And.intro hC (And.intro hl (And.intro hcl1 (And.intro hp (And.intro ok1 (And.intro hw1 (And.intro ha1 (And.intro hcols1 hrows1)))))))))
 have HH := Lib.hid (And.intro h (And.intro (kA1.then kA2) (And.intro bA12 (And.intro bA2 (And.intro hbS (And.intro hbR kA1.size))))))
 have HM := Lib.hid him
 have HWR0 := Lib.hid hwr
 have HIX := Lib.hid (hP1.symm.trans eW)
 have gov : decide ((P.cols : Int) < (C : Int) + (wd : Int)) = false := decide_eq_false (by omega)
 have wcw : IntKind.i64.wrap ((C : Int) + (wd : Int)) = (C : Int) + (wd : Int) := IntWalk.i64_in _ (by have := hcc.2; omega)
 have wc1 : IntKind.i64.wrap ((P.cols : Int) - 1) = (P.cols : Int) - 1 := IntWalk.i64_in _ (by omega)
 clear h kA1 kA2 bA1 bA12 bA2 hW him hcl hp hwr hov eW hP1 ok ok1 hw1 ha1 hcols1 hrows1 hcl1 hl hgl hRt hCt
 go_enter Tryz.func192, Tryz.ntmps192
 go_wp2_with fail
 refine HW.out.mono ?_
 rintro e wa ⟨rfl, hka⟩
 obtain ⟨A3, hA3⟩ : ∃ X, wa.alloc (.cells #[.int .i64 wd] 3) = X := ⟨_, rfl⟩
 have kA3 : Kept (fun _ => False) wa A3 := by rw [<- hA3]; exact (Kept.refl _ _).alloc _
 have bA3 : A3.heap[wa.heap.size]? = some (.cells #[.int .i64 wd] 3 (0, 0)) := by rw [<- hA3]; exact blk_new _ _
 obtain ⟨bW, hbW⟩ : ∃ b, wa.heap.size = b := ⟨_, rfl⟩
 rw [hbW] at bA3
 have hK3 := HH.out.1.up (HH.out.2.1.then (hka.then kA3))
 obtain ⟨a1, a2, a3, a4, a5, a6, a7, hg⟩ := hK3.k0
 have HSZ := Lib.hid (ssize_any p a2 P.rows P.cols a3 P.top (P.sn g0 g1 md pv st) A3 hK3.sn hg.gb)
 have zS3 : A3.cell? ⟨bS, 0, none⟩ = some (.pointer (some ⟨p, 0, none⟩)) := blk_cell ((hka.then kA3).blk HH.out.2.2.1 id) 0
 have zR3 : A3.cell? ⟨bR, 0, none⟩ = some (.int .i32 r) := blk_cell ((hka.then kA3).blk HH.out.2.2.2.1 id) 0
 have zW3 : A3.cell? ⟨bW, 0, none⟩ = some (.int .i64 wd) := blk_cell bA3 0
 have HGB := Lib.hid (fun (x : World) (k1 : ∃ wb V1, Kept (fun _ => False) A3 wb /\ Kept (fun i => i = p) wb V1 /\ Kept (fun _ => False) V1 x) => show GrB x g0 a2 P.rows P.cols a3 P.top from by
  obtain ⟨wb, V1, k1, k2, k3⟩ := k1
  exact k3.blk (k2.blk (k1.blk hg.gb id) (fun e => (hK3.nm p (by simp)).1 (by have e2 : g0 = p := e; rw [<- e2]; exact hg.gm))) id)
 have H3 := Lib.hid (And.intro (hka.then kA3) (And.intro bA3 (And.intro hbW (And.intro hka.size hK3))))
 clear hka kA3 bA3 hK3 hg zS zR
 go_wp2_with fail
 refine HSZ.out.mono ?_
 rintro e wb ⟨rfl, hkb⟩
 have hKb := H3.out.2.2.2.2.up hkb
 have q9 := hKb.sn.atH 5 (by omega) (.int .i32 r) (({ P with c := P.c, ch := r } : SP).sn g0 g1 md pv st) rfl rfl rfl
 simp only [Nat.reduceAdd] at q9
 obtain ⟨V1, hV1, ⟨x40, c40⟩, f40, sV1, kV1⟩ := q9
 have hK1 := hKb.own (c := P.c) (ch := r) kV1 sV1
 have nb : bS ≠ p /\ bR ≠ p /\ bW ≠ p := by
  have h1 := HH.out.1.lt p (HH.out.1.sub p (.inr (.inr (.inl rfl))))
  have h2 := HH.out.2.2.2.2.1
  have h3 := HH.out.2.2.2.2.2.1
  have h4 := HH.out.2.2.2.2.2.2
  have h5 := H3.out.2.2.1
  have h6 := H3.out.2.2.2.1
  have h7 := HH.out.2.1.size
  omega
 have bSb := hkb.blk (H3.out.1.blk HH.out.2.2.1 id) id
 have bRb := hkb.blk (H3.out.1.blk HH.out.2.2.2.1 id) id
 have bWb := hkb.blk H3.out.2.1 id
 have bS1 := kV1.blk bSb nb.1
 have bR1 := kV1.blk bRb nb.2.1
 have bW1 := kV1.blk bWb nb.2.2
 have uS : wb.cell? ⟨bS, 0, none⟩ = some (.pointer (some ⟨p, 0, none⟩)) := blk_cell bSb 0
 have uR : wb.cell? ⟨bR, 0, none⟩ = some (.int .i32 r) := blk_cell bRb 0
 have uW : wb.cell? ⟨bW, 0, none⟩ = some (.int .i64 wd) := blk_cell bWb 0
 have vS : V1.cell? ⟨bS, 0, none⟩ = some (.pointer (some ⟨p, 0, none⟩)) := blk_cell bS1 0
 have vR : V1.cell? ⟨bR, 0, none⟩ = some (.int .i32 r) := blk_cell bR1 0
 have vW : V1.cell? ⟨bW, 0, none⟩ = some (.int .i64 wd) := blk_cell bW1 0
 have hlk := mapLook V1 pv 7 true P.es im hK1.m2 HM.out
 obtain ⟨-, -, -, y3, y4, y5, -, -, -, -, -, -, -⟩ := hK1.sn.cells
 obtain ⟨-, y36, -⟩ := hK1.sn.cells2
 simp only [SP.sn] at y3 y4 y5 y36
 rw [HWR0.out] at y5
 have kw1 : Kept G w V1 := (HH.out.2.1.then (H3.out.1.then hkb)).mono (fun _ _ h => h.elim) |>.then (kV1.mono fun i _ e => HH.out.1.sub i (.inr (.inr (.inl e))))
 obtain ⟨V2, hV2, ⟨x5, c5⟩, f5, sV2, kV2⟩ := hK1.sn.at 5 (by omega) (.bool false) (P1.sn g0 g1 md pv st) (by rw [HIX.out]; simp [Sn.lo, SP.sn, HWR0.out]) (by rw [HIX.out]; try rfl) (by rw [HIX.out]; try rfl)
 have hK2 : ScrK G V2 p P1 g0 g1 md pv st tb G0 G1 := by
  have h9 := hK1.own (c := P.c) (ch := r) kV2 (by have h8 := sV2; rw [HIX.out] at h8; exact h8)
  rw [HIX.out]
  exact h9
 have HGC := Lib.hid (show (∀ i, G i -> G i \/ w.heap.size <= i) /\ Kept G w V2 from ⟨fun i hi => .inl hi, kw1.then (kV2.mono fun i _ e => HH.out.1.sub i (.inr (.inr (.inl e))))⟩)
 have bS2 := kV2.blk bS1 nb.1
 have bR2 := kV2.blk bR1 nb.2.1
 have bW2 := kV2.blk bW1 nb.2.2
 have HGE := Lib.hid (show ∀ i, G i -> G i \/ w.heap.size <= i from HGC.out.1)
 have HNG := Lib.hid (show ¬ G0 bS /\ ¬ G0 bW from by
  have h1 := fun i (hi : G0 i) => HH.out.1.lt i (HH.out.1.sub i (.inl hi))
  have h2 := HH.out.2.2.2.2.1
  have h5 := H3.out.2.2.1
  have h6 := H3.out.2.2.2.1
  have h7 := HH.out.2.1.size
  exact ⟨fun h => by have h8 := h1 bS h; omega, fun h => by have h8 := h1 bW h; omega⟩)
 have HK2 := Lib.hid (And.intro hK2 (And.intro bS2 (And.intro bR2 bW2)))
 have HK3 := Lib.hid HGC.out.2
 obtain ⟨W3, hW3⟩ : ∃ X, V2.drew = X := ⟨_, rfl⟩
 have k3 : Kept (fun _ => False) V2 W3 := by rw [<- hW3]; exact (Kept.refl _ _).drew
 have tS : W3.cell? ⟨bS, 0, none⟩ = some (.pointer (some ⟨p, 0, none⟩)) := k3.cell (blk_cell bS2 0) id
 have tW : W3.cell? ⟨bW, 0, none⟩ = some (.int .i64 wd) := k3.cell (blk_cell bW2 0) id
 obtain ⟨-, -, -, r3, r4, -⟩ := hK2.sn.cells
 simp only [SP.sn] at r3 r4
 rw [hR] at r3
 rw [hC] at r4
 have t3 := k3.cell r3 id
 have t4 := k3.cell r4 id
 obtain ⟨WR, hWR⟩ : ∃ WR, WR = W3.drew := ⟨_, rfl⟩
 have kR : Kept (fun _ => False) W3 WR := by rw [hWR]; exact (Kept.refl _ _).drew
 have XS := cell_regrown (show WR.cell? ⟨bS, 0, none⟩ = _ from kR.cell tS id)
 have X3 := cell_regrown (show WR.cell? ⟨p, 3, none⟩ = _ from kR.cell t3 id)
 obtain ⟨Ra, hRa⟩ : ∃ R : Value -> World -> Prop, R = fun v w' => v = .pointer (some ⟨g0, 0, none⟩) := ⟨_, rfl⟩
 have HRa := Lib.hid hRa
 have HWR := Lib.hid (And.intro hWR (k3.then kR))
 have HSG := Lib.hid (fun (x : World) (k : Kept (fun _ => False) WR x) => sg_any p _ x (hK2.sn.kept ((k3.then kR).then k) id))
 clear hKb hK1 sV1 kV1 hK2 sV2 kV2 bSb bRb bWb bS1 bR1 bW1 bS2 bR2 bW2 k3 kR hWR hRa hkb r3 r4 kw1
 go_wp2
 refine wp_region_still_lit (by kernel_rfl) (by kernel_rfl) ?_
 refine wpStill_step (fun K hK => ?_)
 go_simp
 repeat (generalize hfr : Act.mk _ _ = fr; refine hK _ ?_; clear hK K; refine wpStill_step (fun K hK => ?_); subst hfr; go_simp)
 generalize hfr : Act.mk _ _ = fr
 refine hK _ ?_
 clear hK K
 refine wpStill_nil ?_
 subst hfr
 rw [show (World.mk V2.heap V2.tape (V2.drawn + 1) V2.os V2.output) = W3 from hW3]
 go_wp2
 refine wp_region_grow #[0, 1, 0, 4, 12, 28, 60, 0, 255] 8 [] (fun i => if i = 1 then some Ra else none) (by kernel_rfl) rfl (by kernel_rfl) (fun i hi => by cases hi) (fun _ _ _ _ _ h => h) ?_
 rintro _ rfl
 rw [<- HWR.out.1]
 simp only [List.take_succ_cons, List.take_zero, List.drop_succ_cons, List.drop_zero, number, Nat.reduceAdd]
 iterate 1 (refine wpGrow_step (fun K hK => ?_); go_simp; refine hK _ _ ?_; clear hK K)
 refine wpGrow_step (fun K hK => ?_)
 go_simp
 refine ⟨fun w' hg => (HSG.out w' hg.old).mono (fun e w'' ⟨he, hk⟩ => ⟨_, he, hk, by rw [HRa.out]; rfl⟩), fun v1 u1 hv1 _ => ?_⟩
 rw [HRa.out] at hv1
 subst hv1
 refine hK _ _ ?_; clear hK K
 iterate 6 (refine wpGrow_step (fun K hK => ?_); go_simp; refine hK _ _ ?_; clear hK K)
 refine wpGrow_nil ?_
 intro w20 hk20 hω
 have HK20 := Lib.hid (HWR.out.2.then hk20)
 clear hk20 hω
 have hK20 := HK2.out.1.up HK20.out
 obtain ⟨q1, q2, q3, q4, q5, q6, q7, hq⟩ := hK20.k0
 have hcg := gchange_any G0 g0 P1.rows P1.cols P1.most P1.top q1 P1.L P1.B q2 q3 q4 q5 q6 q7 R (.pointer (some ⟨bS, 0, none⟩)) (.pointer (some ⟨bW, 0, none⟩)) (.pointer (some ⟨bR, 0, none⟩)) l (pf l C) w20 hq HF.out.2.2.1 (by
   have h9 := (HF.out.2.2.2.2.1.cls l C (HF.out.2.2.2.1 l (List.mem_of_getElem? HF.out.2.2.1)) HSP.out (by rw [hq.nc l (List.mem_of_getElem? HF.out.2.2.1)]; exact HF.out.2.2.2.2.2.2.2.2.1) hov2).2
   rw [h9]; exact HF.out.2.2.2.2.2.2.2.2.1.symm)
  (fun x bg c k ho => slay1_any p (P1.sn g0 g1 md pv st) [] P1.cols bg c l (pf l C) r wd bS bW bR x (hK20.sn.kept k id) (hK20.m1.kept k id) rfl ((HK20.out.then k).blk HK2.out.2.1 id) ((HK20.out.then k).blk HK2.out.2.2.2 id) ((HK20.out.then k).blk HK2.out.2.2.1 id) (fun y ky => by
   have h9 := HF.out.2.2.2.2.1.put y bg c C l (by rw [<- HF.out.2.2.2.2.2.2.2.2.1]; exact ho.kept ky (fun _ _ => id)) (HF.out.2.2.2.1 l (List.mem_of_getElem? HF.out.2.2.1)) HSP.out hov2
   rw [<- HF.out.2.2.2.2.2.2.2.2.1, <- HF.out.2.2.2.2.2.2.2.1, <- HF.out.2.1] at h9
   exact h9))
  (fun x bg c ho => by
   have hcc9 := (HF.out.2.2.2.2.1.cls l C (HF.out.2.2.2.1 l (List.mem_of_getElem? HF.out.2.2.1)) HSP.out (by rw [hq.nc l (List.mem_of_getElem? HF.out.2.2.1)]; exact HF.out.2.2.2.2.2.2.2.2.1) hov2).1
   have h9 := HF.out.2.2.2.2.1.res x bg c (pf l C) (by rw [<- HF.out.2.2.2.2.2.2.2.2.1]; exact ho) hcc9
   rw [<- HF.out.2.2.2.2.2.2.2.2.1] at h9
   exact h9)
 have HCG := Lib.hid hcg
 have HQM := Lib.hid hq.lm
 have HK21 := Lib.hid hK20
 clear hcg hq hK20 XS X3
 go_wp2_with fail
 refine HCG.out.mono ?_
 rintro e w30 ⟨⟨x30, rfl⟩, ⟨us, hg30⟩, hk30⟩
 have hk30' : Kept G0 w20 w30 := hk30.mono fun i _ h => HQM.out i h
 have hK5 := HK21.out.grid (L := P1.L.set R (pf l C)) (B := P1.B) (top := P1.top) hk30' ⟨_, _, _, _, _, _, _, hg30⟩
 have nG0 := HNG.out
 have bS30 := hk30'.blk (HK20.out.blk HK2.out.2.1 id) nG0.1
 have bW30 := hk30'.blk (HK20.out.blk HK2.out.2.2.2 id) nG0.2
 obtain ⟨WR5, hWR5⟩ : ∃ WR, WR = w30.drew := ⟨_, rfl⟩
 have kR5 : Kept (fun _ => False) w30 WR5 := by rw [hWR5]; exact (Kept.refl _ _).drew
 have Y4 := cell_regrown (show WR5.cell? ⟨p, 4, none⟩ = some (.int .i64 (C : Int)) from kR5.cell (by have h9 := hK5.sn.cells.2.2.2.2.1; simp only [SP.sn] at h9; rw [HF.out.2.1] at h9; exact h9) id)
 have YS := cell_regrown (show WR5.cell? ⟨bS, 0, none⟩ = some (.pointer (some ⟨p, 0, none⟩)) from kR5.cell (blk_cell bS30 0) id)
 have YW := cell_regrown (show WR5.cell? ⟨bW, 0, none⟩ = some (.int .i64 wd) from kR5.cell (blk_cell bW30 0) id)
 have HWR5 := Lib.hid (And.intro hWR5 kR5)
 have H5 := Lib.hid (And.intro hK5 (And.intro bS30 (And.intro bW30 hk30')))
 clear hK5 bS30 bW30 hk30 hk30' hg30 hWR5 kR5 nG0
 go_wp2
 refine wp_region_grow #[0, 1, 3, 7, 15, 0, 63, 127, 255, 511, 1023] 7 [] (fun i => none) (by kernel_rfl) rfl (by kernel_rfl) (fun i hi => by cases hi) (fun _ _ _ _ _ h => h) ?_
 rintro _ rfl
 rw [<- HWR5.out.1]
 simp only [List.take_succ_cons, List.take_zero, List.drop_succ_cons, List.drop_zero, number, Nat.reduceAdd]
 iterate 7 (refine wpGrow_step (fun K hK => ?_); go_simp; refine hK _ _ ?_; clear hK K)
 refine wpGrow_nil ?_
 intro w40 hk40 hω
 have k40 : Kept (fun _ => False) w30 w40 := HWR5.out.2.then hk40
 have hK6 := H5.out.1.up k40
 obtain ⟨V6, hV6, ⟨x4, c4⟩, f4, sV6, kV6⟩ := hK6.sn.at 4 (by omega) (.int .i64 ((C : Int) + (wd : Int))) (({ ({ P1 with L := P1.L.set R (pf l C), B := P1.B, top := P1.top } : SP) with c := { P1.c with col := (C : Int) + (wd : Int) }, ch := P1.ch } : SP).sn g0 g1 md pv st) rfl rfl rfl
 have hK7 := hK6.own (c := { P1.c with col := (C : Int) + (wd : Int) }) (ch := P1.ch) kV6 sV6
 have z4 : V6.cell? ⟨p, 4, none⟩ = some (.int .i64 ((C : Int) + (wd : Int))) := hK7.sn.cells.2.2.2.2.1
 have bS6 := kV6.blk (k40.blk H5.out.2.1 id) nb.1
 have zS6 : V6.cell? ⟨bS, 0, none⟩ = some (.pointer (some ⟨p, 0, none⟩)) := blk_cell bS6 0
 have kV67 : Kept G w V6 := (Kept.trans5 HK3.out HK20.out (H5.out.2.2.2.mono (fun i _ h => HK21.out.sub i (.inl h))) HGE.out k40 (kV6.mono fun i _ e => HH.out.1.sub i (.inr (.inr (.inl e)))))
 by_cases hen : (P.cols : Int) <= (C : Int) + (wd : Int)
 ·have gen : decide ((P.cols : Int) <= (C : Int) + (wd : Int)) = true := decide_eq_true hen
  have HEF := Lib.hid (HEP.out (by have h9 := HF.out.2.1; omega))
  clear hen
  obtain ⟨D, hD⟩ : ∃ X, V6.drew = X := ⟨_, rfl⟩
  have kD : Kept (fun _ => False) V6 D := by rw [<- hD]; exact (Kept.refl _ _).drew
  have hKD := hK7.up kD
  obtain ⟨V7, hV7, ⟨x7, c7⟩, f7, sV7, kV7⟩ := hKD.sn.at 4 (by omega) (.int .i64 ((P.cols : Int) - 1)) (({ ({ P1 with L := P1.L.set R (pf l C), B := P1.B, top := P1.top } : SP) with c := { P1.c with col := (P.cols : Int) - 1 }, ch := P1.ch } : SP).sn g0 g1 md pv st) rfl rfl rfl
  obtain ⟨V8, hV8, ⟨x8, c8⟩, f8, sV8, kV8⟩ := sV7.at 5 (by omega) (.bool true) (({ ({ P1 with L := P1.L.set R (pf l C), B := P1.B, top := P1.top } : SP) with c := { P1.c with col := (P.cols : Int) - 1, wrap := true }, ch := P1.ch } : SP).sn g0 g1 md pv st) rfl rfl rfl
  have hK8 := (hKD.own (c := { P1.c with col := (P.cols : Int) - 1 }) (ch := P1.ch) kV7 sV7).own (c := { P1.c with col := (P.cols : Int) - 1, wrap := true }) (ch := P1.ch) kV8 sV8
  have bSD := kD.blk bS6 id
  have zD : D.cell? ⟨bS, 0, none⟩ = some (.pointer (some ⟨p, 0, none⟩)) := blk_cell bSD 0
  have zV7 : V7.cell? ⟨bS, 0, none⟩ = some (.pointer (some ⟨p, 0, none⟩)) := blk_cell (kV7.blk bSD nb.1) 0
  have f7b := sV7.free 5
  have c7b := hKD.sn.cells.2.2.2.2.2.1
  have kV68 : Kept G w V8 := ((kV67.then (kD.mono fun _ _ h => h.elim)).then (kV7.mono fun i _ e => HH.out.1.sub i (.inr (.inr (.inl e))))).then (kV8.mono fun i _ e => HH.out.1.sub i (.inr (.inr (.inl e))))
  have H7 := Lib.hid (And.intro hK8 (And.intro bS6 kV68))
  clear hK6 hK7 sV6 kV6 bS6 kV67 hk40 hω k40 Y4 YS YW kD hKD sV7 kV7 sV8 kV8 hK8 bSD kV68
  go_wp2
  go_region
  all_goals go_wp2
  all_goals go_end0
  all_goals
   refine ⟨⟨_, rfl⟩, ?_⟩
   rw [HEF.out]
   try rw [<- HF.out.1]
   try rw [HF.out.2.2.2.2.2.2.2.2.1]
   have h9 := H7.out.1
   rw [HF.out.2.2.2.2.2.2.2.2.1] at h9
   exact ScrR.of ⟨g0, g1, md, pv, st, tb, _, G1, h9⟩ (fun i hi => by
    rcases hi with hi | hi
    ·exact HGE.out i hi
    ·have h1 := HK3.out.size; have h2 := HK20.out.size; exact .inr (by omega)) H7.out.2.2 HH.out.1.lt
 ·have gen : decide ((P.cols : Int) <= (C : Int) + (wd : Int)) = false := decide_eq_false hen
  have HEF := Lib.hid (HEN.out (by have h9 := HF.out.2.1; omega))
  clear hen
  have H7 := Lib.hid (And.intro hK7 (And.intro bS6 kV67))
  clear hK6 hK7 sV6 kV6 bS6 kV67 hk40 hω k40 Y4 YS YW
  go_wp2
  go_end0
  refine ⟨⟨_, rfl⟩, ?_⟩
  rw [HEF.out, HF.out.2.1]
  exact ScrR.of ⟨g0, g1, md, pv, st, tb, _, G1, H7.out.1⟩ (fun i hi => by
   rcases hi with hi | hi
   ·exact HGE.out i hi
   ·have h1 := HK3.out.size; have h2 := HK20.out.size; exact .inr (by omega)) H7.out.2.2 HH.out.1.lt
set_option maxRecDepth 100000 in
set_option maxHeartbeats 8000000 in
theorem slay_w (G : Nat -> Prop) (p : Nat) (P : SP) (w : World) (hx : ScrX G w p P) (ok : SPok P) (ht : P.top <= 80000) (r : Int) (wd : Nat) (Cls : List Cl -> Prop) (Sp : List Cl -> Nat -> Prop) (pf : List Cl -> Nat -> List Cl) (hwd : 1 <= wd /\ wd <= 2)
  (hW : ∀ x, Calls Tryz.prog 270 #[.int .i32 r] x fun e x' => e = .returned (.int .i64 wd) /\ Kept (fun _ => False) x x')
  (hmode : ∃ i, Instr.findNow (.int .i64) (.int .i64 7) P.es 0 = some (some (i, .bool true))) (hcl : ∀ l ∈ P.L, Cls l) (hp : PutOk P.cols P.c.a r wd Cls Sp pf)
  (hwr : P.c.wrap = true) (hsp : ∀ l, (P.wrapped r).L[(P.wrapped r).c.row.toNat]? = some l -> Sp l (P.wrapped r).c.col.toNat) (hov : (P.wrapped r).c.col + wd <= P.cols) :
  Calls Tryz.prog 192 #[.pointer (some ⟨p, 0, none⟩), .int .i32 r] w fun e w' => (∃ x, e = .returned x) /\ ScrR G w p ((P.wrapped r).stand wd pf) w' := by
 obtain ⟨g0, g1, md, pv, st, tb, G0, G1, h⟩ := hx
 obtain ⟨im, him⟩ := hmode
 obtain ⟨A1, hA1⟩ : ∃ X, w.alloc (.cells #[.pointer (some ⟨p, 0, none⟩)] 85) = X := ⟨_, rfl⟩
 have kA1 : Kept (fun _ => False) w A1 := by rw [<- hA1]; exact (Kept.refl _ _).alloc _
 have bA1 : A1.heap[w.heap.size]? = some (.cells #[.pointer (some ⟨p, 0, none⟩)] 85 (0, 0)) := by rw [<- hA1]; exact blk_new _ _
 obtain ⟨bS, hbS⟩ : ∃ b, w.heap.size = b := ⟨_, rfl⟩
 rw [hbS] at bA1
 obtain ⟨A2, hA2⟩ : ∃ X, A1.alloc (.cells #[.int .i32 r] 21) = X := ⟨_, rfl⟩
 have kA2 : Kept (fun _ => False) A1 A2 := by rw [<- hA2]; exact (Kept.refl _ _).alloc _
 have bA2 : A2.heap[A1.heap.size]? = some (.cells #[.int .i32 r] 21 (0, 0)) := by rw [<- hA2]; exact blk_new _ _
 obtain ⟨bR, hbR⟩ : ∃ b, A1.heap.size = b := ⟨_, rfl⟩
 rw [hbR] at bA2
 have bA12 := kA2.blk bA1 id
 have zS : A2.cell? ⟨bS, 0, none⟩ = some (.pointer (some ⟨p, 0, none⟩)) := blk_cell bA12 0
 have zR : A2.cell? ⟨bR, 0, none⟩ = some (.int .i32 r) := blk_cell bA2 0
 have HW := Lib.hid (hW A2)
 have okr := ok.row
 have okc := ok.col
 have hrr := ok.hr
 have hcc := ok.hc
 have gw0 : ((wd : Int) == 0) = false := by simp; omega
 have eW : P.wrapped r = SP.index { P with ch := r, c := { P.c with col := 0, wrap := false } } := by unfold SP.wrapped; rw [if_pos hwr]
 have okX : SPok { P with ch := r, c := { P.c with col := 0, wrap := false } } := ⟨okr, by simp; omega, ok.nl, ok.top, hrr, hcc⟩
 have hio := index_ok okX ht
 have hic := index_cls (P := { P with ch := r, c := { P.c with col := 0, wrap := false } }) hcl hp.blank
 obtain ⟨P1, hP1⟩ : ∃ X, P.wrapped r = X := ⟨_, rfl⟩
 rw [<- eW, hP1] at hio hic
 obtain ⟨ok1, hw1, hc1, ha1, hcols1, hrows1, hes1, hch1, htop1⟩ := hio
 have hcl1 := hic
 rw [hP1] at hov hsp ⊢
 obtain ⟨R, hR⟩ : ∃ R : Nat, P1.c.row = (R : Int) := ⟨P1.c.row.toNat, by have := ok1.row; omega⟩
 obtain ⟨C, hC⟩ : ∃ C : Nat, P1.c.col = (C : Int) := ⟨P1.c.col.toNat, by have := ok1.col; omega⟩
 have hRt : P1.c.row.toNat = R := by rw [hR]; simp
 have hCt : P1.c.col.toNat = C := by rw [hC]; simp
 obtain ⟨l, hl⟩ : ∃ l, P1.L[R]? = some l := ⟨_, List.getElem?_eq_getElem (by rw [ok1.nl]; have := ok1.row; omega)⟩
 have hgl : P1.L.getD R [] = l := by rw [List.getD_eq_getElem?_getD, hl]; rfl
 have hov2 : C + wd <= P.cols := by omega
 have HSP := Lib.hid (show Sp l C from by have h9 := hsp l (by rw [hRt]; exact hl); rw [hCt] at h9; exact h9)
 clear hsp
 have HEN := Lib.hid (fun hen : ¬ (P.cols : Int) <= P1.c.col + wd => show P1.stand wd pf = { P1 with L := P1.L.set R (pf l C), c := { P1.c with col := P1.c.col + wd } } from by unfold SP.stand; rw [hRt, hCt, hgl, if_neg (by rw [hcols1]; exact hen)])
 have HEP := Lib.hid (fun hen : (P.cols : Int) <= P1.c.col + wd => show P1.stand wd pf = { P1 with L := P1.L.set R (pf l C), c := { P1.c with col := (P1.cols : Int) - 1, wrap := true } } from by unfold SP.stand; rw [hRt, hCt, hgl, if_pos (by rw [hcols1]; exact hen)])
 have HF := Lib.hid (And.intro hR (And.intro hC (And.intro hl (And.intro hcl1 (And.intro hp (And.intro ok1 (And.intro hw1 (And.intro ha1 (And.intro hcols1 hrows1)))))))))
 have HH := Lib.hid (And.intro h (And.intro (kA1.then kA2) (And.intro bA12 (And.intro bA2 (And.intro hbS (And.intro hbR kA1.size))))))
 have HM := Lib.hid him
 have HWR0 := Lib.hid hwr
 have HIX := Lib.hid (And.intro okX (And.intro (hP1.symm.trans eW) ok))
 have gov : decide ((P.cols : Int) < (C : Int) + (wd : Int)) = false := decide_eq_false (by omega)
 have wcw : IntKind.i64.wrap ((C : Int) + (wd : Int)) = (C : Int) + (wd : Int) := IntWalk.i64_in _ (by have := hcc.2; omega)
 have wc1 : IntKind.i64.wrap ((P.cols : Int) - 1) = (P.cols : Int) - 1 := IntWalk.i64_in _ (by omega)
 clear h kA1 kA2 bA1 bA12 bA2 hW him hcl hp hwr hov eW hP1 ok ok1 hw1 ha1 hcols1 hrows1 hcl1 hl hgl hRt hCt
 clear okX hc1 hes1 hch1 htop1
 go_enter Tryz.func192, Tryz.ntmps192
 go_wp2_with fail
 refine HW.out.mono ?_
 rintro e wa ⟨rfl, hka⟩
 obtain ⟨A3, hA3⟩ : ∃ X, wa.alloc (.cells #[.int .i64 wd] 3) = X := ⟨_, rfl⟩
 have kA3 : Kept (fun _ => False) wa A3 := by rw [<- hA3]; exact (Kept.refl _ _).alloc _
 have bA3 : A3.heap[wa.heap.size]? = some (.cells #[.int .i64 wd] 3 (0, 0)) := by rw [<- hA3]; exact blk_new _ _
 obtain ⟨bW, hbW⟩ : ∃ b, wa.heap.size = b := ⟨_, rfl⟩
 rw [hbW] at bA3
 have hK3 := HH.out.1.up (HH.out.2.1.then (hka.then kA3))
 obtain ⟨a1, a2, a3, a4, a5, a6, a7, hg⟩ := hK3.k0
 have HSZ := Lib.hid (ssize_any p a2 P.rows P.cols a3 P.top (P.sn g0 g1 md pv st) A3 hK3.sn hg.gb)
 have zS3 : A3.cell? ⟨bS, 0, none⟩ = some (.pointer (some ⟨p, 0, none⟩)) := blk_cell ((hka.then kA3).blk HH.out.2.2.1 id) 0
 have zR3 : A3.cell? ⟨bR, 0, none⟩ = some (.int .i32 r) := blk_cell ((hka.then kA3).blk HH.out.2.2.2.1 id) 0
 have zW3 : A3.cell? ⟨bW, 0, none⟩ = some (.int .i64 wd) := blk_cell bA3 0
 have HGB := Lib.hid (fun (x : World) (k1 : ∃ wb V1, Kept (fun _ => False) A3 wb /\ Kept (fun i => i = p) wb V1 /\ Kept (fun _ => False) V1 x) => show GrB x g0 a2 P.rows P.cols a3 P.top from by
  obtain ⟨wb, V1, k1, k2, k3⟩ := k1
  exact k3.blk (k2.blk (k1.blk hg.gb id) (fun e => (hK3.nm p (by simp)).1 (by have e2 : g0 = p := e; rw [<- e2]; exact hg.gm))) id)
 have H3 := Lib.hid (And.intro (hka.then kA3) (And.intro bA3 (And.intro hbW (And.intro hka.size hK3))))
 clear hka kA3 bA3 hK3 hg zS zR
 go_wp2_with fail
 refine HSZ.out.mono ?_
 rintro e wb ⟨rfl, hkb⟩
 have hKb := H3.out.2.2.2.2.up hkb
 have q9 := hKb.sn.atH 5 (by omega) (.int .i32 r) (({ P with c := P.c, ch := r } : SP).sn g0 g1 md pv st) rfl rfl rfl
 simp only [Nat.reduceAdd] at q9
 obtain ⟨V1, hV1, ⟨x40, c40⟩, f40, sV1, kV1⟩ := q9
 have hK1 := hKb.own (c := P.c) (ch := r) kV1 sV1
 have nb : bS ≠ p /\ bR ≠ p /\ bW ≠ p := by
  have h1 := HH.out.1.lt p (HH.out.1.sub p (.inr (.inr (.inl rfl))))
  have h2 := HH.out.2.2.2.2.1
  have h3 := HH.out.2.2.2.2.2.1
  have h4 := HH.out.2.2.2.2.2.2
  have h5 := H3.out.2.2.1
  have h6 := H3.out.2.2.2.1
  have h7 := HH.out.2.1.size
  omega
 have bSb := hkb.blk (H3.out.1.blk HH.out.2.2.1 id) id
 have bRb := hkb.blk (H3.out.1.blk HH.out.2.2.2.1 id) id
 have bWb := hkb.blk H3.out.2.1 id
 have bS1 := kV1.blk bSb nb.1
 have bR1 := kV1.blk bRb nb.2.1
 have bW1 := kV1.blk bWb nb.2.2
 have uS : wb.cell? ⟨bS, 0, none⟩ = some (.pointer (some ⟨p, 0, none⟩)) := blk_cell bSb 0
 have uR : wb.cell? ⟨bR, 0, none⟩ = some (.int .i32 r) := blk_cell bRb 0
 have uW : wb.cell? ⟨bW, 0, none⟩ = some (.int .i64 wd) := blk_cell bWb 0
 have vS : V1.cell? ⟨bS, 0, none⟩ = some (.pointer (some ⟨p, 0, none⟩)) := blk_cell bS1 0
 have vR : V1.cell? ⟨bR, 0, none⟩ = some (.int .i32 r) := blk_cell bR1 0
 have vW : V1.cell? ⟨bW, 0, none⟩ = some (.int .i64 wd) := blk_cell bW1 0
 have hlk := mapLook V1 pv 7 true P.es im hK1.m2 HM.out
 obtain ⟨-, -, -, y3, y4, y5, -, -, -, -, -, -, -⟩ := hK1.sn.cells
 obtain ⟨-, y36, -⟩ := hK1.sn.cells2
 simp only [SP.sn] at y3 y4 y5 y36
 rw [HWR0.out] at y5
 have kw1 : Kept G w V1 := (HH.out.2.1.then (H3.out.1.then hkb)).mono (fun _ _ h => h.elim) |>.then (kV1.mono fun i _ e => HH.out.1.sub i (.inr (.inr (.inl e))))
 obtain ⟨WR7, hWR7⟩ : ∃ WR, WR = V1.drew := ⟨_, rfl⟩
 have kR7 : Kept (fun _ => False) V1 WR7 := by rw [hWR7]; exact (Kept.refl _ _).drew
 have M3 := cell_regrown (show WR7.cell? ⟨p, 3, none⟩ = _ from kR7.cell y3 id)
 have MS := cell_regrown (show WR7.cell? ⟨bS, 0, none⟩ = _ from kR7.cell vS id)
 have HTO := Lib.hid (fun (x : World) (k : Kept (fun _ => False) WR7 x) => sto_any p a2 P.rows P.cols a3 P.top (({ P with c := P.c, ch := r } : SP).sn g0 g1 md pv st) P.c.row 0 P.c.row 0 x (hK1.sn.kept (kR7.then k) id) (HGB.out x ⟨wb, V1, hkb, kV1, kR7.then k⟩) hrr hcc (by omega) (by omega))
 have HWR7 := Lib.hid (And.intro hWR7 kR7)
 have H1 := Lib.hid (And.intro hK1 (And.intro kw1 (And.intro bS1 (And.intro bR1 bW1))))
 clear hKb hK1 sV1 kV1 bSb bRb bWb bS1 bR1 bW1 hkb kw1 hWR7 kR7
 go_wp2
 refine wp_region_grow #[0, 0, 2, 6, 14, 30, 63] 6 [] (fun i => none) (by kernel_rfl) rfl (by kernel_rfl) (fun i hi => by cases hi) (fun _ _ _ _ _ h => h) ?_
 rintro _ rfl
 rw [<- HWR7.out.1]
 simp only [List.take_succ_cons, List.take_zero, List.drop_succ_cons, List.drop_zero, number, Nat.reduceAdd]
 iterate 6 (refine wpGrow_step (fun K hK => ?_); go_simp; refine hK _ _ ?_; clear hK K)
 refine wpGrow_nil ?_
 intro w6 hk6 hω
 have HT := Lib.hid (HTO.out w6 hk6)
 have HK6 := Lib.hid (HWR7.out.2.then hk6)
 clear hk6 hω M3 MS
 go_wp2_with fail
 refine HT.out.mono ?_
 rintro e w7 ⟨⟨x7', rfl⟩, hs7, hk7⟩
 have hKt := (H1.out.1.up HK6.out).own (c := { P.c with col := 0, wrap := false }) (ch := r) hk7 hs7
 have HSI := Lib.hid (sindex_any G p { P with ch := r, c := { P.c with col := 0, wrap := false } } w7 ⟨_, _, _, _, _, _, _, _, hKt⟩ HIX.out.1)
 have bS7 := hk7.blk (HK6.out.blk H1.out.2.2.1 id) nb.1
 have bR7 := hk7.blk (HK6.out.blk H1.out.2.2.2.1 id) nb.2.1
 have bW7 := hk7.blk (HK6.out.blk H1.out.2.2.2.2 id) nb.2.2
 have mS7 : w7.cell? ⟨bS, 0, none⟩ = some (.pointer (some ⟨p, 0, none⟩)) := blk_cell bS7 0
 have H7a := Lib.hid (And.intro bS7 (And.intro bR7 (And.intro bW7 (And.intro (H1.out.2.1.then ((HK6.out.mono (S' := G) fun _ _ h => h.elim).then (hk7.mono fun i _ e => HH.out.1.sub i (.inr (.inr (.inl e)))))) (And.intro (lt_of_blk bS7) (lt_of_blk bW7))))))
 clear hs7 hk7 hKt bS7 bR7 bW7
 go_wp2_with fail
 refine HSI.out.mono ?_
 rintro e w8 ⟨⟨x8', rfl⟩, ⟨g0, g1, md, pv, st, tb, G0, G1, hK8⟩, hk8⟩
 rw [<- HIX.out.2.1] at hK8
 have nGb : ¬ G bS /\ ¬ G bR /\ ¬ G bW := by
  have h1 := HH.out.1.lt
  have h2 := HH.out.2.2.2.2.1
  have h3 := HH.out.2.2.2.2.2.1
  have h4 := HH.out.2.2.2.2.2.2
  have h5 := H3.out.2.2.1
  have h6 := H3.out.2.2.2.1
  have h7 := HH.out.2.1.size
  exact ⟨fun h => by have h8 := h1 bS h; omega, fun h => by have h8 := h1 bR h; omega, fun h => by have h8 := h1 bW h; omega⟩
 have bS8 := hk8.blk H7a.out.1 nGb.1
 have bR8 := hk8.blk H7a.out.2.1 nGb.2.1
 have bW8 := hk8.blk H7a.out.2.2.1 nGb.2.2
 obtain ⟨V2, hV2, ⟨x5, c5⟩, f5, sV2, kV2⟩ := hK8.sn.at 5 (by omega) (.bool false) (P1.sn g0 g1 md pv st) (by simp [Sn.lo, SP.sn, HF.out.2.2.2.2.2.2.1]) rfl rfl
 have hK2 : ScrK (Gn G w7 w8) V2 p P1 g0 g1 md pv st tb G0 G1 := hK8.own (c := P1.c) (ch := P1.ch) kV2 sV2
 have HGC := Lib.hid (show True /\ Kept G w V2 from ⟨trivial, (H7a.out.2.2.2.1.then hk8).then (kV2.mono fun i _ e => HH.out.1.sub i (.inr (.inr (.inl e))))⟩)
 have bS2 := kV2.blk bS8 nb.1
 have bR2 := kV2.blk bR8 nb.2.1
 have bW2 := kV2.blk bW8 nb.2.2
 have HGE := Lib.hid (show ∀ i, Gn G w7 w8 i -> G i \/ w.heap.size <= i from fun i hi => hi.imp id (fun h => by have h1 := H7a.out.2.2.2.1.size; omega))
 have HNG := Lib.hid (show ¬ G0 bS /\ ¬ G0 bW from by
  have h1 := fun i (hi : G0 i) => hK8.sub i (.inl hi)
  have h5 := H7a.out.2.2.2.2.1
  have h6 := H7a.out.2.2.2.2.2
  exact ⟨fun h => by rcases h1 bS h with h8 | h8; exact nGb.1 h8; omega, fun h => by rcases h1 bW h with h8 | h8; exact nGb.2.2 h8; omega⟩)
 have mS8 : w8.cell? ⟨bS, 0, none⟩ = some (.pointer (some ⟨p, 0, none⟩)) := blk_cell bS8 0
 have hK1 := hK2
 have sV1 := sV2
 have kV1 := kV2
 have hKb := hK2
 have bSb := bS2
 have bRb := bS2
 have bWb := bS2
 have bS1 := bS2
 have bR1 := bS2
 have bW1 := bS2
 have hkb := kV2
 have kw1 := kV2
 have HK2 := Lib.hid (And.intro hK2 (And.intro bS2 (And.intro bR2 bW2)))
 have HK3 := Lib.hid HGC.out.2
 obtain ⟨W3, hW3⟩ : ∃ X, V2.drew = X := ⟨_, rfl⟩
 have k3 : Kept (fun _ => False) V2 W3 := by rw [<- hW3]; exact (Kept.refl _ _).drew
 have tS : W3.cell? ⟨bS, 0, none⟩ = some (.pointer (some ⟨p, 0, none⟩)) := k3.cell (blk_cell bS2 0) id
 have tW : W3.cell? ⟨bW, 0, none⟩ = some (.int .i64 wd) := k3.cell (blk_cell bW2 0) id
 obtain ⟨-, -, -, r3, r4, -⟩ := hK2.sn.cells
 simp only [SP.sn] at r3 r4
 rw [hR] at r3
 rw [hC] at r4
 have t3 := k3.cell r3 id
 have t4 := k3.cell r4 id
 obtain ⟨WR, hWR⟩ : ∃ WR, WR = W3.drew := ⟨_, rfl⟩
 have kR : Kept (fun _ => False) W3 WR := by rw [hWR]; exact (Kept.refl _ _).drew
 have XS := cell_regrown (show WR.cell? ⟨bS, 0, none⟩ = _ from kR.cell tS id)
 have X3 := cell_regrown (show WR.cell? ⟨p, 3, none⟩ = _ from kR.cell t3 id)
 obtain ⟨Ra, hRa⟩ : ∃ R : Value -> World -> Prop, R = fun v w' => v = .pointer (some ⟨g0, 0, none⟩) := ⟨_, rfl⟩
 have HRa := Lib.hid hRa
 have HWR := Lib.hid (And.intro hWR (k3.then kR))
 have HSG := Lib.hid (fun (x : World) (k : Kept (fun _ => False) WR x) => sg_any p _ x (hK2.sn.kept ((k3.then kR).then k) id))
 clear hKb hK1 sV1 kV1 hK2 sV2 kV2 bSb bRb bWb bS1 bR1 bW1 bS2 bR2 bW2 k3 kR hWR hRa hkb r3 r4 kw1
 go_wp2
 refine wp_region_still_lit (by kernel_rfl) (by kernel_rfl) ?_
 refine wpStill_step (fun K hK => ?_)
 go_simp
 repeat (generalize hfr : Act.mk _ _ = fr; refine hK _ ?_; clear hK K; refine wpStill_step (fun K hK => ?_); subst hfr; go_simp)
 generalize hfr : Act.mk _ _ = fr
 refine hK _ ?_
 clear hK K
 refine wpStill_nil ?_
 subst hfr
 rw [show (World.mk V2.heap V2.tape (V2.drawn + 1) V2.os V2.output) = W3 from hW3]
 go_wp2
 refine wp_region_grow #[0, 1, 0, 4, 12, 28, 60, 0, 255] 8 [] (fun i => if i = 1 then some Ra else none) (by kernel_rfl) rfl (by kernel_rfl) (fun i hi => by cases hi) (fun _ _ _ _ _ h => h) ?_
 rintro _ rfl
 rw [<- HWR.out.1]
 simp only [List.take_succ_cons, List.take_zero, List.drop_succ_cons, List.drop_zero, number, Nat.reduceAdd]
 iterate 1 (refine wpGrow_step (fun K hK => ?_); go_simp; refine hK _ _ ?_; clear hK K)
 refine wpGrow_step (fun K hK => ?_)
 go_simp
 refine ⟨fun w' hg => (HSG.out w' hg.old).mono (fun e w'' ⟨he, hk⟩ => ⟨_, he, hk, by rw [HRa.out]; rfl⟩), fun v1 u1 hv1 _ => ?_⟩
 rw [HRa.out] at hv1
 subst hv1
 refine hK _ _ ?_; clear hK K
 iterate 6 (refine wpGrow_step (fun K hK => ?_); go_simp; refine hK _ _ ?_; clear hK K)
 refine wpGrow_nil ?_
 intro w20 hk20 hω
 have HK20 := Lib.hid (HWR.out.2.then hk20)
 clear hk20 hω
 have hK20 := HK2.out.1.up HK20.out
 obtain ⟨q1, q2, q3, q4, q5, q6, q7, hq⟩ := hK20.k0
 have hcg := gchange_any G0 g0 P1.rows P1.cols P1.most P1.top q1 P1.L P1.B q2 q3 q4 q5 q6 q7 R (.pointer (some ⟨bS, 0, none⟩)) (.pointer (some ⟨bW, 0, none⟩)) (.pointer (some ⟨bR, 0, none⟩)) l (pf l C) w20 hq HF.out.2.2.1 (by
   have h9 := (HF.out.2.2.2.2.1.cls l C (HF.out.2.2.2.1 l (List.mem_of_getElem? HF.out.2.2.1)) HSP.out (by rw [hq.nc l (List.mem_of_getElem? HF.out.2.2.1)]; exact HF.out.2.2.2.2.2.2.2.2.1) hov2).2
   rw [h9]; exact HF.out.2.2.2.2.2.2.2.2.1.symm)
  (fun x bg c k ho => slay1_any p (P1.sn g0 g1 md pv st) [] P1.cols bg c l (pf l C) r wd bS bW bR x (hK20.sn.kept k id) (hK20.m1.kept k id) rfl ((HK20.out.then k).blk HK2.out.2.1 id) ((HK20.out.then k).blk HK2.out.2.2.2 id) ((HK20.out.then k).blk HK2.out.2.2.1 id) (fun y ky => by
   have h9 := HF.out.2.2.2.2.1.put y bg c C l (by rw [<- HF.out.2.2.2.2.2.2.2.2.1]; exact ho.kept ky (fun _ _ => id)) (HF.out.2.2.2.1 l (List.mem_of_getElem? HF.out.2.2.1)) HSP.out hov2
   rw [<- HF.out.2.2.2.2.2.2.2.2.1, <- HF.out.2.2.2.2.2.2.2.1, <- HF.out.2.1] at h9
   exact h9))
  (fun x bg c ho => by
   have hcc9 := (HF.out.2.2.2.2.1.cls l C (HF.out.2.2.2.1 l (List.mem_of_getElem? HF.out.2.2.1)) HSP.out (by rw [hq.nc l (List.mem_of_getElem? HF.out.2.2.1)]; exact HF.out.2.2.2.2.2.2.2.2.1) hov2).1
   have h9 := HF.out.2.2.2.2.1.res x bg c (pf l C) (by rw [<- HF.out.2.2.2.2.2.2.2.2.1]; exact ho) hcc9
   rw [<- HF.out.2.2.2.2.2.2.2.2.1] at h9
   exact h9)
 have HCG := Lib.hid hcg
 have HQM := Lib.hid hq.lm
 have HK21 := Lib.hid hK20
 clear hcg hq hK20 XS X3
 go_wp2_with fail
 refine HCG.out.mono ?_
 rintro e w30 ⟨⟨x30, rfl⟩, ⟨us, hg30⟩, hk30⟩
 have hk30' : Kept G0 w20 w30 := hk30.mono fun i _ h => HQM.out i h
 have hK5 := HK21.out.grid (L := P1.L.set R (pf l C)) (B := P1.B) (top := P1.top) hk30' ⟨_, _, _, _, _, _, _, hg30⟩
 have nG0 := HNG.out
 have bS30 := hk30'.blk (HK20.out.blk HK2.out.2.1 id) nG0.1
 have bW30 := hk30'.blk (HK20.out.blk HK2.out.2.2.2 id) nG0.2
 obtain ⟨WR5, hWR5⟩ : ∃ WR, WR = w30.drew := ⟨_, rfl⟩
 have kR5 : Kept (fun _ => False) w30 WR5 := by rw [hWR5]; exact (Kept.refl _ _).drew
 have Y4 := cell_regrown (show WR5.cell? ⟨p, 4, none⟩ = some (.int .i64 (C : Int)) from kR5.cell (by have h9 := hK5.sn.cells.2.2.2.2.1; simp only [SP.sn] at h9; rw [HF.out.2.1] at h9; exact h9) id)
 have YS := cell_regrown (show WR5.cell? ⟨bS, 0, none⟩ = some (.pointer (some ⟨p, 0, none⟩)) from kR5.cell (blk_cell bS30 0) id)
 have YW := cell_regrown (show WR5.cell? ⟨bW, 0, none⟩ = some (.int .i64 wd) from kR5.cell (blk_cell bW30 0) id)
 have HWR5 := Lib.hid (And.intro hWR5 kR5)
 have H5 := Lib.hid (And.intro hK5 (And.intro bS30 (And.intro bW30 hk30')))
 clear hK5 bS30 bW30 hk30 hk30' hg30 hWR5 kR5 nG0
 go_wp2
 refine wp_region_grow #[0, 1, 3, 7, 15, 0, 63, 127, 255, 511, 1023] 7 [] (fun i => none) (by kernel_rfl) rfl (by kernel_rfl) (fun i hi => by cases hi) (fun _ _ _ _ _ h => h) ?_
 rintro _ rfl
 rw [<- HWR5.out.1]
 simp only [List.take_succ_cons, List.take_zero, List.drop_succ_cons, List.drop_zero, number, Nat.reduceAdd]
 iterate 7 (refine wpGrow_step (fun K hK => ?_); go_simp; refine hK _ _ ?_; clear hK K)
 refine wpGrow_nil ?_
 intro w40 hk40 hω
 have k40 : Kept (fun _ => False) w30 w40 := HWR5.out.2.then hk40
 have hK6 := H5.out.1.up k40
 obtain ⟨V6, hV6, ⟨x4, c4⟩, f4, sV6, kV6⟩ := hK6.sn.at 4 (by omega) (.int .i64 ((C : Int) + (wd : Int))) (({ ({ P1 with L := P1.L.set R (pf l C), B := P1.B, top := P1.top } : SP) with c := { P1.c with col := (C : Int) + (wd : Int) }, ch := P1.ch } : SP).sn g0 g1 md pv st) rfl rfl rfl
 have hK7 := hK6.own (c := { P1.c with col := (C : Int) + (wd : Int) }) (ch := P1.ch) kV6 sV6
 have z4 : V6.cell? ⟨p, 4, none⟩ = some (.int .i64 ((C : Int) + (wd : Int))) := hK7.sn.cells.2.2.2.2.1
 have bS6 := kV6.blk (k40.blk H5.out.2.1 id) nb.1
 have zS6 : V6.cell? ⟨bS, 0, none⟩ = some (.pointer (some ⟨p, 0, none⟩)) := blk_cell bS6 0
 have kV67 : Kept G w V6 := (Kept.trans5 HK3.out HK20.out (H5.out.2.2.2.mono (fun i _ h => HK21.out.sub i (.inl h))) HGE.out k40 (kV6.mono fun i _ e => HH.out.1.sub i (.inr (.inr (.inl e)))))
 by_cases hen : (P.cols : Int) <= (C : Int) + (wd : Int)
 ·have gen : decide ((P.cols : Int) <= (C : Int) + (wd : Int)) = true := decide_eq_true hen
  have HEF := Lib.hid (HEP.out (by have h9 := HF.out.2.1; omega))
  clear hen
  obtain ⟨D, hD⟩ : ∃ X, V6.drew = X := ⟨_, rfl⟩
  have kD : Kept (fun _ => False) V6 D := by rw [<- hD]; exact (Kept.refl _ _).drew
  have hKD := hK7.up kD
  obtain ⟨V7, hV7, ⟨x7, c7⟩, f7, sV7, kV7⟩ := hKD.sn.at 4 (by omega) (.int .i64 ((P.cols : Int) - 1)) (({ ({ P1 with L := P1.L.set R (pf l C), B := P1.B, top := P1.top } : SP) with c := { P1.c with col := (P.cols : Int) - 1 }, ch := P1.ch } : SP).sn g0 g1 md pv st) rfl rfl rfl
  obtain ⟨V8, hV8, ⟨x8, c8⟩, f8, sV8, kV8⟩ := sV7.at 5 (by omega) (.bool true) (({ ({ P1 with L := P1.L.set R (pf l C), B := P1.B, top := P1.top } : SP) with c := { P1.c with col := (P.cols : Int) - 1, wrap := true }, ch := P1.ch } : SP).sn g0 g1 md pv st) rfl rfl rfl
  have hK8 := (hKD.own (c := { P1.c with col := (P.cols : Int) - 1 }) (ch := P1.ch) kV7 sV7).own (c := { P1.c with col := (P.cols : Int) - 1, wrap := true }) (ch := P1.ch) kV8 sV8
  have bSD := kD.blk bS6 id
  have zD : D.cell? ⟨bS, 0, none⟩ = some (.pointer (some ⟨p, 0, none⟩)) := blk_cell bSD 0
  have zV7 : V7.cell? ⟨bS, 0, none⟩ = some (.pointer (some ⟨p, 0, none⟩)) := blk_cell (kV7.blk bSD nb.1) 0
  have f7b := sV7.free 5
  have c7b := hKD.sn.cells.2.2.2.2.2.1
  have kV68 : Kept G w V8 := ((kV67.then (kD.mono fun _ _ h => h.elim)).then (kV7.mono fun i _ e => HH.out.1.sub i (.inr (.inr (.inl e))))).then (kV8.mono fun i _ e => HH.out.1.sub i (.inr (.inr (.inl e))))
  have H7 := Lib.hid (And.intro hK8 (And.intro bS6 kV68))
  clear hK6 hK7 sV6 kV6 bS6 kV67 hk40 hω k40 Y4 YS YW kD hKD sV7 kV7 sV8 kV8 hK8 bSD kV68
  go_wp2
  go_region
  all_goals go_wp2
  all_goals go_end0
  all_goals
   refine ⟨⟨_, rfl⟩, ?_⟩
   rw [HEF.out]
   try rw [<- HF.out.1]
   try rw [HF.out.2.2.2.2.2.2.2.2.1]
   have h9 := H7.out.1
   rw [HF.out.2.2.2.2.2.2.2.2.1] at h9
   exact ScrR.of ⟨g0, g1, md, pv, st, tb, _, G1, h9⟩ (fun i hi => by
    rcases hi with hi | hi
    ·exact HGE.out i hi
    ·have h1 := HK3.out.size; have h2 := HK20.out.size; exact .inr (by omega)) H7.out.2.2 HH.out.1.lt
 ·have gen : decide ((P.cols : Int) <= (C : Int) + (wd : Int)) = false := decide_eq_false hen
  have HEF := Lib.hid (HEN.out (by have h9 := HF.out.2.1; omega))
  clear hen
  have H7 := Lib.hid (And.intro hK7 (And.intro bS6 kV67))
  clear hK6 hK7 sV6 kV6 bS6 kV67 hk40 hω k40 Y4 YS YW
  go_wp2
  go_end0
  refine ⟨⟨_, rfl⟩, ?_⟩
  rw [HEF.out, HF.out.2.1]
  exact ScrR.of ⟨g0, g1, md, pv, st, tb, _, G1, H7.out.1⟩ (fun i hi => by
   rcases hi with hi | hi
   ·exact HGE.out i hi
   ·have h1 := HK3.out.size; have h2 := HK20.out.size; exact .inr (by omega)) H7.out.2.2 HH.out.1.lt
theorem slay_any (G : Nat -> Prop) (p : Nat) (P : SP) (w : World) (hx : ScrX G w p P) (ok : SPok P) (ht : P.top <= 80000) (r : Int) (wd : Nat) (Cls : List Cl -> Prop) (Sp : List Cl -> Nat -> Prop) (pf : List Cl -> Nat -> List Cl) (hwd : 1 <= wd /\ wd <= 2)
  (hW : ∀ x, Calls Tryz.prog 270 #[.int .i32 r] x fun e x' => e = .returned (.int .i64 wd) /\ Kept (fun _ => False) x x')
  (hmode : ∃ i, Instr.findNow (.int .i64) (.int .i64 7) P.es 0 = some (some (i, .bool true))) (hcl : ∀ l ∈ P.L, Cls l) (hp : PutOk P.cols P.c.a r wd Cls Sp pf) (hsp : ∀ l, (P.wrapped r).L[(P.wrapped r).c.row.toNat]? = some l -> Sp l (P.wrapped r).c.col.toNat) (hov : (P.wrapped r).c.col + wd <= P.cols) :
  Calls Tryz.prog 192 #[.pointer (some ⟨p, 0, none⟩), .int .i32 r] w fun e w' => (∃ x, e = .returned x) /\ ScrR G w p ((P.wrapped r).stand wd pf) w' := by
 cases hwr : P.c.wrap with
 | false => exact slay_n G p P w hx ok ht r wd Cls Sp pf hwd hW hmode hcl hp hwr hsp hov
 | true => exact slay_w G p P w hx ok ht r wd Cls Sp pf hwd hW hmode hcl hp hwr hsp hov
end Go.Proofs.YtmplpcmcbliadaaGreatDoor
namespace Go.Proofs.YtmplpcmcbliadaaGreatDoor
open Go.RowKit Go.Sort Pl
attribute [local go_sem] growOp growUpon sameUpon
theorem graphic_B (b : Nat) : graphicI 66 b = (b : Int) := by
 unfold graphicI
 simp
set_option maxRecDepth 100000 in
set_option maxHeartbeats 8000000 in
theorem sprint_any (G : Nat -> Prop) (p : Nat) (P P' : SP) (w : World) (hx : ScrX G w p P) (h0 : P.c.s0 = 66) (hs : P.c.sh = 0) (r : Int) (hr : 0 <= r /\ r <= 2000000)
  (hlay : ∀ x, Kept (fun _ => False) w x -> Calls Tryz.prog 192 #[.pointer (some ⟨p, 0, none⟩), .int .i32 r] x fun e w' => (∃ x, e = .returned x) /\ ScrR G x p P' w') :
  Calls Tryz.prog 132 #[.pointer (some ⟨p, 0, none⟩), .int .i32 r] w fun e w' => (∃ x, e = .returned x) /\ ScrR G w p P' w' := by
 have g0 : decide ((0 : Int) <= r) = true := decide_eq_true hr.1
 have HL := Lib.hid hlay
 obtain ⟨ga, gb, md, pv, st, tb, G0, G1, h⟩ := hx
 obtain ⟨-, -, -, -, -, -, -, -, -, -, y10, y11, y12⟩ := h.sn.cells
 simp only [SP.sn] at y10 y12
 rw [h0] at y10
 rw [hs] at y12
 by_cases h80 : r < 128
 ·have g1 : decide (r < 128) = true := decide_eq_true h80
  obtain ⟨k, rfl⟩ : ∃ k : Nat, r = (k : Int) := ⟨r.toNat, by omega⟩
  have wk : IntKind.u8.wrap (k : Int) = (k : Int) := by rw [IntKind.wrap_u8]; omega
  obtain ⟨WR, hWR⟩ : ∃ WR, WR = w.drew := ⟨_, rfl⟩
  have kR : Kept (fun _ => False) w WR := by rw [hWR]; exact (Kept.refl _ _).drew
  have X10 := cell_regrown (show WR.cell? ⟨p, 10, none⟩ = _ from kR.cell y10 id)
  have X12 := cell_regrown (show WR.cell? ⟨p, 12, none⟩ = _ from kR.cell y12 id)
  obtain ⟨R, hR⟩ : ∃ R : Value -> World -> Prop, R = fun v w' => v = .int .i32 (k : Int) := ⟨_, rfl⟩
  have HRR := Lib.hid hR
  have HWR := Lib.hid (And.intro hWR kR)
  have HGR := Lib.hid (fun (x : World) => show Calls Tryz.prog 191 #[.int .u8 66, .int .u8 (k : Int)] x fun e w' => e = .returned (.int .i32 (k : Int)) /\ Kept (fun _ => False) x w' from by
   have h9 := graphic_any 66 k x (by omega) (by omega)
   rw [graphic_B] at h9
   exact h9)
  clear h y10 y11 y12 kR hR hWR hlay
  go_enter Tryz.func132, Tryz.ntmps132
  go_wp2
  refine wp_region_grow #[0, 0, 2, 6, 14, 30, 1, 65, 193, 511, 1023, 0, 2048, 8191, 16383] 14 [] (fun i => if i = 13 then some R else none) (by kernel_rfl) rfl (by kernel_rfl) (fun i hi => by cases hi) (fun _ _ _ _ _ h => h) ?_
  rintro _ rfl
  rw [<- HWR.out.1]
  simp only [List.take_succ_cons, List.take_zero, List.drop_succ_cons, List.drop_zero, number, Nat.reduceAdd]
  iterate 13 (refine wpGrow_step (fun K hK => ?_); go_simp; refine hK _ _ ?_; clear hK K)
  refine wpGrow_step (fun K hK => ?_)
  go_simp
  refine ⟨fun w' hg => (HGR.out w').mono (fun e w'' ⟨he, hk⟩ => ⟨_, he, hk, by rw [HRR.out]⟩), fun v1 u1 hv1 _ => ?_⟩
  rw [HRR.out] at hv1
  subst hv1
  refine hK _ _ ?_; clear hK K
  refine wpGrow_nil ?_
  intro w20 hk20 hω
  have HK20 := Lib.hid (HWR.out.2.then hk20)
  clear hk20 hω X10 X12
  go_wp2_with fail
  refine (HL.out w20 HK20.out).mono ?_
  rintro e w30 ⟨⟨x30, rfl⟩, hr30⟩
  have H30 := Lib.hid (ScrR.pre HK20.out hr30)
  clear hr30
  go_wp2
  go_end0
  exact ⟨⟨_, rfl⟩, H30.out⟩
 ·have g1 : decide (r < 128) = false := decide_eq_false h80
  clear h y10 y11 y12 hlay
  go_enter Tryz.func132, Tryz.ntmps132
  go_wp2_with fail
  refine (HL.out w (Kept.refl _ _)).mono ?_
  rintro e w30 ⟨⟨x30, rfl⟩, hr30⟩
  have H30 := Lib.hid hr30
  clear hr30
  go_wp2
  go_end0
  exact ⟨⟨_, rfl⟩, H30.out⟩
end Go.Proofs.YtmplpcmcbliadaaGreatDoor
namespace Go.Proofs.YtmplpcmcbliadaaGreatDoor
open Go.RowKit Go.Sort Pl
attribute [local go_sem] growOp growUpon sameUpon
def SP.over (P : SP) (r : Int) : SP := SP.index { P with ch := r, c := { P.c with col := 0, wrap := false } }
set_option maxRecDepth 100000 in
set_option maxHeartbeats 8000000 in
theorem slay_o (G : Nat -> Prop) (p : Nat) (P : SP) (w : World) (hx : ScrX G w p P) (ok : SPok P) (ht : P.top <= 80000) (r : Int) (wd : Nat) (Cls : List Cl -> Prop) (Sp : List Cl -> Nat -> Prop) (pf : List Cl -> Nat -> List Cl) (hwd : 1 <= wd /\ wd <= 2)
  (hW : ∀ x, Calls Tryz.prog 270 #[.int .i32 r] x fun e x' => e = .returned (.int .i64 wd) /\ Kept (fun _ => False) x x')
  (hmode : ∃ i, Instr.findNow (.int .i64) (.int .i64 7) P.es 0 = some (some (i, .bool true))) (hcl : ∀ l ∈ P.L, Cls l) (hp : PutOk P.cols P.c.a r wd Cls Sp pf)
  (hwr : P.c.wrap = false) (hno : (P.cols : Int) < P.c.col + wd) (hwc : wd <= P.cols) (hsp : ∀ l, (P.over r).L[(P.over r).c.row.toNat]? = some l -> Sp l (P.over r).c.col.toNat) (hov : (P.over r).c.col + wd <= P.cols) :
  Calls Tryz.prog 192 #[.pointer (some ⟨p, 0, none⟩), .int .i32 r] w fun e w' => (∃ x, e = .returned x) /\ ScrR G w p ((P.over r).stand wd pf) w' := by
 obtain ⟨g0, g1, md, pv, st, tb, G0, G1, h⟩ := hx
 obtain ⟨im, him⟩ := hmode
 obtain ⟨A1, hA1⟩ : ∃ X, w.alloc (.cells #[.pointer (some ⟨p, 0, none⟩)] 85) = X := ⟨_, rfl⟩
 have kA1 : Kept (fun _ => False) w A1 := by rw [<- hA1]; exact (Kept.refl _ _).alloc _
 have bA1 : A1.heap[w.heap.size]? = some (.cells #[.pointer (some ⟨p, 0, none⟩)] 85 (0, 0)) := by rw [<- hA1]; exact blk_new _ _
 obtain ⟨bS, hbS⟩ : ∃ b, w.heap.size = b := ⟨_, rfl⟩
 rw [hbS] at bA1
 obtain ⟨A2, hA2⟩ : ∃ X, A1.alloc (.cells #[.int .i32 r] 21) = X := ⟨_, rfl⟩
 have kA2 : Kept (fun _ => False) A1 A2 := by rw [<- hA2]; exact (Kept.refl _ _).alloc _
 have bA2 : A2.heap[A1.heap.size]? = some (.cells #[.int .i32 r] 21 (0, 0)) := by rw [<- hA2]; exact blk_new _ _
 obtain ⟨bR, hbR⟩ : ∃ b, A1.heap.size = b := ⟨_, rfl⟩
 rw [hbR] at bA2
 have bA12 := kA2.blk bA1 id
 have zS : A2.cell? ⟨bS, 0, none⟩ = some (.pointer (some ⟨p, 0, none⟩)) := blk_cell bA12 0
 have zR : A2.cell? ⟨bR, 0, none⟩ = some (.int .i32 r) := blk_cell bA2 0
 have HW := Lib.hid (hW A2)
 have okr := ok.row
 have okc := ok.col
 have hrr := ok.hr
 have hcc := ok.hc
 have gw0 : ((wd : Int) == 0) = false := by simp; omega
 have eW : P.over r = SP.index { P with ch := r, c := { P.c with col := 0, wrap := false } } := rfl
 have okX : SPok { P with ch := r, c := { P.c with col := 0, wrap := false } } := ⟨okr, by simp; omega, ok.nl, ok.top, hrr, hcc⟩
 have hio := index_ok okX ht
 have hic := index_cls (P := { P with ch := r, c := { P.c with col := 0, wrap := false } }) hcl hp.blank
 obtain ⟨P1, hP1⟩ : ∃ X, P.over r = X := ⟨_, rfl⟩
 rw [<- eW, hP1] at hio hic
 obtain ⟨ok1, hw1, hc1, ha1, hcols1, hrows1, hes1, hch1, htop1⟩ := hio
 have hcl1 := hic
 rw [hP1] at hov hsp ⊢
 obtain ⟨R, hR⟩ : ∃ R : Nat, P1.c.row = (R : Int) := ⟨P1.c.row.toNat, by have := ok1.row; omega⟩
 obtain ⟨C, hC⟩ : ∃ C : Nat, P1.c.col = (C : Int) := ⟨P1.c.col.toNat, by have := ok1.col; omega⟩
 have hRt : P1.c.row.toNat = R := by rw [hR]; simp
 have hCt : P1.c.col.toNat = C := by rw [hC]; simp
 obtain ⟨l, hl⟩ : ∃ l, P1.L[R]? = some l := ⟨_, List.getElem?_eq_getElem (by rw [ok1.nl]; have := ok1.row; omega)⟩
 have hgl : P1.L.getD R [] = l := by rw [List.getD_eq_getElem?_getD, hl]; rfl
 have hov2 : C + wd <= P.cols := by omega
 have HSP := Lib.hid (show Sp l C from by have h9 := hsp l (by rw [hRt]; exact hl); rw [hCt] at h9; exact h9)
 clear hsp
 have HEN := Lib.hid (fun hen : ¬ (P.cols : Int) <= P1.c.col + wd => show P1.stand wd pf = { P1 with L := P1.L.set R (pf l C), c := { P1.c with col := P1.c.col + wd } } from by unfold SP.stand; rw [hRt, hCt, hgl, if_neg (by rw [hcols1]; exact hen)])
 have HEP := Lib.hid (fun hen : (P.cols : Int) <= P1.c.col + wd => show P1.stand wd pf = { P1 with L := P1.L.set R (pf l C), c := { P1.c with col := (P1.cols : Int) - 1, wrap := true } } from by unfold SP.stand; rw [hRt, hCt, hgl, if_pos (by rw [hcols1]; exact hen)])
 have HF := Lib.hid (And.intro hR (And.intro hC (And.intro hl (And.intro hcl1 (And.intro hp (And.intro ok1 (And.intro hw1 (And.intro ha1 (And.intro hcols1 hrows1)))))))))
 have HH := Lib.hid (And.intro h (And.intro (kA1.then kA2) (And.intro bA12 (And.intro bA2 (And.intro hbS (And.intro hbR kA1.size))))))
 have HM := Lib.hid him
 have HWR0 := Lib.hid hwr
 have HIX := Lib.hid (And.intro okX (And.intro (hP1.symm.trans eW) ok))
 obtain ⟨C0, hC0⟩ : ∃ C : Nat, P.c.col = (C : Int) := ⟨P.c.col.toNat, by omega⟩
 have HC0 := Lib.hid hC0
 have gov0 : decide ((P.cols : Int) < (C0 : Int) + (wd : Int)) = true := decide_eq_true (by omega)
 have gwc : decide ((P.cols : Int) < (wd : Int)) = false := decide_eq_false (by omega)
 have gwc' : decide (P.cols < wd) = false := decide_eq_false (by omega)
 have wcw0 : IntKind.i64.wrap ((C0 : Int) + (wd : Int)) = (C0 : Int) + (wd : Int) := IntWalk.i64_in _ (by have := hcc.2; have := okc; omega)
 have gov : decide ((P.cols : Int) < (C : Int) + (wd : Int)) = false := decide_eq_false (by omega)
 have wcw : IntKind.i64.wrap ((C : Int) + (wd : Int)) = (C : Int) + (wd : Int) := IntWalk.i64_in _ (by have := hcc.2; omega)
 have wc1 : IntKind.i64.wrap ((P.cols : Int) - 1) = (P.cols : Int) - 1 := IntWalk.i64_in _ (by omega)
 clear hno hwc hC0 okX hc1 hes1 hch1 htop1
 clear h kA1 kA2 bA1 bA12 bA2 hW him hcl hp hwr hov eW hP1 ok ok1 hw1 ha1 hcols1 hrows1 hcl1 hl hgl hRt hCt
 go_enter Tryz.func192, Tryz.ntmps192
 go_wp2_with fail
 refine HW.out.mono ?_
 rintro e wa ⟨rfl, hka⟩
 obtain ⟨A3, hA3⟩ : ∃ X, wa.alloc (.cells #[.int .i64 wd] 3) = X := ⟨_, rfl⟩
 have kA3 : Kept (fun _ => False) wa A3 := by rw [<- hA3]; exact (Kept.refl _ _).alloc _
 have bA3 : A3.heap[wa.heap.size]? = some (.cells #[.int .i64 wd] 3 (0, 0)) := by rw [<- hA3]; exact blk_new _ _
 obtain ⟨bW, hbW⟩ : ∃ b, wa.heap.size = b := ⟨_, rfl⟩
 rw [hbW] at bA3
 have hK3 := HH.out.1.up (HH.out.2.1.then (hka.then kA3))
 obtain ⟨a1, a2, a3, a4, a5, a6, a7, hg⟩ := hK3.k0
 have HSZ := Lib.hid (ssize_any p a2 P.rows P.cols a3 P.top (P.sn g0 g1 md pv st) A3 hK3.sn hg.gb)
 have zS3 : A3.cell? ⟨bS, 0, none⟩ = some (.pointer (some ⟨p, 0, none⟩)) := blk_cell ((hka.then kA3).blk HH.out.2.2.1 id) 0
 have zR3 : A3.cell? ⟨bR, 0, none⟩ = some (.int .i32 r) := blk_cell ((hka.then kA3).blk HH.out.2.2.2.1 id) 0
 have zW3 : A3.cell? ⟨bW, 0, none⟩ = some (.int .i64 wd) := blk_cell bA3 0
 have HGB := Lib.hid (fun (x : World) (k1 : ∃ wb V1, Kept (fun _ => False) A3 wb /\ Kept (fun i => i = p) wb V1 /\ Kept (fun _ => False) V1 x) => show GrB x g0 a2 P.rows P.cols a3 P.top from by
  obtain ⟨wb, V1, k1, k2, k3⟩ := k1
  exact k3.blk (k2.blk (k1.blk hg.gb id) (fun e => (hK3.nm p (by simp)).1 (by have e2 : g0 = p := e; rw [<- e2]; exact hg.gm))) id)
 have H3 := Lib.hid (And.intro (hka.then kA3) (And.intro bA3 (And.intro hbW (And.intro hka.size hK3))))
 clear hka kA3 bA3 hK3 hg zS zR
 go_wp2_with fail
 refine HSZ.out.mono ?_
 rintro e wb ⟨rfl, hkb⟩
 have hKb := H3.out.2.2.2.2.up hkb
 have q9 := hKb.sn.atH 5 (by omega) (.int .i32 r) (({ P with c := P.c, ch := r } : SP).sn g0 g1 md pv st) rfl rfl rfl
 simp only [Nat.reduceAdd] at q9
 obtain ⟨V1, hV1, ⟨x40, c40⟩, f40, sV1, kV1⟩ := q9
 have hK1 := hKb.own (c := P.c) (ch := r) kV1 sV1
 have nb : bS ≠ p /\ bR ≠ p /\ bW ≠ p := by
  have h1 := HH.out.1.lt p (HH.out.1.sub p (.inr (.inr (.inl rfl))))
  have h2 := HH.out.2.2.2.2.1
  have h3 := HH.out.2.2.2.2.2.1
  have h4 := HH.out.2.2.2.2.2.2
  have h5 := H3.out.2.2.1
  have h6 := H3.out.2.2.2.1
  have h7 := HH.out.2.1.size
  omega
 have bSb := hkb.blk (H3.out.1.blk HH.out.2.2.1 id) id
 have bRb := hkb.blk (H3.out.1.blk HH.out.2.2.2.1 id) id
 have bWb := hkb.blk H3.out.2.1 id
 have bS1 := kV1.blk bSb nb.1
 have bR1 := kV1.blk bRb nb.2.1
 have bW1 := kV1.blk bWb nb.2.2
 have uS : wb.cell? ⟨bS, 0, none⟩ = some (.pointer (some ⟨p, 0, none⟩)) := blk_cell bSb 0
 have uR : wb.cell? ⟨bR, 0, none⟩ = some (.int .i32 r) := blk_cell bRb 0
 have uW : wb.cell? ⟨bW, 0, none⟩ = some (.int .i64 wd) := blk_cell bWb 0
 have vS : V1.cell? ⟨bS, 0, none⟩ = some (.pointer (some ⟨p, 0, none⟩)) := blk_cell bS1 0
 have vR : V1.cell? ⟨bR, 0, none⟩ = some (.int .i32 r) := blk_cell bR1 0
 have vW : V1.cell? ⟨bW, 0, none⟩ = some (.int .i64 wd) := blk_cell bW1 0
 have hlk := mapLook V1 pv 7 true P.es im hK1.m2 HM.out
 obtain ⟨-, -, -, y3, y4, y5, -, -, -, -, -, -, -⟩ := hK1.sn.cells
 obtain ⟨-, y36, -⟩ := hK1.sn.cells2
 simp only [SP.sn] at y3 y4 y5 y36
 rw [HWR0.out] at y5
 have kw1 : Kept G w V1 := (HH.out.2.1.then (H3.out.1.then hkb)).mono (fun _ _ h => h.elim) |>.then (kV1.mono fun i _ e => HH.out.1.sub i (.inr (.inr (.inl e))))
 obtain ⟨V2, hV2, ⟨x5, c5⟩, f5, sV2, kV2⟩ := hK1.sn.at 5 (by omega) (.bool false) (({ P with c := P.c, ch := r } : SP).sn g0 g1 md pv st) (by simp [Sn.lo, SP.sn, HWR0.out]) rfl rfl
 have hK2o := hK1.own (c := P.c) (ch := r) kV2 sV2
 have bS2 := kV2.blk bS1 nb.1
 have bR2 := kV2.blk bR1 nb.2.1
 have bW2 := kV2.blk bW1 nb.2.2
 obtain ⟨W3, hW3⟩ : ∃ X, V2.drew = X := ⟨_, rfl⟩
 have k3 : Kept (fun _ => False) V2 W3 := by rw [<- hW3]; exact (Kept.refl _ _).drew
 have tS : W3.cell? ⟨bS, 0, none⟩ = some (.pointer (some ⟨p, 0, none⟩)) := k3.cell (blk_cell bS2 0) id
 have tW : W3.cell? ⟨bW, 0, none⟩ = some (.int .i64 wd) := k3.cell (blk_cell bW2 0) id
 obtain ⟨-, -, -, r3, r4, -⟩ := hK2o.sn.cells
 simp only [SP.sn] at r3 r4
 rw [HC0.out] at r4
 have t3 := k3.cell r3 id
 have t4 := k3.cell r4 id
 obtain ⟨WR7, hWR7⟩ : ∃ WR, WR = W3.drew := ⟨_, rfl⟩
 have kR7 : Kept (fun _ => False) W3 WR7 := by rw [hWR7]; exact (Kept.refl _ _).drew
 have M3 := cell_regrown (show WR7.cell? ⟨p, 3, none⟩ = _ from kR7.cell t3 id)
 have MS := cell_regrown (show WR7.cell? ⟨bS, 0, none⟩ = _ from kR7.cell tS id)
 have HTO := Lib.hid (fun (x : World) (k : Kept (fun _ => False) WR7 x) => sto_any p a2 P.rows P.cols a3 P.top (({ P with c := P.c, ch := r } : SP).sn g0 g1 md pv st) P.c.row 0 P.c.row 0 x (hK2o.sn.kept (k3.then (kR7.then k)) id) (HGB.out x ⟨wb, V2, hkb, kV1.then kV2, k3.then (kR7.then k)⟩) hrr hcc (by omega) (by omega))
 have HWR7 := Lib.hid (And.intro hWR7 (And.intro kR7 k3))
 have H1 := Lib.hid (And.intro hK2o (And.intro (kw1.then (kV2.mono fun i _ e => HH.out.1.sub i (.inr (.inr (.inl e))))) (And.intro bS2 (And.intro bR2 bW2))))
 clear hKb hK1 sV1 kV1 hK2o sV2 kV2 bSb bRb bWb bS1 bR1 bW1 bS2 bR2 bW2 hkb kw1 hWR7 kR7 k3 r3 r4
 go_wp2
 refine wp_region_still_lit (by kernel_rfl) (by kernel_rfl) ?_
 refine wpStill_step (fun K hK => ?_)
 go_simp
 repeat (generalize hfr : Act.mk _ _ = fr; refine hK _ ?_; clear hK K; refine wpStill_step (fun K hK => ?_); subst hfr; go_simp)
 generalize hfr : Act.mk _ _ = fr
 refine hK _ ?_
 clear hK K
 refine wpStill_nil ?_
 subst hfr
 rw [show (World.mk V2.heap V2.tape (V2.drawn + 1) V2.os V2.output) = W3 from hW3]
 go_wp2
 refine wp_region_grow #[0, 0, 2, 6, 14, 30, 63] 6 [] (fun i => none) (by kernel_rfl) rfl (by kernel_rfl) (fun i hi => by cases hi) (fun _ _ _ _ _ h => h) ?_
 rintro _ rfl
 rw [<- HWR7.out.1]
 simp only [List.take_succ_cons, List.take_zero, List.drop_succ_cons, List.drop_zero, number, Nat.reduceAdd]
 iterate 6 (refine wpGrow_step (fun K hK => ?_); go_simp; refine hK _ _ ?_; clear hK K)
 refine wpGrow_nil ?_
 intro w6 hk6 hω
 have HT := Lib.hid (HTO.out w6 hk6)
 have HK6 := Lib.hid (HWR7.out.2.2.then (HWR7.out.2.1.then hk6))
 clear hk6 hω M3 MS
 go_wp2_with fail
 refine HT.out.mono ?_
 rintro e w7 ⟨⟨x7', rfl⟩, hs7, hk7⟩
 have hKt := (H1.out.1.up HK6.out).own (c := { P.c with col := 0, wrap := false }) (ch := r) hk7 hs7
 have HSI := Lib.hid (sindex_any G p { P with ch := r, c := { P.c with col := 0, wrap := false } } w7 ⟨_, _, _, _, _, _, _, _, hKt⟩ HIX.out.1)
 have bS7 := hk7.blk (HK6.out.blk H1.out.2.2.1 id) nb.1
 have bR7 := hk7.blk (HK6.out.blk H1.out.2.2.2.1 id) nb.2.1
 have bW7 := hk7.blk (HK6.out.blk H1.out.2.2.2.2 id) nb.2.2
 have mS7 : w7.cell? ⟨bS, 0, none⟩ = some (.pointer (some ⟨p, 0, none⟩)) := blk_cell bS7 0
 have H7a := Lib.hid (And.intro bS7 (And.intro bR7 (And.intro bW7 (And.intro (H1.out.2.1.then ((HK6.out.mono (S' := G) fun _ _ h => h.elim).then (hk7.mono fun i _ e => HH.out.1.sub i (.inr (.inr (.inl e)))))) (And.intro (lt_of_blk bS7) (lt_of_blk bW7))))))
 clear hs7 hk7 hKt bS7 bR7 bW7
 go_wp2_with fail
 refine HSI.out.mono ?_
 rintro e w8 ⟨⟨x8', rfl⟩, ⟨g0, g1, md, pv, st, tb, G0, G1, hK8⟩, hk8⟩
 rw [<- HIX.out.2.1] at hK8
 have nGb : ¬ G bS /\ ¬ G bR /\ ¬ G bW := by
  have h1 := HH.out.1.lt
  have h2 := HH.out.2.2.2.2.1
  have h3 := HH.out.2.2.2.2.2.1
  have h4 := HH.out.2.2.2.2.2.2
  have h5 := H3.out.2.2.1
  have h6 := H3.out.2.2.2.1
  have h7 := HH.out.2.1.size
  exact ⟨fun h => by have h8 := h1 bS h; omega, fun h => by have h8 := h1 bR h; omega, fun h => by have h8 := h1 bW h; omega⟩
 have bS8 := hk8.blk H7a.out.1 nGb.1
 have bR8 := hk8.blk H7a.out.2.1 nGb.2.1
 have bW8 := hk8.blk H7a.out.2.2.1 nGb.2.2
 have HGE := Lib.hid (show ∀ i, Gn G w7 w8 i -> G i \/ w.heap.size <= i from fun i hi => hi.imp id (fun h => by have h1 := H7a.out.2.2.2.1.size; omega))
 have HNG := Lib.hid (show ¬ G0 bS /\ ¬ G0 bW from by
  have h1 := fun i (hi : G0 i) => hK8.sub i (.inl hi)
  have h5 := H7a.out.2.2.2.2.1
  have h6 := H7a.out.2.2.2.2.2
  exact ⟨fun h => by rcases h1 bS h with h8 | h8; exact nGb.1 h8; omega, fun h => by rcases h1 bW h with h8 | h8; exact nGb.2.2 h8; omega⟩)
 have HK2 := Lib.hid (And.intro hK8 (And.intro bS8 (And.intro bR8 bW8)))
 have HK3 := Lib.hid (show Kept G w w8 from H7a.out.2.2.2.1.then hk8)
 obtain ⟨-, -, -, r3, r4, -⟩ := hK8.sn.cells
 simp only [SP.sn] at r3 r4
 rw [HF.out.1] at r3
 rw [HF.out.2.1] at r4
 have tS8 : w8.cell? ⟨bS, 0, none⟩ = some (.pointer (some ⟨p, 0, none⟩)) := blk_cell bS8 0
 have tW8 : w8.cell? ⟨bW, 0, none⟩ = some (.int .i64 wd) := blk_cell bW8 0
 obtain ⟨WR, hWR⟩ : ∃ WR, WR = w8.drew := ⟨_, rfl⟩
 have kR : Kept (fun _ => False) w8 WR := by rw [hWR]; exact (Kept.refl _ _).drew
 have XS := cell_regrown (show WR.cell? ⟨bS, 0, none⟩ = _ from kR.cell tS8 id)
 have X3 := cell_regrown (show WR.cell? ⟨p, 3, none⟩ = _ from kR.cell r3 id)
 obtain ⟨Ra, hRa⟩ : ∃ R : Value -> World -> Prop, R = fun v w' => v = .pointer (some ⟨g0, 0, none⟩) := ⟨_, rfl⟩
 have HRa := Lib.hid hRa
 have HWR := Lib.hid (And.intro hWR kR)
 have HSG := Lib.hid (fun (x : World) (k : Kept (fun _ => False) WR x) => sg_any p _ x (hK8.sn.kept (kR.then k) id))
 clear hK8 bS8 bR8 bW8 kR hWR hRa hk8
 go_wp2
 refine wp_region_grow #[0, 1, 0, 4, 12, 28, 60, 0, 255] 8 [] (fun i => if i = 1 then some Ra else none) (by kernel_rfl) rfl (by kernel_rfl) (fun i hi => by cases hi) (fun _ _ _ _ _ h => h) ?_
 rintro _ rfl
 rw [<- HWR.out.1]
 simp only [List.take_succ_cons, List.take_zero, List.drop_succ_cons, List.drop_zero, number, Nat.reduceAdd]
 iterate 1 (refine wpGrow_step (fun K hK => ?_); go_simp; refine hK _ _ ?_; clear hK K)
 refine wpGrow_step (fun K hK => ?_)
 go_simp
 refine ⟨fun w' hg => (HSG.out w' hg.old).mono (fun e w'' ⟨he, hk⟩ => ⟨_, he, hk, by rw [HRa.out]; rfl⟩), fun v1 u1 hv1 _ => ?_⟩
 rw [HRa.out] at hv1
 subst hv1
 refine hK _ _ ?_; clear hK K
 iterate 6 (refine wpGrow_step (fun K hK => ?_); go_simp; refine hK _ _ ?_; clear hK K)
 refine wpGrow_nil ?_
 intro w20 hk20 hω
 have HK20 := Lib.hid (HWR.out.2.then hk20)
 clear hk20 hω
 have hK20 := HK2.out.1.up HK20.out
 obtain ⟨q1, q2, q3, q4, q5, q6, q7, hq⟩ := hK20.k0
 have hcg := gchange_any G0 g0 P1.rows P1.cols P1.most P1.top q1 P1.L P1.B q2 q3 q4 q5 q6 q7 R (.pointer (some ⟨bS, 0, none⟩)) (.pointer (some ⟨bW, 0, none⟩)) (.pointer (some ⟨bR, 0, none⟩)) l (pf l C) w20 hq HF.out.2.2.1 (by
   have h9 := (HF.out.2.2.2.2.1.cls l C (HF.out.2.2.2.1 l (List.mem_of_getElem? HF.out.2.2.1)) HSP.out (by rw [hq.nc l (List.mem_of_getElem? HF.out.2.2.1)]; exact HF.out.2.2.2.2.2.2.2.2.1) hov2).2
   rw [h9]; exact HF.out.2.2.2.2.2.2.2.2.1.symm)
  (fun x bg c k ho => slay1_any p (P1.sn g0 g1 md pv st) [] P1.cols bg c l (pf l C) r wd bS bW bR x (hK20.sn.kept k id) (hK20.m1.kept k id) rfl ((HK20.out.then k).blk HK2.out.2.1 id) ((HK20.out.then k).blk HK2.out.2.2.2 id) ((HK20.out.then k).blk HK2.out.2.2.1 id) (fun y ky => by
   have h9 := HF.out.2.2.2.2.1.put y bg c C l (by rw [<- HF.out.2.2.2.2.2.2.2.2.1]; exact ho.kept ky (fun _ _ => id)) (HF.out.2.2.2.1 l (List.mem_of_getElem? HF.out.2.2.1)) HSP.out hov2
   rw [<- HF.out.2.2.2.2.2.2.2.2.1, <- HF.out.2.2.2.2.2.2.2.1, <- HF.out.2.1] at h9
   exact h9))
  (fun x bg c ho => by
   have hcc9 := (HF.out.2.2.2.2.1.cls l C (HF.out.2.2.2.1 l (List.mem_of_getElem? HF.out.2.2.1)) HSP.out (by rw [hq.nc l (List.mem_of_getElem? HF.out.2.2.1)]; exact HF.out.2.2.2.2.2.2.2.2.1) hov2).1
   have h9 := HF.out.2.2.2.2.1.res x bg c (pf l C) (by rw [<- HF.out.2.2.2.2.2.2.2.2.1]; exact ho) hcc9
   rw [<- HF.out.2.2.2.2.2.2.2.2.1] at h9
   exact h9)
 have HCG := Lib.hid hcg
 have HQM := Lib.hid hq.lm
 have HK21 := Lib.hid hK20
 clear hcg hq hK20 XS X3
 go_wp2_with fail
 refine HCG.out.mono ?_
 rintro e w30 ⟨⟨x30, rfl⟩, ⟨us, hg30⟩, hk30⟩
 have hk30' : Kept G0 w20 w30 := hk30.mono fun i _ h => HQM.out i h
 have hK5 := HK21.out.grid (L := P1.L.set R (pf l C)) (B := P1.B) (top := P1.top) hk30' ⟨_, _, _, _, _, _, _, hg30⟩
 have nG0 := HNG.out
 have bS30 := hk30'.blk (HK20.out.blk HK2.out.2.1 id) nG0.1
 have bW30 := hk30'.blk (HK20.out.blk HK2.out.2.2.2 id) nG0.2
 obtain ⟨WR5, hWR5⟩ : ∃ WR, WR = w30.drew := ⟨_, rfl⟩
 have kR5 : Kept (fun _ => False) w30 WR5 := by rw [hWR5]; exact (Kept.refl _ _).drew
 have Y4 := cell_regrown (show WR5.cell? ⟨p, 4, none⟩ = some (.int .i64 (C : Int)) from kR5.cell (by have h9 := hK5.sn.cells.2.2.2.2.1; simp only [SP.sn] at h9; rw [HF.out.2.1] at h9; exact h9) id)
 have YS := cell_regrown (show WR5.cell? ⟨bS, 0, none⟩ = some (.pointer (some ⟨p, 0, none⟩)) from kR5.cell (blk_cell bS30 0) id)
 have YW := cell_regrown (show WR5.cell? ⟨bW, 0, none⟩ = some (.int .i64 wd) from kR5.cell (blk_cell bW30 0) id)
 have HWR5 := Lib.hid (And.intro hWR5 kR5)
 have H5 := Lib.hid (And.intro hK5 (And.intro bS30 (And.intro bW30 hk30')))
 clear hK5 bS30 bW30 hk30 hk30' hg30 hWR5 kR5 nG0
 go_wp2
 refine wp_region_grow #[0, 1, 3, 7, 15, 0, 63, 127, 255, 511, 1023] 7 [] (fun i => none) (by kernel_rfl) rfl (by kernel_rfl) (fun i hi => by cases hi) (fun _ _ _ _ _ h => h) ?_
 rintro _ rfl
 rw [<- HWR5.out.1]
 simp only [List.take_succ_cons, List.take_zero, List.drop_succ_cons, List.drop_zero, number, Nat.reduceAdd]
 iterate 7 (refine wpGrow_step (fun K hK => ?_); go_simp; refine hK _ _ ?_; clear hK K)
 refine wpGrow_nil ?_
 intro w40 hk40 hω
 have k40 : Kept (fun _ => False) w30 w40 := HWR5.out.2.then hk40
 have hK6 := H5.out.1.up k40
 obtain ⟨V6, hV6, ⟨x4, c4⟩, f4, sV6, kV6⟩ := hK6.sn.at 4 (by omega) (.int .i64 ((C : Int) + (wd : Int))) (({ ({ P1 with L := P1.L.set R (pf l C), B := P1.B, top := P1.top } : SP) with c := { P1.c with col := (C : Int) + (wd : Int) }, ch := P1.ch } : SP).sn g0 g1 md pv st) rfl rfl rfl
 have hK7 := hK6.own (c := { P1.c with col := (C : Int) + (wd : Int) }) (ch := P1.ch) kV6 sV6
 have z4 : V6.cell? ⟨p, 4, none⟩ = some (.int .i64 ((C : Int) + (wd : Int))) := hK7.sn.cells.2.2.2.2.1
 have bS6 := kV6.blk (k40.blk H5.out.2.1 id) nb.1
 have zS6 : V6.cell? ⟨bS, 0, none⟩ = some (.pointer (some ⟨p, 0, none⟩)) := blk_cell bS6 0
 have kV67 : Kept G w V6 := (Kept.trans5 HK3.out HK20.out (H5.out.2.2.2.mono (fun i _ h => HK21.out.sub i (.inl h))) HGE.out k40 (kV6.mono fun i _ e => HH.out.1.sub i (.inr (.inr (.inl e)))))
 by_cases hen : (P.cols : Int) <= (C : Int) + (wd : Int)
 ·have gen : decide ((P.cols : Int) <= (C : Int) + (wd : Int)) = true := decide_eq_true hen
  have HEF := Lib.hid (HEP.out (by have h9 := HF.out.2.1; omega))
  clear hen
  obtain ⟨D, hD⟩ : ∃ X, V6.drew = X := ⟨_, rfl⟩
  have kD : Kept (fun _ => False) V6 D := by rw [<- hD]; exact (Kept.refl _ _).drew
  have hKD := hK7.up kD
  obtain ⟨V7, hV7, ⟨x7, c7⟩, f7, sV7, kV7⟩ := hKD.sn.at 4 (by omega) (.int .i64 ((P.cols : Int) - 1)) (({ ({ P1 with L := P1.L.set R (pf l C), B := P1.B, top := P1.top } : SP) with c := { P1.c with col := (P.cols : Int) - 1 }, ch := P1.ch } : SP).sn g0 g1 md pv st) rfl rfl rfl
  obtain ⟨V8, hV8, ⟨x8, c8⟩, f8, sV8, kV8⟩ := sV7.at 5 (by omega) (.bool true) (({ ({ P1 with L := P1.L.set R (pf l C), B := P1.B, top := P1.top } : SP) with c := { P1.c with col := (P.cols : Int) - 1, wrap := true }, ch := P1.ch } : SP).sn g0 g1 md pv st) rfl rfl rfl
  have hK8 := (hKD.own (c := { P1.c with col := (P.cols : Int) - 1 }) (ch := P1.ch) kV7 sV7).own (c := { P1.c with col := (P.cols : Int) - 1, wrap := true }) (ch := P1.ch) kV8 sV8
  have bSD := kD.blk bS6 id
  have zD : D.cell? ⟨bS, 0, none⟩ = some (.pointer (some ⟨p, 0, none⟩)) := blk_cell bSD 0
  have zV7 : V7.cell? ⟨bS, 0, none⟩ = some (.pointer (some ⟨p, 0, none⟩)) := blk_cell (kV7.blk bSD nb.1) 0
  have f7b := sV7.free 5
  have c7b := hKD.sn.cells.2.2.2.2.2.1
  have kV68 : Kept G w V8 := ((kV67.then (kD.mono fun _ _ h => h.elim)).then (kV7.mono fun i _ e => HH.out.1.sub i (.inr (.inr (.inl e))))).then (kV8.mono fun i _ e => HH.out.1.sub i (.inr (.inr (.inl e))))
  have H7 := Lib.hid (And.intro hK8 (And.intro bS6 kV68))
  clear hK6 hK7 sV6 kV6 bS6 kV67 hk40 hω k40 Y4 YS YW kD hKD sV7 kV7 sV8 kV8 hK8 bSD kV68
  go_wp2
  go_region
  all_goals go_wp2
  all_goals go_end0
  all_goals
   refine ⟨⟨_, rfl⟩, ?_⟩
   rw [HEF.out]
   try rw [<- HF.out.1]
   try rw [HF.out.2.2.2.2.2.2.2.2.1]
   have h9 := H7.out.1
   rw [HF.out.2.2.2.2.2.2.2.2.1] at h9
   exact ScrR.of ⟨g0, g1, md, pv, st, tb, _, G1, h9⟩ (fun i hi => by
    rcases hi with hi | hi
    ·exact HGE.out i hi
    ·have h1 := HK3.out.size; have h2 := HK20.out.size; exact .inr (by omega)) H7.out.2.2 HH.out.1.lt
 ·have gen : decide ((P.cols : Int) <= (C : Int) + (wd : Int)) = false := decide_eq_false hen
  have HEF := Lib.hid (HEN.out (by have h9 := HF.out.2.1; omega))
  clear hen
  have H7 := Lib.hid (And.intro hK7 (And.intro bS6 kV67))
  clear hK6 hK7 sV6 kV6 bS6 kV67 hk40 hω k40 Y4 YS YW
  go_wp2
  go_end0
  refine ⟨⟨_, rfl⟩, ?_⟩
  rw [HEF.out, HF.out.2.1]
  exact ScrR.of ⟨g0, g1, md, pv, st, tb, _, G1, H7.out.1⟩ (fun i hi => by
   rcases hi with hi | hi
   ·exact HGE.out i hi
   ·have h1 := HK3.out.size; have h2 := HK20.out.size; exact .inr (by omega)) H7.out.2.2 HH.out.1.lt
theorem slay_over (G : Nat -> Prop) (p : Nat) (P : SP) (w : World) (hx : ScrX G w p P) (ok : SPok P) (ht : P.top <= 80000) (r : Int) (wd : Nat) (Cls : List Cl -> Prop) (Sp : List Cl -> Nat -> Prop) (pf : List Cl -> Nat -> List Cl) (hwd : 1 <= wd /\ wd <= 2)
  (hW : ∀ x, Calls Tryz.prog 270 #[.int .i32 r] x fun e x' => e = .returned (.int .i64 wd) /\ Kept (fun _ => False) x x')
  (hmode : ∃ i, Instr.findNow (.int .i64) (.int .i64 7) P.es 0 = some (some (i, .bool true))) (hcl : ∀ l ∈ P.L, Cls l) (hp : PutOk P.cols P.c.a r wd Cls Sp pf)
  (hwr : P.c.wrap = false) (hno : (P.cols : Int) < P.c.col + wd) (hwc : wd <= P.cols) (hsp : ∀ l, (P.over r).L[(P.over r).c.row.toNat]? = some l -> Sp l (P.over r).c.col.toNat) :
  Calls Tryz.prog 192 #[.pointer (some ⟨p, 0, none⟩), .int .i32 r] w fun e w' => (∃ x, e = .returned x) /\ ScrR G w p ((P.over r).stand wd pf) w' := by
 have okX : SPok { P with ch := r, c := { P.c with col := 0, wrap := false } } := ⟨ok.row, by have := ok.hc; simp; omega, ok.nl, ok.top, ok.hr, ok.hc⟩
 have hio := index_ok okX ht
 have hc0 : (P.over r).c.col = 0 := hio.2.2.1
 have hov : (P.over r).c.col + wd <= P.cols := by rw [hc0]; omega
 exact slay_o G p P w hx ok ht r wd Cls Sp pf hwd hW hmode hcl hp hwr hno hwc hsp hov
end Go.Proofs.YtmplpcmcbliadaaGreatDoor
namespace Go.Proofs.YtmplpcmcbliadaaGreatDoor
open Go.RowKit Go.Sort Pl
def hd (l : List Cl) : Nat := l.countP fun c => c.k == 1
def hds (L : List (List Cl)) : Nat := (L.map hd).sum
theorem hds_set : ∀ (L : List (List Cl)) (i : Nat) (l l' : List Cl), L[i]? = some l -> hd l' = hd l + 1 -> hds (L.set i l') = hds L + 1
 | [], i, l, l', h, _ => by simp at h
 | x :: L, 0, l, l', h, e => by
  simp at h
  subst h
  simp [hds, e]
  omega
 | x :: L, i + 1, l, l', h, e => by
  have h2 := hds_set L i l l' (by simpa using h) e
  unfold hds at *
  simp only [List.set_cons_succ, List.map_cons, List.sum_cons]
  omega
theorem hds_take (L : List (List Cl)) (i : Nat) (l : List Cl) (h : L[i]? = some l) : hds (L.take (i + 1)) = hds (L.take i) + hd l := by
 unfold hds
 rw [List.take_add_one, h]
 simp
theorem hd_nar {l : List Cl} (h : Nar l) : hd l = 0 := by
 unfold hd
 rw [List.countP_eq_zero]
 intro c hc
 rw [h c hc]
 decide
theorem hds_nar {L : List (List Cl)} (h : ∀ l ∈ L, Nar l) : hds L = 0 := by
 unfold hds
 induction L with
 | nil => rfl
 | cons l L ih =>
  rw [List.map_cons, List.sum_cons, hd_nar (h l (by simp)), ih (fun x hx => h x (by simp [hx]))]
theorem hd_take (l : List Cl) (k : Nat) (c : Cl) (h : l[k]? = some c) : hd (l.take (k + 1)) = hd (l.take k) + (if c.k = 1 then 1 else 0) := by
 unfold hd
 rw [List.take_add_one, h, List.countP_append]
 by_cases e : c.k = 1 <;> simp [e]
def pfW (r : Int) (l : List Cl) (col : Nat) : List Cl := (l.set col ⟨r, 1, ⟨0, 0, 0⟩⟩).set (col + 1) ⟨0, 2, ⟨0, 0, 0⟩⟩
theorem pfW_len (r : Int) (l : List Cl) (col : Nat) : (pfW r l col).length = l.length := by simp [pfW]
theorem pfW_hd (r : Int) (l : List Cl) (col : Nat) (hc : col + 1 < l.length) (h0 : ∀ c, l[col]? = some c -> c.k = 0) (h1 : ∀ c, l[col + 1]? = some c -> c.k = 0) : hd (pfW r l col) = hd l + 1 := by
 have e0 : l[col].k = 0 := h0 _ (List.getElem?_eq_getElem (by omega))
 have e1 : l[col + 1].k = 0 := h1 _ (List.getElem?_eq_getElem hc)
 unfold hd pfW
 rw [List.countP_set (by simp; omega), List.countP_set (by omega)]
 have e2 : (l.set col ⟨r, 1, ⟨0, 0, 0⟩⟩)[col + 1]'(by simp; omega) = l[col + 1] := by rw [List.getElem_set_ne (by omega)]
 rw [e2, e0, e1]
 simp
structure InvD (P : SP) (j : Nat) : Prop where
 row : P.c.row = 0
 col : P.c.col = (j : Int)
 wrap : P.c.wrap = false
 nar : ∀ l ∈ P.L, Nar l /\ l.length = P.cols
 b : P.B = []
 top : P.top = 0
structure InvW (P : SP) (lead m : Nat) : Prop where
 b : P.B = []
 top : P.top = 0
 len : ∀ l ∈ P.L, l.length = P.cols
 fit : ∀ l ∈ P.L, Fit l
 ex : ∃ row vc : Nat, P.c.row = (row : Int) /\ row <= m /\ vc <= P.cols /\ (if P.c.wrap = true then vc = P.cols else P.c.col = (vc : Int)) /\
  (∀ l, P.L[row]? = some l -> 2 * hd l + (if row = 0 then lead else 0) = vc /\ ∀ j c, l[j]? = some c -> vc <= j -> c.k = 0) /\
  (∀ i l, i < row -> P.L[i]? = some l -> 2 * hd l + (if i = 0 then lead else 0) <= P.cols) /\ (∀ i l, row < i -> P.L[i]? = some l -> Nar l)
 sum : hds P.L = m
theorem fit_nar {l : List Cl} (h : Nar l) : Fit l := fun i c hc => .inl (h c (List.mem_of_getElem? hc))
theorem invW_0 {P : SP} {lead : Nat} (h : InvD P lead) (hl : lead < P.cols) : InvW P lead 0 := by
 refine ⟨h.b, h.top, fun l hl => (h.nar l hl).2, fun l hl => fit_nar (h.nar l hl).1, ⟨0, lead, h.row, Nat.le_refl _, by omega, ?_, fun l hl => ⟨?_, fun j c hc _ => ?_⟩, fun i l hi => by omega, fun i l _ hl => (h.nar l (List.mem_of_getElem? hl)).1⟩, hds_nar fun l hl => (h.nar l hl).1⟩
 ·rw [h.wrap]; simpa using h.col
 ·rw [hd_nar (h.nar l (List.mem_of_getElem? hl)).1]; simp
 ·exact (h.nar l (List.mem_of_getElem? hl)).1 c (List.mem_of_getElem? hc)
theorem invW_next {P P1 : SP} {lead m : Nat} (h : InvW P lead m) (ok : SPok P) (hm : m + 1 < P.rows) (r : Int) (e : P1 = SP.index { P with ch := r, c := { P.c with col := 0, wrap := false } }) :
  P1.L = P.L /\ P1.B = [] /\ P1.top = 0 /\ P1.cols = P.cols /\ P1.rows = P.rows /\ P1.c.col = 0 /\ P1.c.wrap = false /\ ∃ row : Nat, P.c.row = (row : Int) /\ P1.c.row = ((row + 1 : Nat) : Int) /\ row <= m := by
 obtain ⟨row, vc, h1, h2, -⟩ := h.ex
 unfold SP.index at e
 rw [if_neg (by show ¬ P.c.row = (P.rows : Int) - 1; omega)] at e
 subst e
 exact ⟨rfl, h.b, h.top, rfl, rfl, rfl, rfl, row, h1, by show P.c.row + 1 = _; omega, h2⟩
theorem invW_stand {P P1 : SP} {lead m row vc : Nat} (r : Int) (hL : P1.L = P.L) (hB : P1.B = []) (ht : P1.top = 0) (hc : P1.cols = P.cols) (hr : P1.c.row = (row : Int)) (hrm : row <= m + 1) (hcol : P1.c.col = (vc : Int)) (hw : P1.c.wrap = false) (hroom : vc + 2 <= P.cols) (hrow : row < P.L.length)
  (len : ∀ l ∈ P.L, l.length = P.cols) (fit : ∀ l ∈ P.L, Fit l) (sum : hds P.L = m)
  (cur : ∀ l, P.L[row]? = some l -> 2 * hd l + (if row = 0 then lead else 0) = vc /\ ∀ j c, l[j]? = some c -> vc <= j -> c.k = 0)
  (old : ∀ i l, i < row -> P.L[i]? = some l -> 2 * hd l + (if i = 0 then lead else 0) <= P.cols) (new : ∀ i l, row < i -> P.L[i]? = some l -> Nar l) : InvW (P1.stand 2 (pfW r)) lead (m + 1) := by
 obtain ⟨l, hl⟩ : ∃ l, P.L[row]? = some l := ⟨_, List.getElem?_eq_getElem hrow⟩
 have hll := len l (List.mem_of_getElem? hl)
 obtain ⟨c1, c2⟩ := cur l hl
 have er : P1.c.row.toNat = row := by omega
 have ec : P1.c.col.toNat = vc := by omega
 have hg : P1.L.getD row [] = l := by rw [List.getD_eq_getElem?_getD, hL, hl]; rfl
 have hhd := pfW_hd r l vc (by omega) (fun c hc => c2 vc c hc (Nat.le_refl _)) (fun c hc => c2 (vc + 1) c hc (by omega))
 have hft : Fit (pfW r l vc) := fit_put (fit l (List.mem_of_getElem? hl)) (by omega) (fun c hc => c2 vc c hc (Nat.le_refl _)) (fun c hc => c2 (vc + 1) c hc (by omega)) r ⟨0, 0, 0⟩
 have e : P1.stand 2 (pfW r) = { P1 with L := P.L.set row (pfW r l vc), c := if (P.cols : Int) <= (vc : Int) + 2 then { P1.c with col := (P.cols : Int) - 1, wrap := true } else { P1.c with col := (vc : Int) + 2 } } := by
  unfold SP.stand
  rw [er, ec, hg, hL, hcol, hc]
  rfl
 rw [e]
 have at' : ∀ i l', (P.L.set row (pfW r l vc))[i]? = some l' -> (i = row /\ l' = pfW r l vc) \/ (i ≠ row /\ P.L[i]? = some l') := by
  intro i l' h
  by_cases hi : i = row
  ·subst hi
   rw [List.getElem?_set_self hrow] at h
   exact .inl ⟨rfl, (Option.some.inj h).symm⟩
  ·rw [List.getElem?_set_ne (Ne.symm hi)] at h
   exact .inr ⟨hi, h⟩
 have mem : ∀ l' ∈ P.L.set row (pfW r l vc), l' = pfW r l vc \/ l' ∈ P.L := fun l' h => (List.mem_or_eq_of_mem_set h).symm
 refine ⟨hB, ht, fun l' h => ?_, fun l' h => ?_, ⟨row, vc + 2, ?_, hrm, ?_, ?_, fun l' h => ?_, fun i l' hi h => ?_, fun i l' hi h => ?_⟩, ?_⟩
 ·show l'.length = P1.cols
  rw [hc]
  rcases mem l' h with rfl | h
  ·rw [pfW_len]; exact hll
  ·exact len l' h
 ·rcases mem l' h with rfl | h
  ·exact hft
  ·exact fit l' h
 ·show (if (P.cols : Int) <= (vc : Int) + 2 then ({ P1.c with col := (P.cols : Int) - 1, wrap := true } : Cu) else { P1.c with col := (vc : Int) + 2 }).row = _
  split <;> exact hr
 ·show vc + 2 <= P1.cols; omega
 ·show (if (if (P.cols : Int) <= (vc : Int) + 2 then ({ P1.c with col := (P.cols : Int) - 1, wrap := true } : Cu) else { P1.c with col := (vc : Int) + 2 }).wrap = true then vc + 2 = P1.cols else (if (P.cols : Int) <= (vc : Int) + 2 then ({ P1.c with col := (P.cols : Int) - 1, wrap := true } : Cu) else { P1.c with col := (vc : Int) + 2 }).col = ((vc + 2 : Nat) : Int))
  by_cases h : (P.cols : Int) <= (vc : Int) + 2
  ·rw [if_pos h]
   simp only [if_true]
   omega
  ·rw [if_neg h]
   simp only [hw, Bool.false_eq_true, if_false]
   omega
 ·rcases at' row l' h with ⟨-, rfl⟩ | ⟨h1, -⟩
  ·refine ⟨by rw [hhd]; omega, fun j c hj hv => ?_⟩
   unfold pfW at hj
   rw [List.getElem?_set_ne (by omega), List.getElem?_set_ne (by omega)] at hj
   exact c2 j c hj (by omega)
  ·exact absurd rfl h1
 ·show _ <= P1.cols
  rw [hc]
  rcases at' i l' h with ⟨h1, -⟩ | ⟨-, h1⟩
  ·omega
  ·exact old i l' hi h1
 ·rcases at' i l' h with ⟨h1, -⟩ | ⟨-, h1⟩
  ·omega
  ·exact new i l' hi h1
 ·show hds (P.L.set row (pfW r l vc)) = m + 1
  rw [hds_set P.L row l _ hl hhd, sum]
end Go.Proofs.YtmplpcmcbliadaaGreatDoor
