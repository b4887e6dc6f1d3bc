/- One event to a terminal; TopWide's walk: what is said is true. -/
import Derived.Test.YtmplpcmcbliadaaGreatDoorBx17
import Derived.Test.YtmplpcmcbliadaaGreatDoorBx23
import Derived.Deep.LoopGhost
set_option linter.unusedVariables false
set_option linter.unusedSimpArgs false
namespace Go.Proofs.YtmplpcmcbliadaaGreatDoor
open Go.RowKit Go.Sort Pl
def lis1 (q : Nat) (T0 T1 : (Nat -> Prop) -> World -> Prop) (e0 : Ev) (l0 : ∀ {G w}, T0 G w -> ∀ i, G i -> i < w.heap.size) (l1 : ∀ {G w}, T1 G w -> ∀ i, G i -> i < w.heap.size)
  (u0 : ∀ {G S w w'}, T0 G w -> Kept S w w' -> (∀ i, G i -> ¬ S i) -> T0 G w') (u1 : ∀ {G S w w'}, T1 G w -> Kept S w w' -> (∀ i, G i -> ¬ S i) -> T1 G w')
  (say : ∀ {G w v}, T0 G w -> EvAt w G v e0 -> Calls Tryz.prog 41 #[.pointer (some ⟨q, 0, none⟩), v.val] w fun r w' => (∃ x, r = .returned x) /\ ∃ G', T1 G' w' /\ (∀ i, G' i -> G i \/ w.heap.size <= i) /\ Kept G w w') : Lis where
 p := q
 TI := fun G w L => (L = [] /\ T0 G w) \/ (L = [e0] /\ T1 G w)
 A := fun L => L = [] \/ L = [e0]
 ax := fun {L M} h => by
  rcases h with h | h
  ·exact .inl (List.append_eq_nil_iff.1 h).1
  ·cases L with
   | nil => exact .inl rfl
   | cons x L =>
    rw [List.cons_append] at h
    injection h with h1 h2
    rw [h1, (List.append_eq_nil_iff.1 h2).1]
    exact .inr rfl
 lt := fun h => by rcases h with h | h; exact l0 h.2; exact l1 h.2
 up := fun h hk hn => by rcases h with h | h; exact .inl ⟨h.1, u0 h.2 hk hn⟩; exact .inr ⟨h.1, u1 h.2 hk hn⟩
 say := fun {G w L v e} h hv hA => by
  have hL : L = [] /\ e = e0 := by
   rcases hA with hA | hA
   ·simp at hA
   ·cases L with
    | nil => simp at hA; exact ⟨rfl, hA⟩
    | cons x L => simp at hA
  obtain ⟨rfl, rfl⟩ := hL
  rcases h with h | h
  ·refine (say h.2 hv).mono ?_
   rintro r w' ⟨hr, G', h1, h2⟩
   exact ⟨hr, G', .inr ⟨rfl, h1⟩, h2⟩
  ·cases h.1
def TW (c : Cf) (q s en pp : Nat) (P : SP) (G : Nat -> Prop) (w : World) : Prop := ∃ rv Gs Ge, TmK G w q c ⟨s, en, pp, .pointer none, .slice none 0 0, false, rv, 0, 0⟩ P [] Gs Ge
def LiveW (c : Cf) (q s en pp : Nat) (w0 w1 : World) (P : SP) (t : PS) : Prop := ∃ G GP, TW c q s en pp P G w1 /\ PQ GP w1 pp t /\ (∀ i, G i -> ¬ GP i) /\ (∀ i, GP i \/ G i -> w0.heap.size <= i) /\ Kept (fun _ => False) w0 w1
theorem TW.lt {c : Cf} {q s en pp : Nat} {P : SP} {G : Nat -> Prop} {w : World} (h : TW c q s en pp P G w) : ∀ i, G i -> i < w.heap.size := by
 obtain ⟨rv, Gs, Ge, h⟩ := h
 exact h.lt
theorem TW.kept {c : Cf} {q s en pp : Nat} {P : SP} {G S : Nat -> Prop} {w w' : World} (h : TW c q s en pp P G w) (hk : Kept S w w') (hn : ∀ i, G i -> ¬ S i) : TW c q s en pp P G w' := by
 obtain ⟨rv, Gs, Ge, h⟩ := h
 exact ⟨rv, Gs, Ge, h.kept hk hn⟩
theorem liveW_new {w w1 : World} {c : Cf} {q : Nat} (h : NewT w w1 c q) : ∃ s en p, LiveW c q s en p w w1 (sp0 c.rows c.cols c.back) ps0 := by
 obtain ⟨s, en, p, G, Gs, Ge, GP, h1, h2, h3, h4, h5⟩ := h
 exact ⟨s, en, p, G, GP, ⟨_, Gs, Ge, h1⟩, h2, fun i hi hg => h3 i hg hi, fun i hi => h4 i hi.symm, h5⟩
theorem liveW_feed {c : Cf} {q s en pp : Nat} {w0 w1 W : World} {P P' : SP} {t : PS} (e0 : Ev) (h : LiveW c q s en pp w0 w1 P t) (hkW : Kept (fun _ => False) w1 W) (a : Option Addr) (len cap : Nat) (xs : List Int) (hs : SlAt .u8 W a len xs) (hby : ∀ x ∈ xs, 0 <= x /\ x < 256) (hnil : a = none -> len = 0 /\ cap = 0) (hlc : len <= cap) (hl : len <= 20000)
  (hloc : ∀ b off, 0 < len -> a = some ⟨b, off, none⟩ -> w1.heap.size <= b \/ b < w0.heap.size) (he : (feedF len t xs).2 = [e0])
  (say : ∀ {G : Nat -> Prop} {w : World} {v : EvV}, TW c q s en pp P G w -> EvAt w G v e0 -> Calls Tryz.prog 41 #[.pointer (some ⟨q, 0, none⟩), v.val] w fun r w' => (∃ x, r = .returned x) /\ ∃ G', TW c q s en pp P' G' w' /\ (∀ i, G' i -> G i \/ w.heap.size <= i) /\ Kept G w w') :
  Calls Tryz.prog 17 #[.pointer (some ⟨q, 0, none⟩), .slice a len cap] W fun r w' => (∃ x, r = .returned x) /\ LiveW c q s en pp w0 w' P' (feedF len t xs).1 := by
 obtain ⟨G, GP, h1, h2, h3, h4, h5⟩ := h
 have hlt : ∀ i, G i \/ GP i -> i < w1.heap.size := fun i hi => by
  rcases hi with hi | hi
  ·exact h1.lt i hi
  ·exact h2.lt i hi
 refine (feed_any GP G W pp (lis1 q (TW c q s en pp P) (TW c q s en pp P') e0 (fun h => h.lt) (fun h => h.lt) (fun h hk hn => h.kept hk hn) (fun h hk hn => h.kept hk hn) say) t a len cap xs ?_ (h2.kept hkW (fun _ _ => id)) (.inl ⟨rfl, h1.kept hkW (fun _ _ => id)⟩) h3 hs hby hnil hlc hl (fun b off h0 ha => ?_) (by rw [he]; exact .inr rfl)).mono ?_
 ·obtain ⟨rv, Gs, Ge, h9⟩ := h1.kept hkW (fun _ _ => id)
  exact blk_cell h9.tb 8
 ·refine ⟨fun hg => ?_, fun hg => ?_⟩
  ·have e1 := hlt b (.inr hg)
   have e2 := h4 b (.inl hg)
   rcases hloc b off h0 ha with h | h <;> omega
  ·have e1 := hlt b (.inl hg)
   have e2 := h4 b (.inr hg)
   rcases hloc b off h0 ha with h | h <;> omega
 ·rintro r w' ⟨hr, GT', G', hT', hP', hd', hn', hk'⟩
  rw [he] at hT'
  refine ⟨hr, GT', G', ?_, hP', hd', fun i hi => ?_, (h5.then hkW).trans (hk'.mono fun i _ hi => .inr (h4 i hi))⟩
  ·rcases hT' with hT' | hT'
   ·cases hT'.1
   ·exact hT'.2
  ·rcases hn' i hi with h9 | h9
   ·exact h4 i h9
   ·exact Nat.le_trans (Nat.le_trans h5.size hkW.size) h9
structure Pl5 (P : SP) : Prop where
 ok : SPok P
 s0 : P.c.s0 = 66
 sh : P.c.sh = 0
 a0 : P.c.a = ⟨0, 0, 0⟩
 es : ∃ i, Instr.findNow (.int .i64) (.int .i64 7) P.es 0 = some (some (i, .bool true))
theorem pl5_0 (rows cols most : Nat) (hr : 1 <= rows /\ rows <= 1000) (hc : 1 <= cols /\ cols <= 1000) : Pl5 (sp0 rows cols most) := by
 have h := tx_0 rows cols most hr hc
 exact ⟨h.ok, h.s0, h.sh, h.a0, h.es⟩
theorem Pl5.index {P : SP} (h : Pl5 P) (ht : P.top <= 80000) : Pl5 P.index := by
 obtain ⟨o1, o2, o3, o4, o5, o6, o7, o8, o9⟩ := index_ok h.ok ht
 exact ⟨o1, by unfold SP.index; split <;> exact h.s0, by unfold SP.index; split <;> exact h.sh, by rw [o4]; exact h.a0, by rw [o7]; exact h.es⟩
theorem Pl5.char {P : SP} (h : Pl5 P) (r : Int) : Pl5 { P with ch := r } := ⟨⟨h.ok.row, h.ok.col, h.ok.nl, h.ok.top, h.ok.hr, h.ok.hc⟩, h.s0, h.sh, h.a0, h.es⟩
theorem Pl5.home {P : SP} (h : Pl5 P) (r : Int) : Pl5 { P with ch := r, c := { P.c with col := 0, wrap := false } } := ⟨⟨h.ok.row, by have := h.ok.hc; simp; omega, h.ok.nl, h.ok.top, h.ok.hr, h.ok.hc⟩, h.s0, h.sh, h.a0, h.es⟩
theorem Pl5.stand {P : SP} (h : Pl5 P) (wd : Nat) (pf : List Cl -> Nat -> List Cl) : Pl5 (P.stand wd pf) := by
 have hrow := h.ok.row
 have hcol := h.ok.col
 have hcc := h.ok.hc
 unfold SP.stand
 split
 ·exact ⟨⟨hrow, by simp; omega, by simp [h.ok.nl], h.ok.top, h.ok.hr, hcc⟩, h.s0, h.sh, h.a0, h.es⟩
 ·exact ⟨⟨hrow, by simp; omega, by simp [h.ok.nl], h.ok.top, h.ok.hr, hcc⟩, h.s0, h.sh, h.a0, h.es⟩
theorem tsay {c : Cf} {q s en pp : Nat} {P P' : SP} {G : Nat -> Prop} {w : World} {v : EvV} {r : Int} (hT : TW c q s en pp P G w) (hv : EvAt w G v (evX 1 r 0)) (hP : Pl5 P) (hr : 0 <= r /\ r <= 2000000) (hB : P'.B = []) (ht : P'.top = 0)
  (hlay : ∀ (Gs : Nat -> Prop) (x : World), ScrX Gs x s P -> Calls Tryz.prog 192 #[.pointer (some ⟨s, 0, none⟩), .int .i32 r] x fun e x' => (∃ x, e = .returned x) /\ ScrR Gs x s P' x') :
  Calls Tryz.prog 41 #[.pointer (some ⟨q, 0, none⟩), v.val] w fun rr w' => (∃ x, rr = .returned x) /\ ∃ G', TW c q s en pp P' G' w' /\ (∀ i, G' i -> G i \/ w.heap.size <= i) /\ Kept G w w' := by
 obtain ⟨rv, Gs, Ge, hT⟩ := hT
 have hvr : v.r = r := hv.2.1
 refine (tevent_do G Gs Ge q c _ P P' [] [] w v hT (.inl hv.1) (fun x hkx => ?_) (by simp) (by rw [hB, ht]; rfl) rfl (by omega) (by rw [hB]; simp)).mono ?_
 ·refine (sdo_print Gs s P' x v hv.1 (fun y hky => ?_)).mono ?_
  ·rw [hvr]
   exact sprint_any Gs s P P' y ((hT.sx.up hkx).up hky) hP.s0 hP.sh r hr (fun z hkz => hlay Gs z (((hT.sx.up hkx).up hky).up hkz))
  ·rintro e w' ⟨rfl, hs⟩
   exact ⟨_, rfl, none, 0, 0, rfl, (fun _ => ⟨rfl, rfl⟩), ⟨rfl, .inl rfl⟩, hs⟩
 ·rintro e w' ⟨hr, ⟨rv', Gs', hT'⟩, hkk⟩
  rw [List.append_nil] at hT'
  exact ⟨hr, Gn G w w', ⟨rv', Gs', Ge, hT'⟩, Gn.new, hkk⟩
theorem say_lead {c : Cf} {q s en pp : Nat} {P : SP} {j : Nat} (hP : Pl5 P) (hi : InvD P j) (hj : j + 1 < P.cols) : Pl5 (P.typed 45) /\ InvD (P.typed 45) (j + 1) /\ (P.typed 45).cols = P.cols /\ (P.typed 45).rows = P.rows /\
  ∀ {G : Nat -> Prop} {w : World} {v : EvV}, TW c q s en pp P G w -> EvAt w G v (evX 1 45 0) -> Calls Tryz.prog 41 #[.pointer (some ⟨q, 0, none⟩), v.val] w fun r w' => (∃ x, r = .returned x) /\ ∃ G', TW c q s en pp (P.typed 45) G' w' /\ (∀ i, G' i -> G i \/ w.heap.size <= i) /\ Kept G w w' := by
 have hcol := hi.col
 have eW : P.wrapped 45 = { P with ch := 45 } := by unfold SP.wrapped; rw [if_neg (by rw [hi.wrap]; simp)]
 obtain ⟨l, hl⟩ : ∃ l, P.L[0]? = some l := ⟨_, List.getElem?_eq_getElem (by rw [hP.ok.nl]; have := hP.ok.hr; omega)⟩
 have hg : P.L.getD 0 [] = l := by rw [List.getD_eq_getElem?_getD, hl]; rfl
 have eT : P.typed 45 = { P with ch := 45, L := P.L.set 0 (pfN 45 l j), c := { P.c with col := (j : Int) + 1 } } := by
  unfold SP.typed
  rw [eW]
  unfold SP.stand
  simp only [hi.row, hcol]
  rw [show (0 : Int).toNat = 0 from rfl, show (j : Int).toNat = j by simp, hg, if_neg (by omega)]
  rfl
 have hnl := hi.nar l (List.mem_of_getElem? hl)
 have h5 : Pl5 (P.typed 45) := by
  unfold SP.typed
  rw [eW]
  exact (hP.char 45).stand 1 (pfN 45)
 refine ⟨h5, ?_, by rw [eT], by rw [eT], fun hT hv => ?_⟩
 ·rw [eT]
  refine ⟨hi.row, by show (j : Int) + 1 = _; omega, hi.wrap, fun y hy => ?_, hi.b, hi.top⟩
  rcases List.mem_or_eq_of_mem_set hy with h1 | h1
  ·exact hi.nar y h1
  ·rw [h1]; exact ⟨nar_set hnl.1 _ rfl, by unfold pfN; rw [List.length_set]; exact hnl.2⟩
 ·refine tsay hT hv hP ⟨by omega, by omega⟩ (by rw [eT]; exact hi.b) (by rw [eT]; exact hi.top) (fun Gs z hz => ?_)
  refine slay_any Gs s P z hz hP.ok (by rw [hi.top]; omega) 45 1 (fun l => Nar l /\ l.length = P.cols) (fun _ _ => True) (pfN 45) ⟨Nat.le_refl _, by omega⟩ (fun a => ?_) hP.es hi.nar (by rw [hP.a0]; exact putOk_narrow P.cols hP.ok.hc 45) (fun _ _ => trivial) (by rw [eW]; show P.c.col + 1 <= P.cols; omega)
  have h9 := width_any 45 a
  rw [width_narrow ⟨by omega, by omega⟩] at h9
  exact h9
theorem width_wide : widthI 19968 = 2 := by decide
theorem putOk_wide (cols : Nat) (hc : 2 <= cols /\ cols <= 1000) (r : Int) : PutOk cols ⟨0, 0, 0⟩ r 2 (fun l => Fit l /\ l.length = cols) (fun l col => (∀ c, l[col]? = some c -> c.k = 0) /\ ∀ c, l[col + 1]? = some c -> c.k = 0) (pfW r) := by
 refine ⟨fun x bg c col l ho hl hsp hov => ?_, fun x bg c l ho hl => ?_, fun l col hl hsp hlen hov => ?_, ?_⟩
 ·obtain ⟨g, cc, hv, hs, hlt, -⟩ := ho.sl (by rw [hl.2]; omega)
  rw [hl.2] at hv hs
  cases hv
  exact putw_any bg 0 cols c col r ⟨0, 0, 0⟩ l x hs hc.2 (by omega) hlt hl.1 hsp.1 hsp.2
 ·obtain ⟨g, cc, hv, hs, hlt, -⟩ := ho.sl (by rw [hl.2]; omega)
  rw [hl.2] at hv hs
  cases hv
  exact resizeF_any bg 0 cols c l x hs (by omega) hc.2 hlt hl.1
 ·exact ⟨⟨fit_put hl.1 (by omega) hsp.1 hsp.2 r ⟨0, 0, 0⟩, by rw [pfW_len]; exact hl.2⟩, by rw [pfW_len]; exact hlen⟩
 ·exact ⟨fit_nar fun y hy => by rw [(List.mem_replicate.1 hy).2], by simp⟩
def SP.wide (P : SP) : SP := if P.c.wrap = true then (P.wrapped 19968).stand 2 (pfW 19968) else if (P.cols : Int) < P.c.col + 2 then (P.over 19968).stand 2 (pfW 19968) else (P.wrapped 19968).stand 2 (pfW 19968)
theorem say_wide {c : Cf} {q s en pp : Nat} {P : SP} {lead m : Nat} (hP : Pl5 P) (hi : InvW P lead m) (hm : m + 1 < P.rows) (hc : 2 <= P.cols) : Pl5 P.wide /\ InvW P.wide lead (m + 1) /\ P.wide.cols = P.cols /\ P.wide.rows = P.rows /\
  ∀ {G : Nat -> Prop} {w : World} {v : EvV}, TW c q s en pp P G w -> EvAt w G v (evX 1 19968 0) -> Calls Tryz.prog 41 #[.pointer (some ⟨q, 0, none⟩), v.val] w fun r w' => (∃ x, r = .returned x) /\ ∃ G', TW c q s en pp P.wide G' w' /\ (∀ i, G' i -> G i \/ w.heap.size <= i) /\ Kept G w w' := by
 have hcc := hP.ok.hc
 have hW : ∀ a, Calls Tryz.prog 270 #[.int .i32 19968] a fun e x' => e = .returned (.int .i64 ((2 : Nat) : Int)) /\ Kept (fun _ => False) a x' := fun a => by
  have h9 := width_any 19968 a
  rw [width_wide] at h9
  exact h9
 have hcl : ∀ l ∈ P.L, Fit l /\ l.length = P.cols := fun l hl => ⟨hi.fit l hl, hi.len l hl⟩
 have hpo : PutOk P.cols P.c.a 19968 2 (fun l => Fit l /\ l.length = P.cols) (fun l col => (∀ c, l[col]? = some c -> c.k = 0) /\ ∀ c, l[col + 1]? = some c -> c.k = 0) (pfW 19968) := by rw [hP.a0]; exact putOk_wide P.cols ⟨hc, hcc.2⟩ 19968
 obtain ⟨row, vc, h1, h2, h3, h4, h5, h6, h7⟩ := hi.ex
 have hrowL : row + 1 < P.L.length := by rw [hP.ok.nl]; omega
 -- the next line: nothing stands on it
 have next : ∀ P1 : SP, P1 = SP.index { P with ch := 19968, c := { P.c with col := 0, wrap := false } } -> Pl5 P1 /\ InvW (P1.stand 2 (pfW 19968)) lead (m + 1) /\ P1.cols = P.cols /\ P1.rows = P.rows /\ (∀ l, P1.L[P1.c.row.toNat]? = some l -> (∀ c, l[P1.c.col.toNat]? = some c -> c.k = 0) /\ ∀ c, l[P1.c.col.toNat + 1]? = some c -> c.k = 0) /\ P1.c.col = 0 := by
  intro P1 e
  obtain ⟨n1, n2, n3, n4, n5, n6, n7, row', n8, n9, n10⟩ := invW_next hi hP.ok hm 19968 e
  obtain rfl : row' = row := by omega
  refine ⟨by rw [e]; exact (hP.home 19968).index (by show P.top <= 80000; rw [hi.top]; omega), ?_, n4, n5, fun l hl => ?_, n6⟩
  ·exact invW_stand 19968 n1 n2 n3 n4 n9 (by omega) (vc := 0) (by rw [n6]; rfl) n7 (by omega) (by omega) hi.len hi.fit hi.sum (fun l hl => ⟨by rw [hd_nar (h7 (row' + 1) l (by omega) hl), if_neg (by omega)], fun j c hj _ => h7 (row' + 1) l (by omega) hl c (List.mem_of_getElem? hj)⟩)
    (fun i l hi' hl => by
     by_cases e2 : i = row'
     ·subst e2; have := (h5 l hl).1; omega
     ·exact h6 i l (by omega) hl) (fun i l hi' hl => h7 i l (by omega) hl)
  ·rw [n1, n9] at hl
   have hn := h7 (row' + 1) l (by omega) (by simpa using hl)
   exact ⟨fun c hc => hn c (List.mem_of_getElem? hc), fun c hc => hn c (List.mem_of_getElem? hc)⟩
 by_cases hw : P.c.wrap = true
 ·have eP : P.wide = (P.wrapped 19968).stand 2 (pfW 19968) := by unfold SP.wide; rw [if_pos hw]
  have eW : P.wrapped 19968 = SP.index { P with ch := 19968, c := { P.c with col := 0, wrap := false } } := by unfold SP.wrapped; rw [if_pos hw]
  obtain ⟨m1, m2, m3, m4, m5, m6⟩ := next _ eW
  rw [eP]
  refine ⟨m1.stand 2 _, m2, m3, m4, fun hT hv => tsay hT hv hP ⟨by omega, by omega⟩ m2.b m2.top (fun Gs z hz => ?_)⟩
  exact slay_any Gs s P z hz hP.ok (by rw [hi.top]; omega) 19968 2 _ _ (pfW 19968) ⟨by omega, by omega⟩ hW hP.es hcl hpo m5 (by rw [m6]; omega)
 ·have hwf : P.c.wrap = false := by simpa using hw
  rw [if_neg hw] at h4
  by_cases hno : (P.cols : Int) < P.c.col + 2
  ·have eP : P.wide = (P.over 19968).stand 2 (pfW 19968) := by unfold SP.wide; rw [if_neg hw, if_pos hno]
   obtain ⟨m1, m2, m3, m4, m5, m6⟩ := next (P.over 19968) rfl
   rw [eP]
   refine ⟨m1.stand 2 _, m2, m3, m4, fun hT hv => tsay hT hv hP ⟨by omega, by omega⟩ m2.b m2.top (fun Gs z hz => ?_)⟩
   exact slay_over Gs s P z hz hP.ok (by rw [hi.top]; omega) 19968 2 _ _ (pfW 19968) ⟨by omega, by omega⟩ hW hP.es hcl hpo hwf hno hc m5
  ·have eP : P.wide = (P.wrapped 19968).stand 2 (pfW 19968) := by unfold SP.wide; rw [if_neg hw, if_neg hno]
   have eW : P.wrapped 19968 = { P with ch := 19968 } := by unfold SP.wrapped; rw [if_neg hw]
   have m2 : InvW ((P.wrapped 19968).stand 2 (pfW 19968)) lead (m + 1) := by
    rw [eW]
    exact invW_stand 19968 (P := P) rfl hi.b hi.top rfl h1 (by omega) (vc := vc) h4 hwf (by omega) (by omega) hi.len hi.fit hi.sum h5 h6 h7
   rw [eP]
   refine ⟨by rw [eW]; exact (hP.char 19968).stand 2 _, m2, by rw [eW]; rfl, by rw [eW]; rfl, fun hT hv => tsay hT hv hP ⟨by omega, by omega⟩ m2.b m2.top (fun Gs z hz => ?_)⟩
   refine slay_any Gs s P z hz hP.ok (by rw [hi.top]; omega) 19968 2 _ _ (pfW 19968) ⟨by omega, by omega⟩ hW hP.es hcl hpo (fun l hl => ?_) (by rw [eW]; show P.c.col + 2 <= P.cols; omega)
   rw [eW] at hl ⊢
   have hl : P.L[P.c.row.toNat]? = some l := hl
   rw [h1] at hl
   have h9 := (h5 l (by simpa using hl)).2
   show (∀ c, l[P.c.col.toNat]? = some c -> c.k = 0) /\ ∀ c, l[P.c.col.toNat + 1]? = some c -> c.k = 0
   rw [h4, show (vc : Int).toNat = vc by simp]
   exact ⟨fun c hc => h9 vc c hc (Nat.le_refl _), fun c hc => h9 (vc + 1) c hc (by omega)⟩
def Idle (t : PS) : Prop := t.st = 0 /\ t.ch.left = 0 /\ t.ends = false
theorem idle_lead {t : PS} (h : Idle t) : (feedF 1 t [45]).2 = [evX 1 45 0] /\ Idle (feedF 1 t [45]).1 := by
 have hk : runK t [45] = 0 := by unfold runK runs; rw [h.2.2, h.1]; rfl
 obtain ⟨p1, p2, p3, p4⟩ := step_print h.1 h.2.1 h.2.2 (c := 45) (by omega)
 rw [feedF_step (by omega) hk, feedF_nil, p1]
 exact ⟨rfl, p2, p3, p4⟩
theorem idle_wide {t : PS} (h : Idle t) : (feedF 3 t [228, 184, 128]).2 = [evX 1 19968 0] /\ Idle (feedF 3 t [228, 184, 128]).1 := by
 obtain ⟨h1, h2, h3⟩ := h
 have rk : ∀ (u : PS) (l : List Int), u.st = 0 -> u.ends = false -> runK u l = 0 := fun u l a b => by unfold runK runs; rw [b, a]; rfl
 have st : ∀ (u : PS) (b : Int), u.st = 0 -> u.ends = false -> 128 <= b -> stepS u b = ({ u with ch := (put u.ch b.toNat).1 }, printE (put u.ch b.toNat).2) := fun u b a e hb => by
  have hct : ctlB b = false := by unfold ctlB; rw [decide_eq_false (by omega)]; rfl
  unfold stepS plainS groundS
  rw [if_neg (by rw [e]; simp), if_pos (by omega), if_pos a, if_neg (by rw [hct]; simp), if_neg (by omega)]
 have n1 : (228 : Int).toNat = 228 := rfl
 have n2 : (184 : Int).toNat = 184 := rfl
 have n3 : (128 : Int).toNat = 128 := rfl
 have e1 : put t.ch 228 = (⟨2, 4, 128, 191⟩, []) := by unfold put; rw [if_pos h2]; kernel_rfl
 have e2 : put ⟨2, 4, 128, 191⟩ 184 = (⟨1, 312, 128, 191⟩, []) := by kernel_rfl
 have e3 : put ⟨1, 312, 128, 191⟩ 128 = (⟨0, 0, 0, 0⟩, [19968]) := by kernel_rfl
 have a1 := feedF_step (g := 3) (s := t) (c := 228) (cs := [184, 128]) (by omega) (rk t _ h1 h3)
 rw [st t 228 h1 h3 (by omega), n1, e1] at a1
 have a2 := feedF_step (g := 2) (s := { t with ch := ⟨2, 4, 128, 191⟩ }) (c := 184) (cs := [128]) (by omega) (rk _ _ h1 h3)
 rw [st { t with ch := ⟨2, 4, 128, 191⟩ } 184 h1 h3 (by omega), n2] at a2
 simp only at a2
 rw [e2] at a2
 have a3 := feedF_step (g := 1) (s := { t with ch := ⟨1, 312, 128, 191⟩ }) (c := 128) (cs := []) (by omega) (rk _ _ h1 h3)
 rw [st { t with ch := ⟨1, 312, 128, 191⟩ } 128 h1 h3 (by omega), n3] at a3
 simp only at a3
 rw [e3, feedF_nil] at a3
 have b2 : feedF 2 { t with ch := ⟨2, 4, 128, 191⟩ } [184, 128] = ({ t with ch := ⟨0, 0, 0, 0⟩ }, [evX 1 19968 0]) := by
  rw [a2]
  show ((feedF 1 { t with ch := ⟨1, 312, 128, 191⟩ } [128]).1, _ ++ (feedF 1 { t with ch := ⟨1, 312, 128, 191⟩ } [128]).2) = _
  rw [a3]
  rfl
 have b1 : feedF 3 t [228, 184, 128] = ({ t with ch := ⟨0, 0, 0, 0⟩ }, [evX 1 19968 0]) := by
  rw [a1]
  show ((feedF 2 { t with ch := ⟨2, 4, 128, 191⟩ } [184, 128]).1, _ ++ (feedF 2 { t with ch := ⟨2, 4, 128, 191⟩ } [184, 128]).2) = _
  rw [b2]
  rfl
 rw [b1]
 exact ⟨rfl, h1, rfl, h3⟩
theorem LiveW.tm {c : Cf} {q s en pp : Nat} {w0 w1 : World} {P : SP} {t : PS} (h : LiveW c q s en pp w0 w1 P t) : ∃ G rv Gs Ge, TmK G w1 q c ⟨s, en, pp, .pointer none, .slice none 0 0, false, rv, 0, 0⟩ P [] Gs Ge := by
 obtain ⟨G, GP, ⟨rv, Gs, Ge, h1⟩, -⟩ := h
 exact ⟨G, rv, Gs, Ge, h1⟩
theorem LiveW.k {c : Cf} {q s en pp : Nat} {w0 w1 : World} {P : SP} {t : PS} (h : LiveW c q s en pp w0 w1 P t) : Kept (fun _ => False) w0 w1 := by
 obtain ⟨G, GP, -, -, -, -, h5⟩ := h
 exact h5
set_option maxRecDepth 100000 in
set_option maxHeartbeats 8000000 in
theorem wide_go (cols n lead : Int) (w : World) (hn0 : Pl.In cols) (hn1 : Pl.In n) (hn2 : Pl.In lead) :
  Calls Tryz.prog 7 #[.int .i64 cols, .int .i64 n, .int .i64 lead] w fun e w' => e = .returned (.bool true) /\ Kept (fun _ => False) w w' := by
 have kc := fun (w : World) (C : Array Value) (n c : Nat) => Lib.run_convert_bytes_const (P := Tryz.prog) w 22 5 C n c Tryz.underlying22 Tryz.underlying5
 go_enter Tryz.func7, Tryz.ntmps7
 go_wp2_with fail
 refine (known_any w).mono ?_
 rintro e w1 ⟨rfl, hk1⟩
 have HK1 := Lib.hid hk1
 have HP9 := Lib.hid (place_any cols 9 (by omega) hn0 w1)
 have HP12 := Lib.hid (place_any n 12 (by omega) hn1 w1)
 have HN := Lib.hid hn2
 clear hk1 hn0 hn1 hn2
 go_wp2_with fail
 refine HP9.out.mono ?_
 rintro e w2 ⟨⟨c, hc, rfl⟩, rfl⟩
 have wr1 : IntKind.i64.wrap (2 + (c : Int)) = ((c + 2 : Nat) : Int) := by rw [show (2 : Int) + (c : Int) = ((c + 2 : Nat) : Int) by omega]; exact IntWalk.i64_in _ (by omega)
 obtain ⟨C, hC⟩ : ∃ C, c + 2 = C := ⟨_, rfl⟩
 rw [hC] at wr1
 go_wp2_with fail
 refine HP12.out.mono ?_
 rintro e w3 ⟨⟨m, hm, rfl⟩, rfl⟩
 have wm1 : IntKind.i64.wrap (1 + (m : Int)) = ((m + 1 : Nat) : Int) := by rw [show (1 : Int) + (m : Int) = ((m + 1 : Nat) : Int) by omega]; exact IntWalk.i64_in _ (by omega)
 obtain ⟨M, hM⟩ : ∃ M, m + 1 = M := ⟨_, rfl⟩
 rw [hM] at wm1
 have HPC := Lib.hid (place_any lead C (by omega) HN.out w1)
 have HT := Lib.hid (tmnew_any ⟨30, C, 1, 1, 0, 0⟩ (by show 1 <= 30 /\ 30 <= 1000; omega) (by show 1 <= C /\ C <= 16; omega) (by show 1 <= 1 /\ 1 <= 64; omega) (by show 1 <= 1 /\ 1 <= 64; omega) (by show 0 <= 16384; omega) (by show 0 <= 1073741824; omega) w1)
 unfold Cf.val at HT
 simp only at HT
 have HRC := Lib.hid (And.intro (show 2 <= C /\ C <= 10 by omega) (show 1 <= M /\ M <= 12 by omega))
 clear hc hm hC hM HP9 HP12
 go_wp2_with fail
 refine HPC.out.mono ?_
 rintro e w3' ⟨⟨ld, hld, rfl⟩, rfl⟩
 have HLD := Lib.hid hld
 clear hld HPC
 go_wp2_with fail
 refine HT.out.mono ?_
 rintro e w4 ⟨q, s, en, p, G, Gs, Ge, GP, rfl, h⟩
 obtain ⟨s, en, p, hlv⟩ := liveW_new (w := w1) (w1 := w4) (c := ⟨30, C, 1, 1, 0, 0⟩) (q := q) ⟨s, en, p, G, Gs, Ge, GP, h⟩
 have HL := Lib.hid hlv
 clear h hlv HT
 have HI0 := Lib.hid (show Pl5 (sp0 30 C 0) /\ InvD (sp0 30 C 0) 0 from ⟨pl5_0 30 C 0 (by omega) (by have := HRC.out; omega), rfl, rfl, rfl, fun l hl => by rw [(List.mem_replicate.1 hl).2]; exact ⟨fun y hy => by rw [(List.mem_replicate.1 hy).2], by simp [sp0]⟩, rfl, rfl⟩)
 go_wp2
 go_loopg [9] (ld + 1) (fun gg iv wr => ∃ (j : Nat) (P : SP) (t : PS), ld + 1 <= gg + j /\ j <= ld /\ iv = .int .i64 (j : Int) /\ LiveW ⟨30, C, 1, 1, 0, 0⟩ q s en p w1 wr P t /\ Idle t /\ Pl5 P /\ InvD P j /\ P.cols = C /\ P.rows = 30)
 case atStart => exact ⟨0, _, ps0, by omega, by omega, rfl, HL.out, ⟨rfl, rfl, rfl⟩, HI0.out.1, HI0.out.2, rfl, rfl⟩
 case round =>
  obtain ⟨j, P, t, hgg, hjl, rfl, hlv, hid, hpl, hiv, hpc, hpr⟩ := hrel
  by_cases hj : j < ld
  ·have g2 : decide (j < ld) = true := decide_eq_true hj
   have g2' : decide ((j : Int) < (ld : Int)) = true := decide_eq_true (by omega)
   have wk : IntKind.i64.wrap ((j : Int) + 1) = (j : Int) + 1 := IntWalk.i64_in _ (by have := HLD.out; have := HRC.out; omega)
   obtain ⟨e1, e2⟩ := idle_lead hid
   obtain ⟨a1, a2, a3, a4, a5⟩ := say_lead (c := ⟨30, C, 1, 1, 0, 0⟩) (q := q) (s := s) (en := en) (pp := p) hpl hiv (by have := HLD.out; omega)
   obtain ⟨W5, hW5⟩ : ∃ W5, wr.alloc (.cells #[.int .u8 45] 5 (1, 2)) = W5 := ⟨_, rfl⟩
   have k5 : Kept (fun _ => False) wr W5 := by rw [<- hW5]; exact (Kept.refl _ _).alloc _
   have b5 : W5.heap[wr.heap.size]? = some (.cells #[.int .u8 45] 5 (1, 2)) := by rw [<- hW5]; exact blk_new _ _
   have HF := Lib.hid (liveW_feed (P' := P.typed 45) (evX 1 45 0) hlv k5 (some ⟨wr.heap.size, 0, none⟩) 1 1 [45] (slAt_blk (k := .u8) (xs := [45]) b5 rfl rfl) (by decide) (fun h => by cases h) (by omega) (by omega) (fun b off _ h => by cases h; exact .inl (Nat.le_refl _)) e1 (fun hT hv => a5 hT hv))
   have HX := Lib.hid (And.intro e2 (And.intro a1 (And.intro a2 (And.intro (a3.trans hpc) (a4.trans hpr)))))
   clear hlv hid hpl hiv hpc hpr e1 e2 a1 a2 a3 a4 a5 k5 b5
   go_wp2_with fail
   refine HF.out.mono ?_
   rintro e w6 ⟨⟨x6, rfl⟩, hl6⟩
   have H6 := Lib.hid hl6
   clear hl6
   go_wp2
   go_roundg (gk - 1)
   case rel => exact ⟨j + 1, _, _, by omega, by omega, by go_num, H6.out, HX.out.1, HX.out.2.1, HX.out.2.2.1, HX.out.2.2.2.1, HX.out.2.2.2.2⟩
   case measure => omega
  ·obtain rfl : j = ld := by omega
   have g2 : decide (j < j) = false := decide_eq_false (by omega)
   have HS2 := Lib.hid (show LiveW ⟨30, C, 1, 1, 0, 0⟩ q s en p w1 wr P t /\ Idle t /\ Pl5 P /\ InvW P j 0 /\ P.cols = C /\ P.rows = 30 from ⟨hlv, hid, hpl, invW_0 hiv (by rw [hpc]; exact HLD.out), hpc, hpr⟩)
   clear hlv hid hpl hiv hpc hpr
   go_wp2
   go_loopg [10] (M + 1) (fun gg iv wx => ∃ (k : Nat) (P : SP) (t : PS), M + 1 <= gg + k /\ k <= M /\ iv = .int .i64 (k : Int) /\ LiveW ⟨30, C, 1, 1, 0, 0⟩ q s en p w1 wx P t /\ Idle t /\ Pl5 P /\ InvW P j k /\ P.cols = C /\ P.rows = 30)
   case atStart => exact ⟨0, _, _, by omega, by omega, rfl, HS2.out⟩
   case round =>
    obtain ⟨k, P, t, hgg, hkl, rfl, hlv, hid, hpl, hiv, hpc, hpr⟩ := hrel
    by_cases hk : k < M
    ·have g3 : decide (k < M) = true := decide_eq_true hk
     have g3' : decide ((k : Int) < (M : Int)) = true := decide_eq_true (by omega)
     have wk : IntKind.i64.wrap ((k : Int) + 1) = (k : Int) + 1 := IntWalk.i64_in _ (by have := HRC.out; omega)
     obtain ⟨e1, e2⟩ := idle_wide hid
     obtain ⟨a1, a2, a3, a4, a5⟩ := say_wide (c := ⟨30, C, 1, 1, 0, 0⟩) (q := q) (s := s) (en := en) (pp := p) hpl hiv (by have := HRC.out; omega) (by rw [hpc]; exact HRC.out.1.1)
     obtain ⟨W5, hW5⟩ : ∃ W5, wr.alloc (.cells #[.int .u8 228, .int .u8 184, .int .u8 128] 5 (3, 4)) = W5 := ⟨_, rfl⟩
     have k5 : Kept (fun _ => False) wr W5 := by rw [<- hW5]; exact (Kept.refl _ _).alloc _
     have b5 : W5.heap[wr.heap.size]? = some (.cells #[.int .u8 228, .int .u8 184, .int .u8 128] 5 (3, 4)) := by rw [<- hW5]; exact blk_new _ _
     have HF := Lib.hid (liveW_feed (P' := P.wide) (evX 1 19968 0) hlv k5 (some ⟨wr.heap.size, 0, none⟩) 3 3 [228, 184, 128] (slAt_blk (k := .u8) (xs := [228, 184, 128]) b5 rfl rfl) (by decide) (fun h => by cases h) (by omega) (by omega) (fun b off _ h => by cases h; exact .inl (Nat.le_refl _)) e1 (fun hT hv => a5 hT hv))
     have HX := Lib.hid (And.intro e2 (And.intro a1 (And.intro a2 (And.intro (a3.trans hpc) (a4.trans hpr)))))
     clear hlv hid hpl hiv hpc hpr e1 e2 a1 a2 a3 a4 a5 k5 b5
     go_wp2_with fail
     refine HF.out.mono ?_
     rintro e w6 ⟨⟨x6, rfl⟩, hl6⟩
     have H6 := Lib.hid hl6
     clear hl6
     go_wp2
     go_roundg (gk - 1)
     case rel => exact ⟨k + 1, _, _, by omega, by omega, by go_num, H6.out, HX.out.1, HX.out.2.1, HX.out.2.2.1, HX.out.2.2.2.1, HX.out.2.2.2.2⟩
     case measure => omega
    ·obtain rfl : k = M := by omega
     have g3 : decide (k < k) = false := decide_eq_false (by omega)
     obtain ⟨G, rv, Gs, Ge, hT⟩ := hlv.tm
     have HLn := Lib.hid (tlin_any G Gs Ge q _ _ P [] wr hT)
     have HW := Lib.hid (And.intro (HK1.out.then hlv.k) (And.intro hiv (And.intro hpc (show P.L.length = 30 by rw [hpl.ok.nl, hpr]))))
     clear hT hlv hid hpl hiv hpc hpr
     go_wp2_with fail
     refine HLn.out.mono ?_
     rintro e w8 ⟨v8, us, rfl, hm8⟩
     have hul : us.length = 30 := by rw [hm8.len]; exact HW.out.2.2.2
     obtain ⟨la, lc, hve, -, -, -, hg8, -⟩ := hm8.own.shape
     rw [hul] at hve hg8
     obtain ⟨g8, rfl⟩ := hg8 (by omega)
     subst hve
     have H8 := Lib.hid (And.intro hm8.own.at (And.intro (show ∀ (j : Nat) (u : Value) (l : List Cl), us[j]? = some u -> P.L[j]? = some l -> OwnC w8 u l from fun j u l hu hl => (hm8.all j u l hu hl).1) (And.intro hul (HW.out.1.then hm8.k))))
     obtain ⟨row, vc, r1, r2, r3, r4, r5, r6, r7⟩ := HW.out.2.1.ex
     have HR := Lib.hid (show ∀ i l, P.L[i]? = some l -> 2 * hd l + (if i = 0 then j else 0) <= C from fun i l hl => by
      have hpc := HW.out.2.2.1
      rcases Nat.lt_trichotomy i row with h | h | h
      ·have := r6 i l h hl; omega
      ·subst h; have := (r5 l hl).1; omega
      ·have h9 := hd_nar (r7 i l h hl)
       have h10 := HLD.out
       split <;> omega)
     clear hm8 hul r1 r2 r3 r4 r5 r6 r7 hg8 HLn
     go_wp2
     go_loopg [12, 13] 31 (fun gg hv iv wx => ∃ i : Nat, 31 <= gg + i /\ i <= 30 /\ hv = .int .i64 ((hds (P.L.take i) : Nat) : Int) /\ iv = .int .i64 (i : Int) /\ Kept (fun _ => False) w8 wx)
     case atStart => exact ⟨0, by omega, by omega, rfl, rfl, Kept.refl _ _⟩
     case round =>
      obtain ⟨i, hgg, hi30, rfl, rfl, hkr⟩ := hrel
      by_cases hi : i < 30
      ·obtain ⟨l, hl⟩ : ∃ l, P.L[i]? = some l := ⟨_, List.getElem?_eq_getElem (by rw [HW.out.2.2.2]; exact hi)⟩
       obtain ⟨u, hu⟩ : ∃ u, us[i]? = some u := ⟨_, List.getElem?_eq_getElem (by rw [H8.out.2.2.1]; exact hi)⟩
       have hll : l.length = C := by rw [HW.out.2.1.len l (List.mem_of_getElem? hl)]; exact HW.out.2.2.1
       have huo := (H8.out.2.1 i u l hu hl).kept hkr (fun _ _ => id)
       obtain ⟨ug, uc, hue, hus, hul, -⟩ := huo.sl (by rw [hll]; have := HRC.out; omega)
       rw [hll] at hue hus
       subst hue
       have hc0 : wr.cell? ⟨g8, i, none⟩ = some (.slice (some ⟨ug, 0, none⟩) C uc) := by
        have h9 := H8.out.1.2.2.2.1 i hi
        rw [hu] at h9
        exact hkr.cell h9 id
       have HRT := Lib.hid (rightL_any ug 0 C uc l wr hus (by have := HRC.out; omega) (by have := HRC.out; omega) (HW.out.2.1.fit l (List.mem_of_getElem? hl)))
       have hroom := HR.out i l hl
       obtain ⟨h0, hh0⟩ : ∃ h0, hds (P.L.take i) = h0 := ⟨_, rfl⟩
       obtain ⟨h1, hh1⟩ : ∃ h1, hd l = h1 := ⟨_, rfl⟩
       have hnx := hds_take P.L i l hl
       rw [hh0, hh1] at hnx
       rw [hh1] at hroom
       rw [hh0]
       have hb0 : h0 <= 1000 := by
        have h9 : ∀ (L : List (List Cl)) (a : Nat), (∀ l ∈ L, hd l <= a) -> hds L <= a * L.length := by
         intro L a
         induction L with
         | nil => intro _; exact Nat.le_refl _
         | cons x L ih => intro h; unfold hds at *; rw [List.map_cons, List.sum_cons, List.length_cons, Nat.mul_succ]; have := h x (by simp); have := ih (fun y hy => h y (by simp [hy])); omega
        have h10 := h9 (P.L.take i) 10 (fun y hy => by
         obtain ⟨k2, hk2⟩ := List.getElem?_of_mem (List.mem_of_mem_take hy)
         have := HR.out k2 y hk2
         have := HRC.out
         omega)
        rw [hh0, List.length_take] at h10
        omega
       have g4 : decide (i < 30) = true := decide_eq_true hi
       have g4' : decide ((i : Int) < 30) = true := decide_eq_true (by omega)
       have i0 : (0 : Int) <= (i : Int) := by omega
       have i1 : (i : Int) < 30 := by omega
       have wi : IntKind.i64.wrap ((i : Int) + 1) = (i : Int) + 1 := IntWalk.i64_in _ (by omega)
       have whd : IntKind.i64.wrap ((h0 : Int) + (h1 : Int)) = ((h0 + h1 : Nat) : Int) := by rw [show (h0 : Int) + (h1 : Int) = ((h0 + h1 : Nat) : Int) by omega]; exact IntWalk.i64_in _ (by have := HRC.out; omega)
       have HIN := Lib.hid (And.intro hus (And.intro hkr (And.intro hll (And.intro hh1 (And.intro hnx (And.intro hroom (And.intro hgg hl)))))))
       obtain ⟨GO, hGO⟩ : ∃ G, gk = G := ⟨_, rfl⟩
       have HGO := Lib.hid hGO
       clear hus hkr hll hnx hroom huo hul hu hh0 hb0 hl hGO
       go_wp2_with fail
       refine HRT.out.mono ?_
       rintro e w9 ⟨rfl, hk9⟩
       have HK9 := Lib.hid (HIN.out.2.1.then hk9)
       have hc9 := hk9.cell hc0 id
       have HC9 := Lib.hid hc9
       have hs9 := HIN.out.1.kept hk9 (fun _ _ _ _ => id)
       have HS9 := Lib.hid hs9
       clear hk9 hc0 hs9
       go_wp2
       go_loopg [14, 15] (C + 1) (fun gg nv kv wy => ∃ x : Nat, C + 1 <= gg + x /\ x <= C /\ nv = .int .i64 ((hd (l.take x) : Nat) : Int) /\ kv = .int .i64 (x : Int) /\ w9 = wy)
       case atStart => exact ⟨0, by omega, by omega, rfl, rfl, rfl⟩
       case round =>
        obtain ⟨x, hgx, hxC, rfl, rfl, rfl⟩ := hrel
        by_cases hx : x < C
        ·obtain ⟨cc, hcc⟩ : ∃ cc, l[x]? = some cc := ⟨_, List.getElem?_eq_getElem (by rw [HIN.out.2.2.1]; exact hx)⟩
         obtain ⟨b', off', he, hcel⟩ := HS9.out.2.resolve_left (by omega)
         cases he
         have y1 := hcel x cc hcc 1 (by omega)
         unfold Cl.vs at y1
         simp only [List.getElem?_cons_zero, List.getElem?_cons_succ, Nat.zero_add] at y1
         have hc9 := HC9.out
         have g5 : decide (x < C) = true := decide_eq_true hx
         have g5' : decide ((x : Int) < (C : Int)) = true := decide_eq_true (by omega)
         have x0 : (0 : Int) <= (x : Int) := by omega
         have x1 : (x : Int) < (C : Int) := by omega
         have wx : IntKind.i64.wrap ((x : Int) + 1) = (x : Int) + 1 := IntWalk.i64_in _ (by have := HRC.out; omega)
         have hnx := hd_take l x cc hcc
         obtain ⟨a0, ha0⟩ : ∃ a0, hd (l.take x) = a0 := ⟨_, rfl⟩
         have ha9 : a0 <= C := by rw [<- ha0]; unfold hd; exact Nat.le_trans List.countP_le_length (by rw [List.length_take]; omega)
         rw [ha0] at hnx ⊢
         have wa : IntKind.i64.wrap ((a0 : Int) + 1) = ((a0 + 1 : Nat) : Int) := by rw [show (a0 : Int) + 1 = ((a0 + 1 : Nat) : Int) by omega]; exact IntWalk.i64_in _ (by have := HRC.out; omega)
         obtain ⟨kk, hkk⟩ : ∃ kk, cc.k = kk := ⟨_, rfl⟩
         rw [hkk] at y1 hnx
         have HNX := Lib.hid hnx
         clear hcc hcel hkk ha0 hnx
         by_cases hk1 : kk = 1
         ·subst hk1
          go_wp2
          go_roundg (gk - 1)
          case rel => exact ⟨x + 1, by omega, by omega, by rw [HNX.out]; simp, by go_num, rfl⟩
          case measure => omega
         ·have g6 : (kk == 1) = false := by simp [hk1]
          go_wp2
          go_roundg (gk - 1)
          case rel => exact ⟨x + 1, by omega, by omega, by rw [HNX.out, if_neg hk1]; rfl, by go_num, rfl⟩
          case measure => omega
        ·obtain rfl : x = C := by omega
         have g5 : decide (x < x) = false := decide_eq_false (by omega)
         have hc9 := HC9.out
         have htk : l.take x = l := List.take_of_length_le (by rw [HIN.out.2.2.1]; omega)
         rw [htk, HIN.out.2.2.2.1]
         have hroom := HIN.out.2.2.2.2.2.1
         have hCC := HRC.out
         have hLD := HLD.out
         have q1 : ((x : Int)).tdiv 2 = ((x / 2 : Nat) : Int) := by rw [Int.tdiv_eq_ediv_of_nonneg (by omega)]; omega
         have q2 : ((x : Int) - (j : Int)).tdiv 2 = (((x - j) / 2 : Nat) : Int) := by rw [Int.tdiv_eq_ediv_of_nonneg (by omega)]; omega
         have q3 : IntKind.i64.wrap (((x / 2 : Nat) : Int)) = ((x / 2 : Nat) : Int) := IntWalk.i64_in _ (by omega)
         have q4 : IntKind.i64.wrap ((x : Int) - (j : Int)) = (x : Int) - (j : Int) := IntWalk.i64_in _ (by omega)
         have q5 : IntKind.i64.wrap ((((x - j) / 2 : Nat) : Int)) = (((x - j) / 2 : Nat) : Int) := IntWalk.i64_in _ (by omega)
         obtain ⟨A1, hA1⟩ : ∃ a, x / 2 = a := ⟨_, rfl⟩
         obtain ⟨A2, hA2⟩ : ∃ a, (x - j) / 2 = a := ⟨_, rfl⟩
         rw [hA1] at q1 q3
         rw [hA2] at q2 q5
         by_cases hi0 : i = 0
         ·subst hi0
          rw [if_pos rfl] at hroom
          have g7 : decide ((A2 : Int) < (h1 : Int)) = false := decide_eq_false (by omega)
          have g7' : decide (A2 < h1) = false := decide_eq_false (by omega)
          clear hroom hCC hLD hA1 hA2 htk
          go_wp2
          go_roundg (GO - 1)
          case rel => exact ⟨1, by have := HIN.out.2.2.2.2.2.2.1; have := HGO.out; omega, by omega, by rw [HIN.out.2.2.2.2.1]; simp, by go_num, HK9.out⟩
          case measure => have := HIN.out.2.2.2.2.2.2.1; have := HGO.out; omega
         ·have gi : ((i : Int) == 0) = false := by simp; omega
          rw [if_neg hi0] at hroom
          have g7 : decide ((A1 : Int) < (h1 : Int)) = false := decide_eq_false (by omega)
          have g7' : decide (A1 < h1) = false := decide_eq_false (by omega)
          clear hroom hCC hLD hA1 hA2 htk
          go_wp2
          go_roundg (GO - 1)
          case rel => exact ⟨i + 1, by have := HIN.out.2.2.2.2.2.2.1; have := HGO.out; omega, by omega, by rw [HIN.out.2.2.2.2.1]; simp, by go_num, HK9.out⟩
          case measure => have := HIN.out.2.2.2.2.2.2.1; have := HGO.out; omega
      ·obtain rfl : i = 30 := by omega
       have hsum : hds (P.L.take 30) = k := by rw [List.take_of_length_le (by rw [HW.out.2.2.2]; exact Nat.le_refl _)]; exact HW.out.2.1.sum
       rw [hsum]
       have gE : ((k : Int) == (k : Int)) = true := by simp
       have HE := Lib.hid (H8.out.2.2.2.then hkr)
       clear hkr hsum
       go_wp2
       go_ret
       exact ⟨rfl, HE.out⟩
theorem law_wide {c n l : Int} {W : World} (f0 : (Lit.int .i64 c).wf = true) (f1 : (Lit.int .i64 n).wf = true) (f2 : (Lit.int .i64 l).wf = true) :
  Calls Tryz.prog 7 #[.int .i64 c, .int .i64 n, .int .i64 l] W fun e w' => e = .returned (.bool true) /\ Below W.heap.size W w' := by
 have wf : ∀ {n : Int}, (Lit.int .i64 n).wf = true -> Pl.In n := fun h => by simp [Lit.wf, IntKind.min, IntKind.max, IntKind.signed, IntKind.bits] at h; unfold Pl.In; omega
 refine (wide_go c n l W (wf f0) (wf f1) (wf f2)).mono ?_
 rintro e w' ⟨he, hk⟩
 exact ⟨he, hk.below⟩
end Go.Proofs.YtmplpcmcbliadaaGreatDoor
