/- The parser: bytes fed. -/
import Derived.Test.YtnaoobgghgnflaaF10
namespace Go.Proofs.Ytnaoobgghgnflaa
open Go.RowKit Pl
set_option linter.unusedVariables false
set_option linter.unusedSimpArgs false
theorem printE_len (l : List Int) : (printE l).length = l.length := by simp [printE]
theorem groundS_len (s : PS) (c : Int) : (groundS s c).2.length ≤ 3 := by
  have h1 := fin_len s.ch
  have h2 := put_len s.ch c.toNat
  unfold groundS
  split
  · simp only [List.length_append, printE_len, List.length_cons, List.length_nil]; omega
  · split
    · simp only [printE_len]; omega
    · simp only [printE_len]; omega
theorem doneS_len (s : PS) (c : Int) : (doneS s c).2.length ≤ 1 := by unfold doneS; simp only; split <;> simp
theorem openS_len {s : PS} {c : Int} {r : PS × List Ev} (h : openS s c = some r) : r.2.length ≤ 1 := by
  unfold openS at h
  repeat' split at h
  all_goals first | (cases h; done) | (cases h; simp)
theorem escS_len (s : PS) (c : Int) : (escS s c).2.length ≤ 3 := by
  unfold escS
  split
  · simp
  · split
    · exact groundS_len _ _
    · split
      · simp
      · split
        · simp
        · split
          · have := doneS_len s c; omega
          · split
            · rename_i r h; have := openS_len h; omega
            · have := doneS_len s c; omega
theorem finalS_len (s : PS) (c : Int) : (finalS s c).2.length ≤ 1 := by unfold finalS; simp only; split <;> simp
theorem headS_len (s : PS) (c : Int) : (headS s c).2.length ≤ 3 := by
  unfold headS
  simp only
  split
  · split <;> simp
  · split
    · exact groundS_len _ _
    · repeat' split
      all_goals first | (simp; done) | (have := finalS_len ({ s with fi := s.fi && (ctlB c || c == 127) }) c; omega)
theorem textS_len (s : PS) (c : Int) : (textS s c).2.length ≤ 1 := by unfold textS; split; simp; split <;> simp
theorem endedS_len (s : PS) (c : Int) : (endedS s c).2.length ≤ 4 := by
  have h0 := closeE_len s.st 0
  have h1 := closeE_len s.st 1
  unfold endedS
  split
  · simp only [List.length_append]; split <;> simp <;> omega
  · split
    · simp only; omega
    · split
      · simp only [List.length_append, List.length_cons, List.length_nil]; omega
      · have h2 := escS_len (({ s with ends := false } : PS).beg 1) c
        simp only [List.length_append]; omega
theorem plainS_len (s : PS) (c : Int) : (plainS s c).2.length ≤ 3 := by
  unfold plainS
  split
  · exact groundS_len _ _
  · split
    · exact escS_len _ _
    · split
      · exact headS_len _ _
      · split
        · have := textS_len s c; omega
        · simp
theorem stepS_len (s : PS) (c : Int) : (stepS s c).2.length ≤ 8 := by
  have h0 := closeE_len s.st 0
  have h1 := fin_len s.ch
  unfold stepS
  split
  · have := endedS_len s c; omega
  · split
    · have := plainS_len s c; omega
    · simp only
      split
      · simp only [List.length_append, List.length_cons, List.length_nil]; split <;> simp [printE_len] <;> omega
      · split
        · simp only; split <;> simp [printE_len] <;> omega
        · simp only; split <;> simp [printE_len] <;> omega
def feedF : Nat → PS → List Int → PS × List Ev
  | 0, s, _ => (s, [])
  | _ + 1, s, [] => (s, [])
  | n + 1, s, c :: cs =>
    if 0 < runK s (c :: cs) then ((feedF n s ((c :: cs).drop (runK s (c :: cs)))).1, runE s (c :: cs) ++ (feedF n s ((c :: cs).drop (runK s (c :: cs)))).2)
    else ((feedF n (stepS s c).1 cs).1, (stepS s c).2 ++ (feedF n (stepS s c).1 cs).2)
theorem feedF_nil (g : Nat) (s : PS) : feedF g s [] = (s, []) := by cases g <;> rfl
theorem feedF_run {g : Nat} {s : PS} {c : Int} {cs : List Int} (hg : 0 < g) (hk : 0 < runK s (c :: cs)) : feedF g s (c :: cs) = ((feedF (g - 1) s ((c :: cs).drop (runK s (c :: cs)))).1, runE s (c :: cs) ++ (feedF (g - 1) s ((c :: cs).drop (runK s (c :: cs)))).2) := by
  cases g with
  | zero => omega
  | succ g => simp only [feedF, if_pos hk, Nat.add_sub_cancel]
theorem feedF_step {g : Nat} {s : PS} {c : Int} {cs : List Int} (hg : 0 < g) (hk : runK s (c :: cs) = 0) : feedF g s (c :: cs) = ((feedF (g - 1) (stepS s c).1 cs).1, (stepS s c).2 ++ (feedF (g - 1) (stepS s c).1 cs).2) := by
  cases g with
  | zero => omega
  | succ g => simp only [feedF, if_neg (show ¬ 0 < runK s (c :: cs) by omega), Nat.add_sub_cancel]
theorem runE_nil {s : PS} {xs : List Int} (h : runK s xs = 0) : runE s xs = [] := by
  unfold runE runK at *
  by_cases hr : runs s = true
  · rw [if_pos hr] at h; rw [if_neg (fun h2 => by have := h2.2; omega)]
  · rw [if_neg (fun h2 => hr h2.1)]
theorem runE_len (s : PS) (xs : List Int) : (runE s xs).length ≤ 1 := by unfold runE; split <;> simp
theorem runK_le (s : PS) (xs : List Int) : runK s xs ≤ xs.length := by unfold runK; split; exact runN_le xs; omega
theorem Kept.trans' {G : Nat → Prop} {a b c : World} {q : Nat} (h : Kept (fun _ => False) a b) (k : Kept (fun i => G i ∨ i = q) b c) (hq : a.heap.size ≤ q := by exact Nat.le_refl _) : Kept G a c := (h.mono (fun _ _ h => h.elim)).trans (k.mono fun i _ hi => by rcases hi with hi | hi; exact .inl hi; exact .inr (by omega))
/-- The parser at p, nothing listening. -/
def PQ (G : Nat → Prop) (w : World) (p : Nat) (s : PS) : Prop := ∃ d vi vp vd f, w.heap[p]? = some (.cells (PC s d vi vp vd f) 43 (0, 0)) ∧ DecAt w d s.ch ∧ Own .u8 5 w vi s.it ∧ Own .i64 3 w vp s.ps ∧ Own .u8 5 w vd s.ds ∧ (∀ b, vi.ownBlock = some b → vd.ownBlock ≠ some b) ∧ SOk s ∧
  ∀ i, G i ↔ i = p ∨ i = d ∨ vi.ownBlock = some i ∨ vp.ownBlock = some i ∨ vd.ownBlock = some i
theorem PQ.lt {G : Nat → Prop} {w : World} {p : Nat} {s : PS} (h : PQ G w p s) : ∀ i, G i → i < w.heap.size := by
  obtain ⟨d, vi, vp, vd, f, hb, hd, h1, h2, h3, hne, hok, hg⟩ := h
  intro i hi
  rcases (hg i).1 hi with rfl | rfl | hi | hi | hi
  · exact lt_of_blk hb
  · exact hd.lt
  · exact h1.lt i hi
  · exact h2.lt i hi
  · exact h3.lt i hi
theorem PQ.kept {G S : Nat → Prop} {w w' : World} {p : Nat} {s : PS} (h : PQ G w p s) (hk : Kept S w w') (hS : ∀ i, G i → ¬ S i) : PQ G w' p s := by
  obtain ⟨d, vi, vp, vd, f, hb, hd, h1, h2, h3, hne, hok, hg⟩ := h
  exact ⟨d, vi, vp, vd, f, hk.blk hb (hS p ((hg p).2 (.inl rfl))), hd.kept hk (hS d ((hg d).2 (.inr (.inl rfl)))), h1.kept hk (fun b hb => hS b ((hg b).2 (.inr (.inr (.inl hb))))), h2.kept hk (fun b hb => hS b ((hg b).2 (.inr (.inr (.inr (.inl hb)))))), h3.kept hk (fun b hb => hS b ((hg b).2 (.inr (.inr (.inr (.inr hb)))))), hne, hok, hg⟩
/-- Events in a row of their own, none of M. -/
def EVS (M : Nat → Prop) (w : World) (v : Value) (L : List Ev) : Prop := ∃ Vs, OwnE w v Vs ∧ EvL w M Vs L ∧ ∀ b, v.ownBlock = some b → ¬ M b
theorem EVS.kept {M M' S : Nat → Prop} {w w' : World} {v : Value} {L : List Ev} (h : EVS M w v L) (hk : Kept S w w') (hS : ∀ i, i < w.heap.size → S i → M i) (hM : ∀ i, M' i → M i ∨ w.heap.size ≤ i) : EVS M' w' v L := by
  obtain ⟨Vs, h1, h2, h3⟩ := h
  refine ⟨Vs, h1.kept hk (fun b hb hs => h3 b hb (hS b (h1.lt b hb) hs)), h2.kept hk hS hM, fun b hb hm => ?_⟩
  rcases hM b hm with h | h
  · exact h3 b hb h
  · have := h1.lt b hb; omega
set_option maxRecDepth 100000 in
set_option maxHeartbeats 8000000 in
theorem each_any (G : Nat → Prop) (W : World) (p q : Nat) (s : PS) (a : Option Addr) (len cap : Nat) (xs : List Int) (hP : PQ G W p s) (hq : W.heap[q]? = some (.cells #[.slice none 0 0] 26 (0, 0))) (hs : SlAt .u8 W a len xs) (hby : ∀ x ∈ xs, 0 ≤ x ∧ x < 256) (hnil : a = none → len = 0 ∧ cap = 0) (hlc : len ≤ cap) (hl : len ≤ 20000)
    (hloc : ∀ b off, 0 < len → a = some ⟨b, off, none⟩ → ¬ G b ∧ b ≠ q) :
    Calls Try.prog 17 #[.pointer (some ⟨p, 0, none⟩), .slice a len cap, sayV q] W fun r w' => (∃ x, r = .returned x) ∧ ∃ vo G', w'.heap[q]? = some (.cells #[vo] 26 (0, 0)) ∧ EVS G' w' vo (feedF len s xs).2 ∧ PQ G' w' p (feedF len s xs).1 ∧ ¬ G' q ∧ (∀ i, G' i → G i ∨ W.heap.size ≤ i) ∧ Kept (fun i => G i ∨ i = q) W w' := by
  have hxl := hs.1
  obtain ⟨d, vi, vp, vd, f, hb, hd, h1, h2, h3, hne, hok, hg⟩ := hP
  obtain ⟨⟨p0, -⟩, -, -, -, -, -, -, -, -, -, -, ⟨p11, f11⟩⟩ := pcells hb
  obtain ⟨V, hV⟩ : ∃ V, W.setCell ⟨p, 11, none⟩ (sayV q) = V := ⟨_, rfl⟩
  have hkV : Kept (fun i => i = p) W V := by rw [← hV]; exact (Kept.refl (fun i => i = p) W).setCell (p := ⟨p, 11, none⟩) (.inl rfl) _
  have hbV : V.heap[p]? = some (.cells (PC s d vi vp vd (sayV q)) 43 (0, 0)) := by rw [← hV]; exact blk_set hb 11 _
  obtain ⟨cd, hcd⟩ := dec_blk hd
  have hno : ∀ {i : Nat} {c : Array Value} {t : TypeId}, W.heap[i]? = some (.cells c t (0, 0)) → t ≠ 43 → ¬ (fun i => i = p) i := fun hi ht e => blk_ne hi hb ht e
  have hqV := hkV.blk hq (hno hq (by decide))
  have hRC : RC V p q d vi vp vd (.slice none 0 0) [] s [] := ⟨hbV, hd.kept hkV (hno hcd (by decide)), h1.kept hkV (fun b hb => by obtain ⟨c, hc⟩ := own_blk h1 hb; exact hno hc (by decide)), h2.kept hkV (fun b hb => by obtain ⟨c, hc⟩ := own_blk h2 hb; exact hno hc (by decide)), h3.kept hkV (fun b hb => by obtain ⟨c, hc⟩ := own_blk h3 hb; exact hno hc (by decide)), hne, hqV, OwnE.nil V, trivial, hok⟩
  obtain ⟨G0, hG0⟩ : ∃ G0 : Nat → Prop, G0 = Mset p q d vi vp vd (.slice none 0 0) := ⟨_, rfl⟩
  have hR0 : RR G0 V p q s [] := ⟨d, vi, vp, vd, .slice none 0 0, [], hRC, fun i => by rw [hG0]⟩
  have hGG : ∀ i, G0 i ↔ G i ∨ i = q := by
    intro i
    rw [hG0, hg i]
    unfold Mset
    constructor
    · rintro (h | h | h | h | h | h | h)
      · exact .inl (.inl h)
      · exact .inl (.inr (.inl h))
      · exact .inr h
      · exact .inl (.inr (.inr (.inl h)))
      · exact .inl (.inr (.inr (.inr (.inl h))))
      · exact .inl (.inr (.inr (.inr (.inr h))))
      · cases h
    · rintro ((h | h | h | h | h) | h)
      · exact .inl h
      · exact .inr (.inl h)
      · exact .inr (.inr (.inr (.inl h)))
      · exact .inr (.inr (.inr (.inr (.inl h))))
      · exact .inr (.inr (.inr (.inr (.inr (.inl h)))))
      · exact .inr (.inr (.inl h))
  have hpG : G p := (hg p).2 (.inl rfl)
  have hsV : SlAt .u8 V a len xs := hs.kept hkV (fun b off h0 h e => (hloc b off h0 h).1 (by have e2 : b = p := e; rw [e2]; exact hpG))
  have HF := Lib.hid (And.intro hR0 (And.intro hGG (And.intro hkV.size (And.intro (hkV.mono (S' := fun i => G i ∨ i = q) (fun i _ h => .inl (by have e2 : i = p := h; rw [e2]; exact hpG))) (And.intro hq hpG)))))
  have HS := Lib.hid (And.intro hsV (And.intro hby (And.intro hxl hloc)))
  obtain ⟨FS, hFS⟩ : ∃ x, (feedF len s xs).1 = x := ⟨_, rfl⟩
  obtain ⟨FE, hFE⟩ : ∃ x, (feedF len s xs).2 = x := ⟨_, rfl⟩
  rw [hFS, hFE]
  have HFF := Lib.hid (And.intro hFS hFE)
  clear hb hd h1 h2 h3 hne hok hg hkV hbV hcd hno hqV hRC hG0 hR0 hGG hpG hsV hs hby hxl hFS hFE hq hloc p0
  unfold sayV at hV ⊢
  have hst : (store ⟨p, 11, none⟩ (.func (.func 18) #[] #[.pointer (some ⟨q, 0, none⟩)])).run Try.prog W = .ok () V := by
    rw [run_store _ _ _ _ _ (by rfl), p11]
    simp [f11]
    exact hV
  go_enter Try.func17, Try.ntmps17
  go_wp2
  go_loopg [1, 6] len (fun gg bv _ wr => ∃ (k : Nat) (a' : Option Addr) (c' : Nat) (sk : PS) (Ek : List Ev), k ≤ len ∧ len ≤ gg + k ∧ bv = .slice a' (len - k) c' ∧ SlAt .u8 V a' (len - k) (xs.drop k) ∧ len - k ≤ c' ∧ (a' = none → len - k = 0 ∧ c' = 0) ∧ (∀ b off, 0 < len - k → a' = some ⟨b, off, none⟩ → ¬ G0 b) ∧ TP G0 V p q sk Ek wr ∧ Ek.length ≤ 8 * k ∧ (feedF gg sk (xs.drop k)).1 = FS ∧ Ek ++ (feedF gg sk (xs.drop k)).2 = FE)
  case atStart => exact ⟨0, a, cap, s, [], by omega, by omega, rfl, HS.out.1, hlc, hnil, (fun b off h0 h h2 => by have h3 := HS.out.2.2.2 b off h0 h; rcases (HF.out.2.1 b).1 h2 with h4 | h4; exact h3.1 h4; exact h3.2 h4), TP.refl HF.out.1, by simp, HFF.out.1, HFF.out.2⟩
  case round =>
    obtain ⟨k, a', c', sk, Ek, hkl, hgg, rfl, hsr, hrc, hrn, hrl, hT, hEl, hf1, hf2⟩ := hrel
    obtain ⟨R, hR⟩ : ∃ R, len - k = R := ⟨_, rfl⟩
    rw [hR] at hsr hrc hrn hrl ⊢
    have hkR : len = k + R := by omega
    have HKR := Lib.hid (And.intro hkR (And.intro hgg hEl))
    clear hR hkR hgg hkl
    obtain ⟨G1, hR1, hs1, hk1⟩ := hT
    have HT := Lib.hid (And.intro hR1 (And.intro hs1 hk1))
    by_cases hR0 : 0 < R
    · have gR : decide (0 < R) = true := decide_eq_true hR0
      have gR' : decide ((0 : Int) < (R : Int)) = true := decide_eq_true (by omega)
      obtain ⟨b, off, rfl, hcell⟩ := hsr.2.resolve_left (by omega)
      have hbG := hrl b off (by omega) rfl
      have hsw : SlAt .u8 wr (some ⟨b, off, none⟩) R (xs.drop k) := hsr.kept hk1 (fun b' off' _ h => by cases h; exact hbG)
      have hkx : k < xs.length := by rw [HS.out.2.2.1]; have := HKR.out.1; omega
      obtain ⟨c, hcx⟩ : ∃ c, xs[k]? = some c := ⟨_, List.getElem?_eq_getElem hkx⟩
      have hdr : xs.drop k = c :: xs.drop (k + 1) := by rw [List.drop_eq_getElem_cons hkx]; rw [List.getElem?_eq_getElem hkx] at hcx; cases hcx; rfl
      have hcb := HS.out.2.1 c (List.mem_of_getElem? hcx)
      obtain ⟨K, hK⟩ : ∃ K, runK sk (xs.drop k) = K := ⟨_, rfl⟩
      have hKR : K ≤ R := by rw [← hK, ← hsr.1]; exact runK_le _ _
      have HB := Lib.hid (And.intro hbG (And.intro hsr (And.intro hsw (And.intro hdr (And.intro hK (And.intro hcb (And.intro hf1 hf2)))))))
      have HRUN := run_any G1 wr p q sk Ek (some ⟨b, off, none⟩) R c' (xs.drop k) hR1 hsw (fun h => by cases h) (by have := HKR.out.1; omega) hrc hR0 (by have := HKR.out.2.2; have := HKR.out.1; omega)
      rw [hK] at HRUN
      have HRx := Lib.hid HRUN
      clear hbG hsr hsw hkx hcx hdr hcb hK HRUN hR1 hs1 hk1 hrl hrn hf1 hf2 hEl hcell
      by_cases hK0 : 0 < K
      · have gK : decide (0 < K) = true := decide_eq_true hK0
        have gK' : decide ((0 : Int) < (K : Int)) = true := decide_eq_true (by omega)
        have q6 : ¬ (K : Int) < 0 := by omega
        have q7 : K ≤ c' := by omega
        have q7' : K ≤ R := hKR
        go_wp2_with fail
        refine HRx.out.mono ?_
        rintro r w2 ⟨rfl, ht⟩
        have HT2 := Lib.hid (TP.then HT.out.2.1 HT.out.2.2 ht)
        clear ht
        have hnew : ∃ a2 c2, SlAt .u8 V a2 (R - K) (xs.drop (k + K)) ∧ R - K ≤ c2 ∧ (a2 = none → R - K = 0 ∧ c2 = 0) ∧ (∀ b off, 0 < R - K → a2 = some ⟨b, off, none⟩ → ¬ G0 b) := ⟨some ⟨b, off + K, none⟩, c', ⟨by have h := HB.out.2.1.1; simp at h ⊢; omega, .inr ⟨b, off + K, rfl, fun j hj => by
          obtain ⟨b9, o9, h9, hc9⟩ := HB.out.2.1.2.resolve_left (by omega)
          cases h9
          rw [Nat.add_assoc, hc9 (K + j) (by omega)]
          simp [List.getD_eq_getElem?_getD, Nat.add_assoc]⟩⟩, by omega, (fun h => by cases h), (fun b' off' _ h => by cases h; exact HB.out.1)⟩
        have hsl : SlAt .u8 V (some ⟨b, off + K, none⟩) (R - K) (xs.drop (k + K)) := by
          refine ⟨by have h := HB.out.2.1.1; simp at h ⊢; omega, ?_⟩
          by_cases h0 : R - K = 0
          · exact .inl h0
          · refine .inr ⟨b, off + K, rfl, fun j hj => ?_⟩
            obtain ⟨b9, o9, h9, hc9⟩ := HB.out.2.1.2.resolve_left (by omega)
            cases h9
            rw [Nat.add_assoc, hc9 (K + j) (by omega)]
            simp [List.getD_eq_getElem?_getD, Nat.add_assoc]
        have HSL := Lib.hid hsl
        clear hnew hsl
        have hfx := feedF_run (g := gk) (s := sk) (c := c) (cs := xs.drop (k + 1)) (by have := HKR.out.1; have := HKR.out.2.1; omega) (by rw [← HB.out.2.2.2.1, HB.out.2.2.2.2.1]; exact hK0)
        rw [← HB.out.2.2.2.1, HB.out.2.2.2.2.1, List.drop_drop] at hfx
        have HFX := Lib.hid hfx
        clear hfx
        have hrest : ∀ a2 c2, SlAt .u8 V a2 (R - K) (xs.drop (k + K)) → R - K ≤ c2 → (a2 = none → R - K = 0 ∧ c2 = 0) → (∀ b off, 0 < R - K → a2 = some ⟨b, off, none⟩ → ¬ G0 b) → ∃ (k' : Nat) (a' : Option Addr) (c' : Nat) (sk' : PS) (Ek' : List Ev), k' ≤ len ∧ len ≤ gk - 1 + k' ∧ (Value.slice a2 (R - K) c2) = .slice a' (len - k') c' ∧ SlAt .u8 V a' (len - k') (xs.drop k') ∧ len - k' ≤ c' ∧ (a' = none → len - k' = 0 ∧ c' = 0) ∧ (∀ b off, 0 < len - k' → a' = some ⟨b, off, none⟩ → ¬ G0 b) ∧ TP G0 V p q sk' Ek' w2 ∧ Ek'.length ≤ 8 * k' ∧ (feedF (gk - 1) sk' (xs.drop k')).1 = FS ∧ Ek' ++ (feedF (gk - 1) sk' (xs.drop k')).2 = FE := by
          intro a2 c2 z1 z2 z3 z4
          have e0 : len - (k + K) = R - K := by have := HKR.out.1; omega
          refine ⟨k + K, a2, c2, sk, Ek ++ runE sk (xs.drop k), by have := HKR.out.1; omega, by have := HKR.out.2.1; omega, by rw [e0], by rw [e0]; exact z1, by rw [e0]; exact z2, by rw [e0]; exact z3, by rw [e0]; exact z4, HT2.out, ?_, ?_, ?_⟩
          · have := runE_len sk (xs.drop k); have := HKR.out.2.2; rw [List.length_append]; omega
          · have h := HB.out.2.2.2.2.2.2.1; rw [HFX.out] at h; exact h
          · have h := HB.out.2.2.2.2.2.2.2; rw [HFX.out] at h; rw [List.append_assoc]; exact h
        have HREST := Lib.hid hrest
        clear hrest
        by_cases hcn : c' = K
        · subst hcn
          obtain rfl : c' = R := by omega
          go_wp2
          go_roundg (gk - 1)
          case rel => have h := HREST.out (some ⟨b, off, none⟩) 0 ⟨by have h := HSL.out.1; simp at h ⊢; omega, .inl (by omega)⟩ (by omega) (fun h => by cases h) (fun b' off' h0 => absurd h0 (by omega)); rw [Nat.sub_self] at h; exact h
          case measure => have := HKR.out.1; have := HKR.out.2.1; omega
        · have q8 : ¬ c' = K := hcn
          go_wp2
          go_roundg (gk - 1)
          case rel => exact HREST.out (some ⟨b, off + K, none⟩) (c' - K) HSL.out (by omega) (fun h => by cases h) (fun b' off' _ h => by cases h; exact HB.out.1)
          case measure => have := HKR.out.1; have := HKR.out.2.1; omega
      · obtain rfl : K = 0 := by omega
        have q7 : 1 ≤ c' := by omega
        have q7' : 1 ≤ R := by omega
        have q9 : 0 < R := hR0
        go_wp2_with fail
        refine HRx.out.mono ?_
        rintro r w2 ⟨rfl, ht⟩
        rw [runE_nil HB.out.2.2.2.2.1, List.append_nil] at ht
        obtain ⟨G2, hR2, hs2, hk2⟩ := TP.then HT.out.2.1 HT.out.2.2 ht
        have hcc : w2.cell? ⟨b, off, none⟩ = some (.int .u8 c) := by
          obtain ⟨b9, o9, h9, hc9⟩ := HB.out.2.1.2.resolve_left (by omega)
          cases h9
          have h := hc9 0 (by omega)
          rw [HB.out.2.2.2.1] at h
          have h2 := hk2.cell h (fun h3 => HB.out.1 h3)
          simpa using h2
        have HST := Lib.hid (step_any G2 w2 p q sk Ek c HB.out.2.2.2.2.2.1.1 HB.out.2.2.2.2.2.1.2 hR2 (by have := HKR.out.2.2; have := HKR.out.1; omega))
        have H2 := Lib.hid (And.intro hs2 hk2)
        clear ht hR2 hs2 hk2
        go_wp2_with fail
        refine HST.out.mono ?_
        rintro r w3 ⟨⟨x, rfl⟩, ht⟩
        have HT2 := Lib.hid (TP.then H2.out.1 H2.out.2 ht)
        clear ht
        have hsl : SlAt .u8 V (some ⟨b, off + 1, none⟩) (R - 1) (xs.drop (k + 1)) := by
          refine ⟨by have h := HB.out.2.1.1; simp at h ⊢; omega, ?_⟩
          by_cases h0 : R - 1 = 0
          · exact .inl h0
          · refine .inr ⟨b, off + 1, rfl, fun j hj => ?_⟩
            obtain ⟨b9, o9, h9, hc9⟩ := HB.out.2.1.2.resolve_left (by omega)
            cases h9
            rw [Nat.add_assoc, hc9 (1 + j) (by omega)]
            simp [List.getD_eq_getElem?_getD, Nat.add_assoc]
        have HSL := Lib.hid hsl
        clear hsl
        have hfx := feedF_step (g := gk) (s := sk) (c := c) (cs := xs.drop (k + 1)) (by have := HKR.out.1; have := HKR.out.2.1; omega) (by rw [← HB.out.2.2.2.1]; exact HB.out.2.2.2.2.1)
        rw [← HB.out.2.2.2.1] at hfx
        have HFX := Lib.hid hfx
        clear hfx
        have hrest : ∀ a2 c2, SlAt .u8 V a2 (R - 1) (xs.drop (k + 1)) → R - 1 ≤ c2 → (a2 = none → R - 1 = 0 ∧ c2 = 0) → (∀ b off, 0 < R - 1 → a2 = some ⟨b, off, none⟩ → ¬ G0 b) → ∃ (k' : Nat) (a' : Option Addr) (c' : Nat) (sk' : PS) (Ek' : List Ev), k' ≤ len ∧ len ≤ gk - 1 + k' ∧ (Value.slice a2 (R - 1) c2) = .slice a' (len - k') c' ∧ SlAt .u8 V a' (len - k') (xs.drop k') ∧ len - k' ≤ c' ∧ (a' = none → len - k' = 0 ∧ c' = 0) ∧ (∀ b off, 0 < len - k' → a' = some ⟨b, off, none⟩ → ¬ G0 b) ∧ TP G0 V p q sk' Ek' w3 ∧ Ek'.length ≤ 8 * k' ∧ (feedF (gk - 1) sk' (xs.drop k')).1 = FS ∧ Ek' ++ (feedF (gk - 1) sk' (xs.drop k')).2 = FE := by
          intro a2 c2 z1 z2 z3 z4
          have e0 : len - (k + 1) = R - 1 := by have := HKR.out.1; omega
          refine ⟨k + 1, a2, c2, (stepS sk c).1, Ek ++ (stepS sk c).2, by have := HKR.out.1; omega, by have := HKR.out.2.1; omega, by rw [e0], by rw [e0]; exact z1, by rw [e0]; exact z2, by rw [e0]; exact z3, by rw [e0]; exact z4, HT2.out, ?_, ?_, ?_⟩
          · have := stepS_len sk c; have := HKR.out.2.2; rw [List.length_append]; omega
          · have h := HB.out.2.2.2.2.2.2.1; rw [HFX.out] at h; exact h
          · have h := HB.out.2.2.2.2.2.2.2; rw [HFX.out] at h; rw [List.append_assoc]; exact h
        have HREST := Lib.hid hrest
        clear hrest
        by_cases hcn : c' = 1
        · subst hcn
          obtain rfl : R = 1 := by omega
          go_wp2
          go_roundg (gk - 1)
          case rel => exact HREST.out (some ⟨b, off, none⟩) 0 ⟨by have h := HSL.out.1; simp at h ⊢; omega, .inl (by omega)⟩ (by omega) (fun h => by cases h) (fun b' off' h0 => absurd h0 (by omega))
          case measure => have := HKR.out.1; have := HKR.out.2.1; omega
        · have q8 : ¬ c' = 1 := hcn
          go_wp2
          go_roundg (gk - 1)
          case rel => exact HREST.out (some ⟨b, off + 1, none⟩) (c' - 1) HSL.out (by omega) (fun h => by cases h) (fun b' off' _ h => by cases h; exact HB.out.1)
          case measure => have := HKR.out.1; have := HKR.out.2.1; omega
    · have gR : decide (0 < R) = false := decide_eq_false hR0
      have gR' : decide ((0 : Int) < (R : Int)) = false := decide_eq_false (by omega)
      have hdr : xs.drop k = [] := List.drop_eq_nil_of_le (by rw [HS.out.2.2.1]; have := HKR.out.1; omega)
      rw [hdr, feedF_nil] at hf1 hf2
      rw [List.append_nil] at hf2
      simp only at hf1
      subst hf1
      subst hf2
      obtain ⟨d2, vi2, vp2, vd2, vo2, Vs2, hc2, hg2⟩ := hR1
      obtain ⟨-, -, -, -, -, -, -, -, -, -, -, ⟨z11, z11f⟩⟩ := pcells hc2.pb
      obtain ⟨U, hU⟩ : ∃ U, wr.setCell ⟨p, 11, none⟩ (.func (.func 26) #[] #[]) = U := ⟨_, rfl⟩
      have hkU : Kept (fun i => i = p) wr U := by rw [← hU]; exact (Kept.refl (fun i => i = p) wr).setCell (p := ⟨p, 11, none⟩) (.inl rfl) _
      have hbU : U.heap[p]? = some (.cells (PC sk d2 vi2 vp2 vd2 (.func (.func 26) #[] #[])) 43 (0, 0)) := by rw [← hU]; exact blk_set hc2.pb 11 _
      have HE := Lib.hid (And.intro hc2 (And.intro hg2 (And.intro hs1 (And.intro hk1 (And.intro hkU hbU)))))
      clear hc2 hg2 hs1 hk1 hkU hbU hdr hsr hrl hrn HT
      unfold sayV at z11
      have hst2 : (store ⟨p, 11, none⟩ (.func (.func 26) #[] #[])).run Try.prog wr = .ok () U := by
        rw [run_store _ _ _ _ _ (by rfl), z11]
        simp [z11f]
        exact hU
      go_wp2
      go_end0
      obtain ⟨hc2, hg2, hs1, hk1, hkU, hbU⟩ := HE.out
      obtain ⟨cd2, hcd2⟩ := dec_blk hc2.dc
      have hno2 : ∀ {i : Nat} {c : Array Value} {t : TypeId}, wr.heap[i]? = some (.cells c t (0, 0)) → t ≠ 43 → ¬ (fun i => i = p) i := fun hi ht e => blk_ne hi hc2.pb ht e
      have hzV := HF.out.2.2.1
      refine ⟨⟨_, rfl⟩, vo2, (fun i => i = p ∨ i = d2 ∨ vi2.ownBlock = some i ∨ vp2.ownBlock = some i ∨ vd2.ownBlock = some i), hkU.blk hc2.qb (hno2 hc2.qb (by decide)), ⟨Vs2, hc2.ho.kept hkU (fun b hb => by obtain ⟨c, hc⟩ := ownE_blk hc2.ho hb; exact hno2 hc (by decide)), hc2.ev.kept hkU (fun i _ e => .inl e) (fun i hi => .inl (by rcases hi with h | h | h | h | h; exact .inl h; exact .inr (.inl h); exact .inr (.inr (.inr (.inl h))); exact .inr (.inr (.inr (.inr (.inl h)))); exact .inr (.inr (.inr (.inr (.inr (.inl h))))))), fun b hb h => ?_⟩, ⟨d2, vi2, vp2, vd2, _, hbU, hc2.dc.kept hkU (hno2 hcd2 (by decide)), hc2.hi.kept hkU (fun b hb => by obtain ⟨c, hc⟩ := own_blk hc2.hi hb; exact hno2 hc (by decide)), hc2.hp.kept hkU (fun b hb => by obtain ⟨c, hc⟩ := own_blk hc2.hp hb; exact hno2 hc (by decide)), hc2.hd.kept hkU (fun b hb => by obtain ⟨c, hc⟩ := own_blk hc2.hd hb; exact hno2 hc (by decide)), hc2.ne, hc2.ok, fun _ => Iff.rfl⟩, fun h => ?_, fun i hi => ?_, HF.out.2.2.2.1.trans ((hk1.mono fun i _ h => Or.inl ((HF.out.2.1 i).1 h)).trans (hkU.mono fun i _ h => Or.inl (Or.inl (Or.inl (by have e2 : i = p := h; rw [e2]; exact HF.out.2.2.2.2.2)))))⟩
      · obtain ⟨c, hc⟩ := ownE_blk hc2.ho hb
        rcases h with h | h | h | h | h
        · exact blk_ne hc hc2.pb (by decide) h
        · exact blk_ne hc hcd2 (by decide) h
        · obtain ⟨c', hc'⟩ := own_blk hc2.hi h; exact blk_ne hc hc' (by decide) rfl
        · obtain ⟨c', hc'⟩ := own_blk hc2.hp h; exact blk_ne hc hc' (by decide) rfl
        · obtain ⟨c', hc'⟩ := own_blk hc2.hd h; exact blk_ne hc hc' (by decide) rfl
      · rcases h with h | h | h | h | h
        · exact blk_ne hc2.qb hc2.pb (by decide) h
        · exact blk_ne hc2.qb hcd2 (by decide) h
        · obtain ⟨c', hc'⟩ := own_blk hc2.hi h; exact blk_ne hc2.qb hc' (by decide) rfl
        · obtain ⟨c', hc'⟩ := own_blk hc2.hp h; exact blk_ne hc2.qb hc' (by decide) rfl
        · obtain ⟨c', hc'⟩ := own_blk hc2.hd h; exact blk_ne hc2.qb hc' (by decide) rfl
      · rcases hs1 i ((hg2 i).2 (by rcases hi with h | h | h | h | h; exact .inl h; exact .inr (.inl h); exact .inr (.inr (.inr (.inl h))); exact .inr (.inr (.inr (.inr (.inl h)))); exact .inr (.inr (.inr (.inr (.inr (.inl h))))))) with h | h
        · rcases (HF.out.2.1 i).1 h with h | h
          · exact .inl h
          · exfalso
            subst h
            rcases hi with h | h | h | h | h
            · exact blk_ne hc2.qb hc2.pb (by decide) h
            · exact blk_ne hc2.qb hcd2 (by decide) h
            · obtain ⟨c', hc'⟩ := own_blk hc2.hi h; exact blk_ne hc2.qb hc' (by decide) rfl
            · obtain ⟨c', hc'⟩ := own_blk hc2.hp h; exact blk_ne hc2.qb hc' (by decide) rfl
            · obtain ⟨c', hc'⟩ := own_blk hc2.hd h; exact blk_ne hc2.qb hc' (by decide) rfl
        · exact .inr (Nat.le_trans hzV h)
set_option maxRecDepth 100000 in
set_option maxHeartbeats 8000000 in
theorem feed_any (G : Nat → Prop) (W : World) (p : Nat) (s : PS) (a : Option Addr) (len cap : Nat) (xs : List Int) (hP : PQ G W p s) (hs : SlAt .u8 W a len xs) (hby : ∀ x ∈ xs, 0 ≤ x ∧ x < 256) (hnil : a = none → len = 0 ∧ cap = 0) (hlc : len ≤ cap) (hl : len ≤ 20000)
    (hloc : ∀ b off, 0 < len → a = some ⟨b, off, none⟩ → ¬ G b ∧ b < W.heap.size) :
    Calls Try.prog 9 #[.pointer (some ⟨p, 0, none⟩), .slice a len cap] W fun r w' => ∃ v G', r = .returned v ∧ EVS G' w' v (feedF len s xs).2 ∧ PQ G' w' p (feedF len s xs).1 ∧ (∀ i, G' i → G i ∨ W.heap.size ≤ i) ∧ Kept G W w' := by
  obtain ⟨W1, hW1⟩ : ∃ W1, W.alloc (.cells #[.slice none 0 0] 26) = W1 := ⟨_, rfl⟩
  have hk1 : Kept (fun _ => False) W W1 := by rw [← hW1]; exact (Kept.refl _ _).alloc _
  have hq1 : W1.heap[W.heap.size]? = some (.cells #[.slice none 0 0] 26 (0, 0)) := by rw [← hW1]; exact blk_new W _
  have HE := Lib.hid (each_any G W1 p W.heap.size s a len cap xs (hP.kept hk1 (fun _ _ h => h)) hq1 (hs.kept hk1 (fun _ _ _ _ => id)) hby hnil hlc hl (fun b off h0 h => ⟨(hloc b off h0 h).1, by have := (hloc b off h0 h).2; omega⟩))
  have HK := Lib.hid (And.intro hk1 hk1.size)
  unfold sayV at HE
  clear hk1 hq1 hP hs hby hnil hloc
  go_enter Try.func9, Try.ntmps9
  go_wp2_with fail
  refine HE.out.mono ?_
  rintro r w2 ⟨⟨x, rfl⟩, vo, G', hqb, hev, hpq, hnq, hG, hk⟩
  obtain ⟨c0, -⟩ := blk1 hqb
  have H2 := Lib.hid (And.intro hev (And.intro hpq (And.intro hG hk)))
  clear hqb hev hpq hnq hG hk
  go_wp2
  go_ret
  obtain ⟨hev, hpq, hG, hk⟩ := H2.out
  refine ⟨vo, G', rfl, hev, hpq, fun i hi => ?_, HK.out.1.trans' hk⟩
  rcases hG i hi with h | h
  · exact .inl h
  · exact .inr (Nat.le_trans HK.out.2 h)
end Go.Proofs.Ytnaoobgghgnflaa
