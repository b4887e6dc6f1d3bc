/- Put: a place is put. -/
import Derived.Test.YtgbflcmageipdaaTab
import Derived.Test.YtgbflcmageipdaaTakeU
import Derived.Test.YtgbflcmageipdaaMay
import Derived.Deep.RegionLaw
namespace Go.Proofs.Ytgbflcmageipdaa
open Go.RowKit
set_option linter.unusedVariables false
set_option linter.unusedSimpArgs false
theorem run_appP {P : Program} {w : World} {t ty : TypeId} {i : TypeInfo} {z : Value} {bytes : Nat} (ht : P.underlying t = some (.slice 34)) (hi : P.info? 34 = some i) (hz : i.zero = some z)
    (hsize : i.size = 14) (hby : i.bytes = bytes) (hzs : z.cells.size = 14)
    {v : Value} {L : List Pl} (hown : OwnP w v L) {y : Addr} {m c : Nat} {M : List Pl} (hsl : SlP w (some y) m M)
    (hbytes : (L.length + m) * bytes ≤ 140737488355328) (h63 : L.length + m ≤ maxLen) :
    ∃ v' w', (Builtin.append_ #[t, t] ty #[v, .slice (some y) m c]).run P w = .ok v' w' ∧ OwnP w' v' (L ++ M) ∧ Kept (fun k => v.ownBlock = some k) w w' ∧ (v'.ownBlock = v.ownBlock ∨ v'.ownBlock = some w.heap.size) := by
  have hl : (flat M).length = m * 14 := by rw [flat_length, hsl.1]
  have hnews : ∀ j u, (flat M)[j]? = some u → w.cell? (y.add j) = some u := by
    intro j u hu
    rcases hsl with ⟨hl, h0 | ⟨b, off, hy, hc⟩⟩
    · have : M = [] := List.eq_nil_of_length_eq_zero (by omega)
      subst this
      cases hu
    · cases hy
      have hj : j < M.length * 14 := by rw [← flat_length]; exact (List.getElem?_eq_some_iff.1 hu).1
      have hq : j / 14 < M.length := by omega
      have hp : M[j / 14]? = some M[j / 14] := List.getElem?_eq_getElem hq
      have h1 := flat_get M (j / 14) (j % 14) _ hp (by omega)
      rw [show j / 14 * 14 + j % 14 = j by omega, hu] at h1
      have h2 := hc (j / 14) _ hp (j % 14) (by omega)
      rw [← h1, show off + j / 14 * 14 + j % 14 = off + j by omega] at h2
      have e : (⟨b, off, none⟩ : Addr).add j = ⟨b, off + j, none⟩ := by unfold Addr.add; split <;> simp_all
      rw [e, h2]
  obtain ⟨v', w', hrun, ho', hg, -⟩ := run_append_own (P := P) (w := w) 0 t ty 34 i z 14 bytes ht hi hz hsize hby hzs (by omega) v L.length _ hown y m c _ hl hnews (flat_one M) h63 hbytes (Nat.zero_le _)
  have hp := app_prov (ty := ty) ht hi hz hsize hby (by omega) hown hl hnews (flat_one M) h63 hbytes hrun
  refine ⟨v', w', hrun, ?_, (Kept.refl _ _).grown hg (fun k hk => .inl hk), hp⟩
  unfold OwnP
  rw [flat_append, List.length_append, hsl.1]
  exact ho'
theorem step_appP {P : Program} {w : World} {ops : Array Oper} {o : Oper} {a : Act} {K : Act → World → Prop} {Q : Exit → Act → World → Prop} {E : Prop} (hgd : o.guard = none) (s x : Operand) (t : TypeId)
    (ho : o.op = .call { callee := .builtin .append, args := #[s, x], argTypes := #[t, t] })
    (i : TypeInfo) (z : Value) (bytes : Nat) (ht : P.underlying t = some (.slice 34)) (hi : P.info? 34 = some i) (hz : i.zero = some z)
    (hsize : i.size = 14) (hby : i.bytes = bytes) (hzs : z.cells.size = 14)
    (v : Value) (L : List Pl) (hs : a.eval s = v) (hown : OwnP w v L)
    (y : Addr) (m c : Nat) (M : List Pl) (hx : a.eval x = .slice (some y) m c) (hsl : SlP w (some y) m M)
    (hbytes : (L.length + m) * bytes ≤ 140737488355328) (h63 : L.length + m ≤ maxLen)
    (h : ∀ v' w', OwnP w' v' (L ++ M) → Kept (fun k => v.ownBlock = some k) w w' → (v'.ownBlock = v.ownBlock ∨ v'.ownBlock = some w.heap.size) → K (a.put o.dst v') w') :
    if Region.wanted o (yielded ops a.tmps) = true then Oper.wp P o a w K Q else E := by
  have hw : Region.wanted o (yielded ops a.tmps) = true := by simp [Region.wanted, hgd]
  rw [if_pos hw]
  obtain ⟨v', w', hrun, h1, h2, h3⟩ := run_appP (ty := o.type) ht hi hz hsize hby hzs hown (c := c) hsl hbytes h63
  unfold Oper.wp
  simp [execOp, ho, resolve, invoke, builtin, hs, hx, Result.andThen]
  rw [hrun]
  exact h v' w' h1 h2 h3
def putL (L : List Pl) (p : Pl) : List Pl := if mayB p = true then (L.filter fun o => !putB p o) ++ [p] else L
theorem putL_length (L : List Pl) (p : Pl) : (putL L p).length ≤ L.length + 1 := by
  unfold putL
  split
  · have := List.length_filter_le (fun o => !putB p o) L
    simp; omega
  · omega
set_option maxRecDepth 100000 in
set_option maxHeartbeats 16000000 in
theorem putt_any (B t : Nat) (L : List Pl) (p : Pl) (w : World) (h : Tb B w t L) (hl : L.length ≤ 399) (hB : B ≤ w.heap.size) :
    Calls Try.prog 8 #[.pointer (some ⟨t, 0, none⟩), p.val] w fun e w' => e = .returned (.int .i64 (if mayB p = true then 0 else 1)) ∧ Tb B w' t (putL L p) ∧ Kept (fun i => B ≤ i) w w' := by
  obtain ⟨q, hq⟩ : ∃ q, w.heap.size = q := ⟨_, rfl⟩
  obtain ⟨W, hW⟩ : ∃ W, w.alloc (.cells p.cs 34) = W := ⟨_, rfl⟩
  have hk : Kept (fun _ => False) w W := by rw [← hW]; exact (Kept.refl _ _).alloc _
  have hb : W.heap[q]? = some (.cells p.cs 34 (0, 0)) := by rw [← hW, ← hq]; exact blk_new w _
  obtain ⟨u0, u1, u2, u3, u4, u5, u6, u7, u8, u9, u10, u11, u12, u13⟩ := blk14 hb
  have hT := h.up hk
  have htl : t < q := by rw [← hq]; exact lt_of_blk h.2.choose_spec.1
  have hzW : W.heap.size = q + 1 := by rw [← hW, ← hq]; simp
  have HM := Lib.hid (may_any p W)
  have HH := Lib.hid (And.intro hT (And.intro hk (And.intro hb (And.intro hl (And.intro htl (And.intro hzW hB))))))
  clear hk hb hT hl htl hzW hB h
  unfold putL
  cases hmb : mayB p with
  | false =>
    rw [hmb] at HM
    show Calls Try.prog 8 _ w fun e w' => e = .returned (.int .i64 1) ∧ Tb B w' t L ∧ Kept (fun i => B ≤ i) w w'
    unfold Pl.val at HM ⊢
    unfold Pl.cs at hW
    clear hmb
    go_enter Try.func8, Try.ntmps8
    go_wp2_with fail
    refine HM.out.mono ?_
    rintro e w2 ⟨rfl, hk2⟩
    have H2 := Lib.hid hk2
    clear hk2
    go_wp2
    go_ret
    exact ⟨rfl, HH.out.1.up H2.out, (HH.out.2.1.then H2.out).mono (fun _ _ h => h.elim)⟩
  | true =>
    rw [hmb] at HM
    show Calls Try.prog 8 _ w fun e w' => e = .returned (.int .i64 0) ∧ Tb B w' t ((L.filter fun o => !putB p o) ++ [p]) ∧ Kept (fun i => B ≤ i) w w'
    obtain ⟨LL, hLL⟩ : ∃ LL, (L.filter fun o => !putB p o) = LL := ⟨_, rfl⟩
    rw [hLL]
    have HLL := Lib.hid hLL
    have hlen : LL.length ≤ 399 := by rw [← hLL]; have h8 := List.length_filter_le (fun o => !putB p o) L; have h9 := HH.out.2.2.2.1; omega
    clear hLL
    obtain ⟨i0, hi, hz, hsz, hby⟩ := info_parts info34
    have HI := Lib.hid hi
    have h63 : (9223372036854775807 : Nat) = maxLen := rfl
    unfold Pl.val at HM ⊢
    unfold Pl.cs at hW
    clear hmb hi
    go_enter Try.func8, Try.ntmps8
    go_wp2_with fail
    refine HM.out.mono ?_
    rintro e w2 ⟨rfl, hk2⟩
    have hT2 := HH.out.1.up hk2
    have hb2 := hk2.blk HH.out.2.2.1 id
    obtain ⟨r0, r1, r2, r3, r4, r5, r6, r7, r8, r9, r10, r11, r12, r13⟩ := blk14 hb2
    have hz2 := hk2.size
    obtain ⟨hBt, v, h1, h2, h3, h4⟩ := hT2
    have HTK := Lib.hid (take_put (putB p) t v L q w2 h1 h2 (by have := HH.out.2.2.2.1; omega) (fun o V ho hkV => put_any p o V q (hkV.blk hb2 id)))
    have H2 := Lib.hid (And.intro hk2 (And.intro hb2 (And.intro hz2 hBt)))
    clear hk2 hb2 hz2 h1 h2 h3 h4
    go_wp2_with fail
    refine HTK.out.mono ?_
    rintro e w3 ⟨vg, vl, rfl, -, hol, htb, hkw, -, hlb, -⟩
    have hz3 := hkw.size
    have hbq : w3.heap[q]? = some (.cells p.cs 34 (0, 0)) := hkw.blk H2.out.2.1 (by have := HH.out.2.2.2.2.1; show ¬ q = t; omega)
    obtain ⟨s0, s1, s2, s3, s4, s5, s6, s7, s8, s9, s10, s11, s12, s13⟩ := blk14 hbq
    obtain ⟨la, lc, hle, -⟩ := hol.shape
    rw [HLL.out] at hol hle
    obtain ⟨ln, hln⟩ : ∃ n, LL.length = n := ⟨_, rfl⟩
    rw [hln] at hle hlen
    subst hle
    obtain ⟨ct, ft⟩ := blk1 htb
    obtain ⟨W4, hW4⟩ : ∃ W4, (w3.alloc (.cells p.cs 34)).drew = W4 := ⟨_, rfl⟩
    have hk4 : Kept (fun _ => False) w3 W4 := by rw [← hW4]; exact ((Kept.refl _ _).alloc _).drew
    have hb4 : W4.heap[w3.heap.size]? = some (.cells p.cs 34 (0, 0)) := by rw [← hW4]; exact blk_new w3 _
    have hz4 := hk4.size
    obtain ⟨ct4, -⟩ := blk1 (hk4.blk htb id)
    have H3 := Lib.hid (And.intro (hol.kept hk4 (fun _ _ => id)) (And.intro (slP_one hb4) (And.intro (hk4.blk htb id) (And.intro hlb (And.intro ((((HH.out.2.1.then H2.out.1).mono (fun _ _ h => h.elim)).then (hkw.mono (fun i _ h => by have := H2.out.2.2.2; have h9 : i = t := h; show B ≤ i; omega))).then (hk4.mono (fun _ _ h => h.elim)) : Kept (fun i => B ≤ i) w W4) (And.intro hz3 hz4))))))
    unfold Pl.cs at hW4
    have HLN := Lib.hid hln
    clear hol htb hkw hlb hz3 hbq hk4 hb4 hz4 hln
    go_wp2
    go_region_law (refine step_appP rfl (.tmp 15) (.tmp 17) 22 rfl i0 _ 112 Try.underlying22 HI.out hz hsz hby rfl (.slice la ln lc) LL rfl (by exact H3.out.1) ⟨w3.heap.size, 0, none⟩ 1 1 [p] rfl (by exact H3.out.2.1) (by have := HLN.out; omega) (by have := HLN.out; omega) ?_; intro v5 w5 ho5 hk5 hpr5; obtain ⟨a5, c5, hv5e, -⟩ := ho5.shape; obtain ⟨n5, hn5⟩ : ∃ n, (LL ++ [p]).length = n := ⟨_, rfl⟩; rw [hn5] at hv5e; subst hv5e; clear hn5; have hbt5 := hk5.blk H3.out.2.2.1 (fun h => by have := H3.out.2.2.2.1 t h; have := H2.out.2.2.1; have := HH.out.2.2.2.2.1; have := HH.out.2.2.2.2.2.1; omega); obtain ⟨ct5, ft5⟩ := blk1 hbt5; have H5 := Lib.hid (And.intro ho5 (And.intro hk5 (And.intro hpr5 hbt5))); clear ho5 hk5 hpr5 hbt5)
    all_goals go_wp2
    all_goals go_ret
    all_goals
      obtain ⟨ho5, hk5, hpr5, hbt5⟩ := H5.out
      have hz5 := hk5.size
      have hz3 := H3.out.2.2.2.2.2
      have hz2 := H2.out.2.2.1
      have hzW := HH.out.2.2.2.2.2.1
      have htq := HH.out.2.2.2.2.1
      have hBt := H2.out.2.2.2
      have hB := HH.out.2.2.2.2.2.2
      have hv5 : ∀ b, (Value.slice a5 n5 c5).ownBlock = some b → q ≤ b := by
        intro b hb
        rcases hpr5 with h | h
        · rw [h] at hb; have := H3.out.2.2.2.1 b hb; omega
        · rw [h] at hb; cases hb; omega
      refine ⟨rfl, ⟨hBt, _, blk_set hbt5 0 _, ho5.kept (S := fun i => i = t) ((Kept.refl (fun i => i = t) w5).setCell (p := ⟨t, 0, none⟩) (.inl rfl) _) (fun b hb h => by have := hv5 b hb; have h9 : b = t := h; omega), (fun h => by have := hv5 t h; omega), fun b hb => by have := hv5 b hb; omega⟩, ?_⟩
      exact (H3.out.2.2.2.2.1.trans (hk5.mono fun i _ h => Or.inl (by have := H3.out.2.2.2.1 i h; show B ≤ i; omega))).setCell (p := ⟨t, 0, none⟩) (.inl hBt) _
end Go.Proofs.Ytgbflcmageipdaa
