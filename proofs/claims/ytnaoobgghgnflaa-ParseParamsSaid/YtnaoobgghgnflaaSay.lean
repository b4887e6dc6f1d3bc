/- An event told; the parser's lists changed. -/
import Derived.Test.YtnaoobgghgnflaaSt
namespace Go.Proofs.Ytnaoobgghgnflaa
open Go.RowKit Pl
set_option linter.unusedVariables false
set_option linter.unusedSimpArgs false
section
variable {w w' : World} {p q d : Nat} {vi vp vd vo : Value} {Vs : List EvV} {s s' : PS} {L : List Ev}
theorem RC.re (h : RC w p q d vi vp vd vo Vs s L) {vi' vp' vd' : Value} (hk : Kept (fun i => i = p ∨ vi.ownBlock = some i ∨ vp.ownBlock = some i ∨ vd.ownBlock = some i) w w') (pb : w'.heap[p]? = some (.cells (PC s' d vi' vp' vd' (sayV q)) 43 (0, 0)))
    (hi : Own .u8 5 w' vi' s'.it) (hp : Own .i64 3 w' vp' s'.ps) (hd : Own .u8 5 w' vd' s'.ds) (ne : ∀ b, vi'.ownBlock = some b → vd'.ownBlock ≠ some b)
    (qi : vi'.ownBlock = vi.ownBlock ∨ ∀ b, vi'.ownBlock = some b → w.heap.size ≤ b) (qp : vp'.ownBlock = vp.ownBlock ∨ ∀ b, vp'.ownBlock = some b → w.heap.size ≤ b) (qd : vd'.ownBlock = vd.ownBlock ∨ ∀ b, vd'.ownBlock = some b → w.heap.size ≤ b)
    (h1 : s'.ch = s.ch) (ok : SOk s') : RC w' p q d vi' vp' vd' vo Vs s' L := by
  obtain ⟨cd, hcd⟩ := dec_blk h.dc
  have hno : ∀ {i : Nat} {c : Array Value} {t : TypeId}, w.heap[i]? = some (.cells c t (0, 0)) → t ≠ 43 → t ≠ 5 → t ≠ 3 → ¬ (fun i => i = p ∨ vi.ownBlock = some i ∨ vp.ownBlock = some i ∨ vd.ownBlock = some i) i := by
    intro i c t hi h4 h5 h3 hh
    rcases hh with hh | hh | hh | hh
    · exact blk_ne hi h.pb h4 hh
    · obtain ⟨c', hc⟩ := own_blk h.hi hh; exact blk_ne hi hc h5 rfl
    · obtain ⟨c', hc⟩ := own_blk h.hp hh; exact blk_ne hi hc h3 rfl
    · obtain ⟨c', hc⟩ := own_blk h.hd hh; exact blk_ne hi hc h5 rfl
  have hM : ∀ i, Mset p q d vi' vp' vd' vo i → Mset p q d vi vp vd vo i ∨ w.heap.size ≤ i := by
    intro i hi
    rcases hi with hi | hi | hi | hi | hi | hi | hi
    · exact .inl (.inl hi)
    · exact .inl (.inr (.inl hi))
    · exact .inl (.inr (.inr (.inl hi)))
    · rcases qi with h1 | h1
      · exact .inl (.inr (.inr (.inr (.inl (by rw [← h1]; exact hi)))))
      · exact .inr (h1 i hi)
    · rcases qp with h1 | h1
      · exact .inl (.inr (.inr (.inr (.inr (.inl (by rw [← h1]; exact hi))))))
      · exact .inr (h1 i hi)
    · rcases qd with h1 | h1
      · exact .inl (.inr (.inr (.inr (.inr (.inr (.inl (by rw [← h1]; exact hi)))))))
      · exact .inr (h1 i hi)
    · exact .inl (.inr (.inr (.inr (.inr (.inr (.inr hi))))))
  have hS : ∀ i, i < w.heap.size → (i = p ∨ vi.ownBlock = some i ∨ vp.ownBlock = some i ∨ vd.ownBlock = some i) → Mset p q d vi vp vd vo i := by
    intro i _ hi
    rcases hi with hi | hi | hi | hi
    · exact .inl hi
    · exact .inr (.inr (.inr (.inl hi)))
    · exact .inr (.inr (.inr (.inr (.inl hi))))
    · exact .inr (.inr (.inr (.inr (.inr (.inl hi)))))
  exact ⟨pb, by rw [h1]; exact h.dc.kept hk (hno hcd (by decide) (by decide) (by decide)), hi, hp, hd, ne, hk.blk h.qb (hno h.qb (by decide) (by decide) (by decide)), h.ho.kept hk (fun b hb => by obtain ⟨c, hc⟩ := ownE_blk h.ho hb; exact hno hc (by decide) (by decide) (by decide)), h.ev.kept hk hS hM, ok⟩
theorem RC.blocks (h : RC w p q d vi vp vd vo Vs s L) : (∀ b, vi.ownBlock = some b → b ≠ p ∧ vp.ownBlock ≠ some b ∧ vd.ownBlock ≠ some b) ∧ (∀ b, vp.ownBlock = some b → b ≠ p ∧ vi.ownBlock ≠ some b ∧ vd.ownBlock ≠ some b) ∧ (∀ b, vd.ownBlock = some b → b ≠ p ∧ vp.ownBlock ≠ some b ∧ vi.ownBlock ≠ some b) := by
  refine ⟨fun b hb => ?_, fun b hb => ?_, fun b hb => ?_⟩
  · obtain ⟨c, hc⟩ := own_blk h.hi hb
    exact ⟨blk_ne hc h.pb (by decide), fun h2 => (by obtain ⟨c', hc'⟩ := own_blk h.hp h2; exact blk_ne hc hc' (by decide) rfl), h.ne b hb⟩
  · obtain ⟨c, hc⟩ := own_blk h.hp hb
    exact ⟨blk_ne hc h.pb (by decide), fun h2 => (by obtain ⟨c', hc'⟩ := own_blk h.hi h2; exact blk_ne hc hc' (by decide) rfl), fun h2 => (by obtain ⟨c', hc'⟩ := own_blk h.hd h2; exact blk_ne hc hc' (by decide) rfl)⟩
  · obtain ⟨c, hc⟩ := own_blk h.hd hb
    exact ⟨blk_ne hc h.pb (by decide), fun h2 => (by obtain ⟨c', hc'⟩ := own_blk h.hp h2; exact blk_ne hc hc' (by decide) rfl), fun h2 => h.ne b h2 hb⟩
theorem RC.updI (h : RC w p q d vi vp vd vo Vs s L) {v' : Value} (hk : Kept (fun i => i = p ∨ vi.ownBlock = some i) w w') (pb : w'.heap[p]? = some (.cells (PC s' d v' vp vd (sayV q)) 43 (0, 0)))
    (ho : Own .u8 5 w' v' s'.it) (hv : v'.ownBlock = vi.ownBlock ∨ ∀ b, v'.ownBlock = some b → w.heap.size ≤ b) (h1 : s'.ch = s.ch) (h2 : s'.ps = s.ps) (h3 : s'.ds = s.ds) (ok : SOk s') : RC w' p q d v' vp vd vo Vs s' L := by
  obtain ⟨bi, bp, bd⟩ := h.blocks
  have kvp : Own .i64 3 w' vp s'.ps := by
    rw [h2]
    exact h.hp.kept hk (fun b hb hh => by rcases hh with hh | hh; exact (bp b hb).1 hh; exact (bp b hb).2.1 hh)
  have kvd : Own .u8 5 w' vd s'.ds := by
    rw [h3]
    exact h.hd.kept hk (fun b hb hh => by rcases hh with hh | hh; exact (bd b hb).1 hh; exact (bd b hb).2.2 hh)
  exact h.re (hk.mono fun i _ h => by rcases h with h | h; exact .inl h; exact .inr (.inl h)) pb ho kvp kvd (fun b hb h9 => by rcases hv with h2 | h2; exact h.ne b (by rw [← h2]; exact hb) h9; have h3 := h2 b hb; have h4 := h.hd.lt b h9; omega) hv (.inl rfl) (.inl rfl) h1 ok
theorem RC.updP (h : RC w p q d vi vp vd vo Vs s L) {v' : Value} (hk : Kept (fun i => i = p ∨ vp.ownBlock = some i) w w') (pb : w'.heap[p]? = some (.cells (PC s' d vi v' vd (sayV q)) 43 (0, 0)))
    (ho : Own .i64 3 w' v' s'.ps) (hv : v'.ownBlock = vp.ownBlock ∨ ∀ b, v'.ownBlock = some b → w.heap.size ≤ b) (h1 : s'.ch = s.ch) (h2 : s'.it = s.it) (h3 : s'.ds = s.ds) (ok : SOk s') : RC w' p q d vi v' vd vo Vs s' L := by
  obtain ⟨bi, bp, bd⟩ := h.blocks
  have kvi : Own .u8 5 w' vi s'.it := by
    rw [h2]
    exact h.hi.kept hk (fun b hb hh => by rcases hh with hh | hh; exact (bi b hb).1 hh; exact (bi b hb).2.1 hh)
  have kvd : Own .u8 5 w' vd s'.ds := by
    rw [h3]
    exact h.hd.kept hk (fun b hb hh => by rcases hh with hh | hh; exact (bd b hb).1 hh; exact (bd b hb).2.1 hh)
  exact h.re (hk.mono fun i _ h => by rcases h with h | h; exact .inl h; exact .inr (.inr (.inl h))) pb kvi ho kvd h.ne (.inl rfl) hv (.inl rfl) h1 ok
theorem RC.updS (h : RC w p q d vi vp vd vo Vs s L) {v' : Value} (hk : Kept (fun i => i = p ∨ vd.ownBlock = some i) w w') (pb : w'.heap[p]? = some (.cells (PC s' d vi vp v' (sayV q)) 43 (0, 0)))
    (ho : Own .u8 5 w' v' s'.ds) (hv : v'.ownBlock = vd.ownBlock ∨ ∀ b, v'.ownBlock = some b → w.heap.size ≤ b) (h1 : s'.ch = s.ch) (h2 : s'.it = s.it) (h3 : s'.ps = s.ps) (ok : SOk s') : RC w' p q d vi vp v' vo Vs s' L := by
  obtain ⟨bi, bp, bd⟩ := h.blocks
  have kvi : Own .u8 5 w' vi s'.it := by
    rw [h2]
    exact h.hi.kept hk (fun b hb hh => by rcases hh with hh | hh; exact (bi b hb).1 hh; exact (bi b hb).2.2 hh)
  have kvp : Own .i64 3 w' vp s'.ps := by
    rw [h3]
    exact h.hp.kept hk (fun b hb hh => by rcases hh with hh | hh; exact (bp b hb).1 hh; exact (bp b hb).2.2 hh)
  exact h.re (hk.mono fun i _ h => by rcases h with h | h; exact .inl h; exact .inr (.inr (.inr h))) pb kvi kvp ho (fun b hb h9 => by rcases hv with h2 | h2; exact h.ne b hb (by rw [← h2]; exact h9); have h3 := h2 b h9; have h4 := h.hi.lt b hb; omega) (.inl rfl) (.inl rfl) hv h1 ok
end
set_option maxRecDepth 100000 in
set_option maxHeartbeats 8000000 in
theorem say_any (W : World) (p q d : Nat) (vi vp vd vo : Value) (Vs : List EvV) (s : PS) (L : List Ev) (h : RC W p q d vi vp vd vo Vs s L) (v : EvV) (e : Ev) (hv : EvAt W (Mset p q d vi vp vd vo) v e) (hn : Vs.length ≤ 1000000) :
    Calls Try.prog 18 #[v.val, .pointer (some ⟨q, 0, none⟩)] W fun r w' => (∃ x, r = .returned x) ∧ ∃ vo', RC w' p q d vi vp vd vo' (Vs ++ [v]) s (L ++ [e]) ∧ (vo'.ownBlock = vo.ownBlock ∨ ∀ b, vo'.ownBlock = some b → W.heap.size ≤ b) ∧ Kept (fun i => i = q ∨ vo.ownBlock = some i) W w' := by
  obtain ⟨W1, hW1⟩ : ∃ W1, W.alloc (.cells v.cs 30) = W1 := ⟨_, rfl⟩
  have hk1 : Kept (fun _ => False) W W1 := by rw [← hW1]; exact (Kept.refl _ _).alloc _
  have hb1 : W1.heap[W.heap.size]? = some (.cells v.cs 30 (0, 0)) := by rw [← hW1]; exact blk_new W _
  obtain ⟨u0, u1, u2, u3, u4, u5, u6⟩ := blk7 hb1
  have hq1 := hk1.blk h.qb id
  obtain ⟨ga, gc, hge, -⟩ := h.ho.shape
  obtain ⟨gn, hgn⟩ : ∃ n, Vs.length = n := ⟨_, rfl⟩
  rw [hgn] at hge hn
  subst hge
  obtain ⟨c0, -⟩ := blk1 hq1
  obtain ⟨W2, hW2⟩ : ∃ W2, W1.alloc (.cells v.cs 30) = W2 := ⟨_, rfl⟩
  have hk2 : Kept (fun _ => False) W1 W2 := by rw [← hW2]; exact (Kept.refl _ _).alloc _
  have hb2 : W2.heap[W1.heap.size]? = some (.cells v.cs 30 (0, 0)) := by rw [← hW2]; exact blk_new W1 _
  obtain ⟨i0, hi, hz, hsz, hby⟩ := info_parts info30
  have HI := Lib.hid hi
  have HO := Lib.hid (h.ho.kept (hk1.then hk2) (fun _ _ => id))
  have HS := Lib.hid (slE_one hb2)
  have HQ := Lib.hid (hk2.blk hq1 id)
  have HR := Lib.hid (And.intro h (And.intro hv (And.intro (hk1.then hk2) (And.intro hgn (hk1.then hk2).size))))
  have h63 : (9223372036854775807 : Nat) = maxLen := rfl
  unfold EvV.cs at hW1 hW2
  unfold EvV.val
  clear hk1 hb1 hq1 hk2 hb2 hi h hv
  go_enter Try.func18, Try.ntmps18
  go_wp2_with (first
    | (at_builtin; refine wpList_appE rfl (.tmp 3) (.tmp 5) 26 rfl i0 _ 80 Try.underlying26 HI.out hz hsz hby rfl (.slice ga gn gc) Vs rfl HO.out (some ⟨W1.heap.size, 0, none⟩) 1 1 [v] rfl (fun h => by cases h) HS.out (by have := HR.out.2.2.2.1; omega) (by have := HR.out.2.2.2.1; omega) ?_; intro v5 w5 ho5 hk5 hpr5; obtain ⟨a5, c5, hv5e, -⟩ := ho5.shape; obtain ⟨n5, hn5⟩ : ∃ n, (Vs ++ [v]).length = n := ⟨_, rfl⟩; rw [hn5] at hv5e; subst hv5e; clear hn5; have hbq5 := hk5.blk HQ.out (fun h => by have h2 := ownE_blk HO.out h; obtain ⟨c, hc⟩ := h2; exact blk_ne hc HQ.out (by decide) rfl); obtain ⟨cq5, fq5⟩ := blk1 hbq5; have H5 := Lib.hid (And.intro ho5 (And.intro hk5 (And.intro hpr5 hbq5))); clear ho5 hk5 hpr5 hbq5))
  go_end0
  obtain ⟨h, hv, hkW2, hgn, hzW⟩ := HR.out
  obtain ⟨ho5, hk5, hpr5, hbq5⟩ := H5.out
  have hz2 := HQ.out
  have hpv : (Value.slice a5 n5 c5).ownBlock = (Value.slice ga gn gc).ownBlock ∨ ∀ b, (Value.slice a5 n5 c5).ownBlock = some b → W.heap.size ≤ b := by
    rcases hpr5 with h | h
    · exact .inl h
    · exact .inr (fun b hb => by rw [h] at hb; cases hb; exact hzW)
  have hkF : Kept (fun i => i = q ∨ (Value.slice ga gn gc).ownBlock = some i) W (w5.setCell ⟨q, 0, none⟩ (.slice a5 n5 c5)) := Kept.setCell (S := fun i => i = q ∨ (Value.slice ga gn gc).ownBlock = some i) ((hkW2.mono (fun _ _ h => h.elim)).then (hk5.mono fun _ _ h => Or.inr h)) (p := ⟨q, 0, none⟩) (.inl (.inl rfl)) _
  have hoF : OwnE (w5.setCell ⟨q, 0, none⟩ (.slice a5 n5 c5)) (.slice a5 n5 c5) (Vs ++ [v]) := ho5.kept (S := fun i => i = q) ((Kept.refl (fun i => i = q) w5).setCell (p := ⟨q, 0, none⟩) (.inl rfl) _) (fun b hb hh => by
    obtain ⟨c, hc⟩ := ownE_blk ho5 hb
    exact blk_ne hc hbq5 (by decide) hh)
  exact ⟨⟨_, rfl⟩, _, h.told hkF (blk_set hbq5 0 _) hoF hpv hv, hpv, hkF⟩
end Go.Proofs.Ytnaoobgghgnflaa
