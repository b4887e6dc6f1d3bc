/- Any puts: both writers hold the same bytes behind each. -/
import Derived.Test.YtocahkmfopbdlaaRdone
import Derived.Test.YtocahkmfopbdlaaBytes
import Derived.Deep.RegionWith
import Derived.Deep.DrawnRows
namespace Go.Proofs.Ytocahkmfopbdlaa
open Go.RowKit Pl
set_option linter.unusedVariables false
attribute [local go_sem ↓] Go.wp_at_zero Go.wp_at_succ
/-- So many bytes of a number, the lowest first. -/
def canon (V : Nat) : Nat → List Int
  | 0 => []
  | n + 1 => ((V % 256 : Nat) : Int) :: canon (V / 256) n
theorem canon_of {ds : List Int} {V n : Nat} (hb : Bytes ds) (hv : val (nats ds) = V) (hl : ds.length = n) : ds = canon V n := by
  induction ds generalizing V n with
  | nil => cases n with
    | zero => rfl
    | succ n => cases hl
  | cons x ds ih =>
    cases n with
    | zero => cases hl
    | succ n =>
      have hx := hb x (by simp)
      simp only [nats, List.map_cons, val] at hv
      simp only [canon]
      rw [← ih (V := V / 256) (fun y hy => hb y (by simp [hy])) (by simp only [nats]; omega) (by simpa using hl)]
      congr 1
      omega
theorem WrAt.lt {w : World} {q : Nat} {o : Option Nat} {V L : Nat} (h : WrAt w q o V L) : q < w.heap.size ∧ ∀ b, o = some b → b < w.heap.size := by
  obtain ⟨v, bs, held, n, h1, h2, h3, h4⟩ := h
  exact ⟨lt_of_blk h1, fun b hb => h2.lt b (h3.trans hb)⟩
/-- Both writers hold the same. -/
def Sim (w wr : World) (p q : Nat) (op oq : Option Nat) (V L : Nat) : Prop :=
  WrAt wr p op V L ∧ RwAt wr q oq V L ∧ p ≠ q ∧ w.heap.size ≤ p ∧ w.heap.size ≤ q ∧ (∀ b, op = some b → w.heap.size ≤ b ∧ b ≠ q ∧ oq ≠ some b) ∧ (∀ b, oq = some b → w.heap.size ≤ b ∧ b ≠ p) ∧ Kept (fun _ => False) w wr
theorem Sim.mid {w wr wa : World} {p q : Nat} {op oq op' : Option Nat} {V L : Nat} (h : Sim w wr p q op oq V L) (hx : Ext wr p op op' wa) : RwAt wa q oq V L := by
  obtain ⟨h1, h2, h3, h4, h5, h6, h7, h8⟩ := h
  refine h2.kept hx.1 ?_ ?_
  · rintro (h | h)
    · exact h3 h.symm
    · exact (h6 q h).2.1 rfl
  · rintro b hb (h | h)
    · exact (h7 b hb).2 h
    · exact (h6 b h).2.2 hb
theorem Sim.step {w wr wa wb : World} {p q : Nat} {op oq op' oq' : Option Nat} {V L V' L' : Nat} (h : Sim w wr p q op oq V L) (hw : WrAt wa p op' V' L') (hx : Ext wr p op op' wa) (hr : RwAt wb q oq' V' L') (hy : Ext wa q oq oq' wb) : Sim w wb p q op' oq' V' L' := by
  have hm := h.mid hx
  obtain ⟨h1, h2, h3, h4, h5, h6, h7, h8⟩ := h
  have hz0 := h8.size
  have hz1 := hx.1.size
  have l1 := h1.lt
  have l2 := h2.lt
  have l3 := hw.lt
  have l4 := hm.lt
  have n6 : ∀ b, op' = some b → w.heap.size ≤ b ∧ b ≠ q ∧ oq ≠ some b := by
    intro b hb
    rcases hx.2 with h | ⟨b', h, hb'⟩
    · exact h6 b (h ▸ hb)
    · rw [h] at hb; cases hb
      exact ⟨by omega, by omega, fun hh => by have := l2.2 b hh; omega⟩
  have n7 : ∀ b, oq' = some b → w.heap.size ≤ b ∧ b ≠ p := by
    intro b hb
    rcases hy.2 with h | ⟨b', h, hb'⟩
    · exact h7 b (h ▸ hb)
    · rw [h] at hb; cases hb
      exact ⟨by omega, by omega⟩
  refine ⟨hw.kept hy.1 ?_ ?_, hr, h3, h4, h5, ?_, n7, ?_⟩
  · rintro (h | h)
    · exact h3 h
    · exact (h7 p h).2 rfl
  · rintro b hb (h | h)
    · exact (n6 b hb).2.1 h
    · exact (n6 b hb).2.2 h
  · intro b hb
    refine ⟨(n6 b hb).1, (n6 b hb).2.1, fun hh => ?_⟩
    rcases hy.2 with h | ⟨b', h, hb'⟩
    · exact (n6 b hb).2.2 (h ▸ hh)
    · rw [h] at hh; cases hh; have := l3.2 b hb; omega
  · refine h8.trans ((hx.1.mono ?_).trans (hy.1.mono ?_))
    · rintro i _ (h | h)
      · exact .inr (by omega)
      · have := (h6 i h).1; exact .inr (by
          have h1 := h6 i h
          by_cases hh : wr.heap.size ≤ i
          · omega
          · omega)
    · rintro i _ (h | h)
      · exact .inl (.inr (by omega))
      · exact .inl (.inr (h7 i h).1)
theorem Sim.kept {w wr wb : World} {p q : Nat} {op oq : Option Nat} {V L : Nat} (h : Sim w wr p q op oq V L) (hk : Kept (fun _ => False) wr wb) : Sim w wb p q op oq V L := by
  obtain ⟨h1, h2, h3, h4, h5, h6, h7, h8⟩ := h
  exact ⟨h1.kept hk id (fun _ _ => id), h2.kept hk id (fun _ _ => id), h3, h4, h5, h6, h7, h8.then hk⟩
theorem sumL_mono (R : Nat → PutR) (k j : Nat) : sumL R k ≤ sumL R (k + j) := by
  induction j with
  | zero => exact Nat.le_refl _
  | succ j ih => rw [← Nat.add_assoc]; simp only [sumL]; omega
set_option maxRecDepth 100000 in
set_option maxHeartbeats 16000000 in
theorem writes_go (len cap : Nat) (a : Option Addr) (R : Nat → PutR) (w : World) (hp : IsPuts w a len R) (hl : len ≤ 9223372036854775807) :
    Calls Try.prog 6 #[.slice a len cap] w fun e w' => e = .returned (.bool true) ∧ Kept (fun _ => False) w w' := by
  have HP := Lib.hid hp
  clear hp
  go_enter Try.func6, Try.ntmps6
  go_wp2_with fail
  refine (known_any _).mono ?_; rintro e w0 ⟨rfl, hk0⟩
  have HP0 := Lib.hid (HP.out.kept hk0 (fun _ _ => id))
  have hz0 := hk0.size
  go_wp2_with fail
  refine (few_any a len cap R _ HP0.out hl).mono ?_
  rintro e w' ⟨b, rfl, hb, rfl⟩
  cases b with
  | false =>
    go_wp2
    go_ret
    exact ⟨rfl, hk0⟩
  | true =>
  have hfew := hb rfl
  clear hb HP0
  go_wp2_with fail
  refine (newWriter _).mono ?_
  rintro e w1 ⟨p, rfl, hw, hp0, hk1⟩
  have hkw1 := hk0.then hk1
  have hz1 := hk1.size
  have hpl := hw.lt.1
  have hs0 : Sim w (w1.alloc (.cells #[.slice none 0 0] 49)) p w1.heap.size none none 0 0 :=
    ⟨hw.kept ((Kept.refl (fun _ => False) w1).alloc _) id (fun _ _ => id), ⟨.slice none 0 0, [], blk_new _ _, Own.nil _ _ _, rfl, (fun h => by cases h), (fun _ h => by cases h), rfl, rfl⟩, by omega, by omega, by omega, (fun b h => by cases h), (fun b h => by cases h), hkw1.alloc _⟩
  have HS0 := Lib.hid hs0
  obtain ⟨q, hq⟩ : ∃ q, w1.heap.size = q := ⟨_, rfl⟩
  rw [hq] at HS0
  have HQ := Lib.hid hq
  clear hw hk1 hkw1 hs0 hq
  go_wp2_with fail
  rw [HQ.out]
  go_loopw [5] (fun i wr => ∃ (k : Nat) (op oq : Option Nat) (V L : Nat), k ≤ len ∧ i = .int .i64 k ∧ Sim w wr p q op oq V L ∧ L ≤ 8 * sumL R k) (fun i _ => len - (intOf i).toNat)
  case atStart => exact ⟨0, none, none, 0, 0, by omega, rfl, HS0.out, by simp⟩
  case round =>
    obtain ⟨k, op, oq, V, L, hk, rfl, hsim, hL⟩ := hrel
    have HS := Lib.hid hsim
    by_cases hkl : k < len
    · obtain ⟨lb, loff, rfl, hlb, hc⟩ := HP.out.resolve_left (by omega)
      obtain ⟨c0, c1, c2, c3, -, -, wv, hrow⟩ := hc k hkl
      have hkw := hsim.2.2.2.2.2.2.2
      have hmono := sumL_mono R (k + 1) (len - (k + 1))
      rw [show k + 1 + (len - (k + 1)) = len by omega] at hmono
      have hsucc : sumL R (k + 1) = sumL R k + (R k).len + 4 := rfl
      have hv := u32_of_wf wv
      obtain ⟨v, hve⟩ : ∃ v : Nat, (R k).V = v := ⟨(R k).V.toNat, by omega⟩
      obtain ⟨n, hne⟩ : ∃ n, (R k).N = n := ⟨_, rfl⟩
      obtain ⟨kk, hkk⟩ : ∃ n, (R k).K = n := ⟨_, rfl⟩
      have c0 := hkw.cell c0 id
      have c1 := hkw.cell c1 id
      have c2 := hkw.cell c2 id
      have c3 := hkw.cell c3 id
      rw [hkk] at c0
      rw [hne] at c1
      rw [hve] at c2
      have hv32 : v < 4294967296 := by omega
      obtain ⟨rs, rc, rm, rb, rl, rn⟩ := hrow.slAt
      have rs := rs.kept hkw (fun _ _ _ _ => id)
      have rb := bytes_of_wf rb
      obtain ⟨ya, hya⟩ : ∃ z, (R k).a = z := ⟨_, rfl⟩
      obtain ⟨yl, hyl⟩ : ∃ z, (R k).len = z := ⟨_, rfl⟩
      obtain ⟨yc, hyc⟩ : ∃ z, (R k).cap = z := ⟨_, rfl⟩
      obtain ⟨xs, hxs⟩ : ∃ xs, (R k).zs.take yl = xs := ⟨_, rfl⟩
      rw [hya, hyl, hyc] at c3
      rw [hya, hyl, hxs] at rs
      rw [hyl, hxs] at rb
      rw [hya, hyl] at rl
      rw [hya, hyl, hyc] at rn
      rw [hyl] at hsucc
      have hyl4 : yl ≤ 4096 := by omega
      have hLk : L ≤ 32768 := by omega
      obtain ⟨S1, hS1⟩ : ∃ z, sumL R (k + 1) = z := ⟨_, rfl⟩
      obtain ⟨S0, hS0⟩ : ∃ z, sumL R k = z := ⟨_, rfl⟩
      rw [hS1] at hmono
      rw [hS1, hS0] at hsucc
      rw [hS0] at hL
      have hb1 : S0 + yl + 4 ≤ S1 := by omega
      have hb2 : S1 ≤ 4096 := by omega
      have HS1 := Lib.hid hS1
      have hsz := hkw.size
      have hap : ∀ b off, 0 < yl → ya = some ⟨b, off, none⟩ → b < w.heap.size := fun b off h0 he => rl b off h0 he
      have HAP := Lib.hid hap
      have RS := Lib.hid rs
      have RN := Lib.hid rn
      clear hsim hc wv hv hve hne hkk hya hyl hyc hxs hS1 hS0 hsucc hmono rl rs rn rc rm hrow hap
      have hfin : ∀ {op' oq' : Option Nat} {V' L' : Nat} {wb : World}, Sim w wb p q op' oq' V' L' → L' ≤ 8 * S1 → True := fun _ _ => trivial
      clear hfin
      by_cases h1 : kk = 1
      · subst h1
        clear c3
        go_wp2
        go_still_tail 11, (by kernel_rfl)
        change wpList _ _ _ _ _ wr.drew
        obtain ⟨wd, hwd⟩ : ∃ wd, wr.drew = wd := ⟨_, rfl⟩
        have hkd := (Kept.refl (fun _ => False) wr).drew
        rw [hwd] at hkd ⊢
        have HSD := Lib.hid (HS.out.kept hkd)
        have d1 := hkd.cell c1 id
        have d2 := hkd.cell c2 id
        clear hwd c1 c2 hkd
        go_wp2_with fail
        refine (wbits_any p op V L v n _ HSD.out.1 hv32 (by omega)).mono ?_
        rintro e wa ⟨rfl, op', hw4, hx4⟩
        have HW4 := Lib.hid hw4
        have HX4 := Lib.hid (show Ext wd p op op' wa from hx4)
        have hbk : ∀ i, (i = p ∨ op = some i) → w.heap.size ≤ i := fun i h => by
          rcases h with h | h
          · rw [h]; exact HSD.out.2.2.2.1
          · exact (HSD.out.2.2.2.2.2.1 i h).1
        have d1 := hx4.1.cell d1 (fun hh => by have := hbk lb hh; omega)
        have d2 := hx4.1.cell d2 (fun hh => by have := hbk lb hh; omega)
        clear hw4 hx4 hbk
        go_wp2
        go_still_tail 11, (by kernel_rfl)
        change wpList _ _ _ _ _ wa.drew
        obtain ⟨we, hwe⟩ : ∃ we, wa.drew = we := ⟨_, rfl⟩
        have HRE : Hid (RwAt we q oq V L) := Lib.hid (by rw [← hwe]; exact (HSD.out.mid HX4.out).kept (Kept.refl (fun _ => False) wa).drew id (fun _ _ => id))
        have HWE : Hid (WrAt we p op' (V + v % 2 ^ widI n * 2 ^ L) (L + widI n)) := Lib.hid (by rw [← hwe]; exact HW4.out.kept (Kept.refl (fun _ => False) wa).drew id (fun _ _ => id))
        have HXE : Hid (Ext wd p op op' we) := Lib.hid (by rw [← hwe]; exact ⟨HX4.out.1.drew, HX4.out.2⟩)
        rw [hwe]
        clear hwe d1 d2
        go_wp2_with fail
        refine (refWBits_any q oq V L v n _ HRE.out hv32 (by omega)).mono ?_
        rintro e wb ⟨rfl, oq', hr5, hx5⟩
        have HS5 := Lib.hid (HSD.out.step HWE.out HXE.out hr5 hx5)
        have hwid := widI_le n
        obtain ⟨L', hL'⟩ : ∃ z, L + widI n = z := ⟨_, rfl⟩
        have hb5 : L' ≤ 8 * S1 := by omega
        rw [hL'] at HS5
        obtain ⟨V', hV'⟩ : ∃ z, V + v % 2 ^ widI n * 2 ^ L = z := ⟨_, rfl⟩
        rw [hV'] at HS5
        clear hr5 hx5 hL' hV' hwid
        go_wp2
        have hwk : ∀ w', Kept (fun _ => False) wb w' → WrAt w' p op' V' L' := fun w' hk => HS5.out.1.kept hk id (fun _ _ => id)
        have hrk : ∀ w', Kept (fun _ => False) wb w' → RwAt w' q oq' V' L' := fun w' hk => HS5.out.2.1.kept hk id (fun _ _ => id)
        have HWK := Lib.hid hwk
        have HRK := Lib.hid hrk
        obtain ⟨str, hstr⟩ : ∃ str, strOfNums (canon V' ((L' + 7) / 8)) = str := ⟨_, rfl⟩
        have HSTR := Lib.hid hstr
        clear hwk hrk hstr
        go_region_with (first
          | (go_at_call 14; refine (done_any p op' V' L' _ (HWK.out _ ?_) (by omega)).mono ?_; (first | exact (Kept.refl (fun _ => False) wb).drew | exact hkB | exact hkB.drew); rintro e wA ⟨vA, dsA, rfl, hA, hAb, hAv, hAl, hkA, -⟩; obtain rfl := canon_of hAb hAv hAl; obtain ⟨aA, capA, rfl, hsA, -⟩ := hA.shape; have hcA := run_str (P := Try.prog) (dst := 9) (cap := capA) Try.underlying29 Try.underlying5 Try.underlying9 hsA; rw [HSTR.out] at hcA; have HKA : ∀ w', Kept (fun _ => False) wA w' → (convert 29 9 (.slice aA (canon V' ((L' + 7) / 8)).length capA)).run Try.prog w' = .ok (.string str) w' := (fun w' hk => (run_str (P := Try.prog) (dst := 9) (cap := capA) Try.underlying29 Try.underlying5 Try.underlying9 (hsA.kept hk (fun _ _ _ _ => id))).trans (by rw [HSTR.out])); have HA := Lib.hid HKA; (try have hx1 := HB.out _ hkA); (first | have hkT : Kept (fun _ => False) wb wA := Kept.then hkB hkA | have hkT : Kept (fun _ => False) wb wA := Kept.then ((Kept.refl (fun _ => False) wb).drew) hkA); have hkA : Kept (fun _ => False) wb wA := hkT; clear hA hAb hAv hAl hsA HKA)
          | (go_at_call 28; refine (refWDone_any q oq' V' L' _ (HRK.out _ ?_) (by omega)).mono ?_; (first | exact (Kept.refl (fun _ => False) wb).drew | exact hkA | exact hkA.drew); rintro e wB ⟨vB, dsB, rfl, hB, hBb, hBv, hBl, hkB, -⟩; obtain rfl := canon_of hBb hBv hBl; obtain ⟨aB, capB, rfl, hsB, -⟩ := hB.shape; have hcB := run_str (P := Try.prog) (dst := 9) (cap := capB) Try.underlying29 Try.underlying5 Try.underlying9 hsB; rw [HSTR.out] at hcB; have HKB : ∀ w', Kept (fun _ => False) wB w' → (convert 29 9 (.slice aB (canon V' ((L' + 7) / 8)).length capB)).run Try.prog w' = .ok (.string str) w' := (fun w' hk => (run_str (P := Try.prog) (dst := 9) (cap := capB) Try.underlying29 Try.underlying5 Try.underlying9 (hsB.kept hk (fun _ _ _ _ => id))).trans (by rw [HSTR.out])); have HB := Lib.hid HKB; (try have hx1 := HA.out _ hkB); (first | have hkT : Kept (fun _ => False) wb wB := Kept.then hkA hkB | have hkT : Kept (fun _ => False) wb wB := Kept.then ((Kept.refl (fun _ => False) wb).drew) hkB); have hkB : Kept (fun _ => False) wb wB := hkT; clear hB hBb hBv hBl hsB HKB))
        all_goals go_wp2
        all_goals
          go_roundw
          case rel => exact ⟨k + 1, op', oq', V', L', by omega, by go_num, by first | exact HS5.out.kept hkT | exact HS5.out.kept hkT.drew, by rw [HS1.out]; exact hb5⟩
          case measure => simp [intOf]; omega
      by_cases h2 : kk = 2
      · subst h2
        clear c1 c2 c3
        go_wp2_with fail
        refine (walign_any p op V L _ HS.out.1 (by omega)).mono ?_
        rintro e wa ⟨rfl, op', hw4, hx4⟩
        have HW4 := Lib.hid hw4
        have HX4 := Lib.hid (show Ext wr p op op' wa from hx4)
        clear hw4 hx4
        go_wp2_with fail
        refine (refWAlign_any q oq V L _ (HS.out.mid HX4.out) (by omega)).mono ?_
        rintro e wb ⟨rfl, oq', hr5, hx5⟩
        have HS5 := Lib.hid (HS.out.step HW4.out HX4.out hr5 hx5)
        obtain ⟨L', hL'⟩ : ∃ z, 8 * ((L + 7) / 8) = z := ⟨_, rfl⟩
        have hb5 : L' ≤ 8 * S1 := by omega
        rw [hL'] at HS5
        obtain ⟨V', hV'⟩ : ∃ z, V = z := ⟨_, rfl⟩
        rw [hV'] at HS5
        clear hr5 hx5 hL' hV'
        go_wp2
        have hwk : ∀ w', Kept (fun _ => False) wb w' → WrAt w' p op' V' L' := fun w' hk => HS5.out.1.kept hk id (fun _ _ => id)
        have hrk : ∀ w', Kept (fun _ => False) wb w' → RwAt w' q oq' V' L' := fun w' hk => HS5.out.2.1.kept hk id (fun _ _ => id)
        have HWK := Lib.hid hwk
        have HRK := Lib.hid hrk
        obtain ⟨str, hstr⟩ : ∃ str, strOfNums (canon V' ((L' + 7) / 8)) = str := ⟨_, rfl⟩
        have HSTR := Lib.hid hstr
        clear hwk hrk hstr
        go_region_with (first
          | (go_at_call 14; refine (done_any p op' V' L' _ (HWK.out _ ?_) (by omega)).mono ?_; (first | exact (Kept.refl (fun _ => False) wb).drew | exact hkB | exact hkB.drew); rintro e wA ⟨vA, dsA, rfl, hA, hAb, hAv, hAl, hkA, -⟩; obtain rfl := canon_of hAb hAv hAl; obtain ⟨aA, capA, rfl, hsA, -⟩ := hA.shape; have hcA := run_str (P := Try.prog) (dst := 9) (cap := capA) Try.underlying29 Try.underlying5 Try.underlying9 hsA; rw [HSTR.out] at hcA; have HKA : ∀ w', Kept (fun _ => False) wA w' → (convert 29 9 (.slice aA (canon V' ((L' + 7) / 8)).length capA)).run Try.prog w' = .ok (.string str) w' := (fun w' hk => (run_str (P := Try.prog) (dst := 9) (cap := capA) Try.underlying29 Try.underlying5 Try.underlying9 (hsA.kept hk (fun _ _ _ _ => id))).trans (by rw [HSTR.out])); have HA := Lib.hid HKA; (try have hx1 := HB.out _ hkA); (first | have hkT : Kept (fun _ => False) wb wA := Kept.then hkB hkA | have hkT : Kept (fun _ => False) wb wA := Kept.then ((Kept.refl (fun _ => False) wb).drew) hkA); have hkA : Kept (fun _ => False) wb wA := hkT; clear hA hAb hAv hAl hsA HKA)
          | (go_at_call 28; refine (refWDone_any q oq' V' L' _ (HRK.out _ ?_) (by omega)).mono ?_; (first | exact (Kept.refl (fun _ => False) wb).drew | exact hkA | exact hkA.drew); rintro e wB ⟨vB, dsB, rfl, hB, hBb, hBv, hBl, hkB, -⟩; obtain rfl := canon_of hBb hBv hBl; obtain ⟨aB, capB, rfl, hsB, -⟩ := hB.shape; have hcB := run_str (P := Try.prog) (dst := 9) (cap := capB) Try.underlying29 Try.underlying5 Try.underlying9 hsB; rw [HSTR.out] at hcB; have HKB : ∀ w', Kept (fun _ => False) wB w' → (convert 29 9 (.slice aB (canon V' ((L' + 7) / 8)).length capB)).run Try.prog w' = .ok (.string str) w' := (fun w' hk => (run_str (P := Try.prog) (dst := 9) (cap := capB) Try.underlying29 Try.underlying5 Try.underlying9 (hsB.kept hk (fun _ _ _ _ => id))).trans (by rw [HSTR.out])); have HB := Lib.hid HKB; (try have hx1 := HA.out _ hkB); (first | have hkT : Kept (fun _ => False) wb wB := Kept.then hkA hkB | have hkT : Kept (fun _ => False) wb wB := Kept.then ((Kept.refl (fun _ => False) wb).drew) hkB); have hkB : Kept (fun _ => False) wb wB := hkT; clear hB hBb hBv hBl hsB HKB))
        all_goals go_wp2
        all_goals
          go_roundw
          case rel => exact ⟨k + 1, op', oq', V', L', by omega, by go_num, by first | exact HS5.out.kept hkT | exact HS5.out.kept hkT.drew, by rw [HS1.out]; exact hb5⟩
          case measure => simp [intOf]; omega
      · clear c1 c2
        have hbk : ∀ i, (i = p ∨ op = some i) → w.heap.size ≤ i := fun i h => by
          rcases h with h | h
          · rw [h]; exact HS.out.2.2.2.1
          · exact (HS.out.2.2.2.2.2.1 i h).1
        have hbq : ∀ i, (i = q ∨ oq = some i) → w.heap.size ≤ i := fun i h => by
          rcases h with h | h
          · rw [h]; exact HS.out.2.2.2.2.1
          · exact (HS.out.2.2.2.2.2.2.1 i h).1
        have HBK := Lib.hid hbk
        have HBQ := Lib.hid hbq
        clear hbk hbq
        go_wp2_with fail
        refine (wbytes_any p op V L ya yl yc xs _ HS.out.1 (by omega) RS.out RN.out (by omega) rb (fun b off h0 he => ⟨fun hh => by have := HBK.out b (.inl hh); have := HAP.out b off h0 he; omega, fun hh => by have := HBK.out b (.inr hh); have := HAP.out b off h0 he; omega⟩)).mono ?_
        rintro e wa ⟨rfl, op', hw4, hx4⟩
        have HW4 := Lib.hid hw4
        have HX4 := Lib.hid (show Ext wr p op op' wa from hx4)
        have c3 := hx4.1.cell c3 (fun hh => by have := HBK.out lb hh; omega)
        have RS4 := Lib.hid (RS.out.kept hx4.1 (fun b off h0 he hh => by have := HBK.out b hh; have := HAP.out b off h0 he; omega))
        clear hw4 hx4
        go_wp2_with fail
        refine (refWBytes_any q oq V L ya yl yc xs _ (HS.out.mid HX4.out) (by omega) RS4.out (by omega) rb (fun b off h0 he => ⟨fun hh => by have := HBQ.out b (.inl hh); have := HAP.out b off h0 he; omega, fun hh => by have := HBQ.out b (.inr hh); have := HAP.out b off h0 he; omega⟩)).mono ?_
        rintro e wb ⟨rfl, oq', hr5, hx5⟩
        have HS5 := Lib.hid (HS.out.step HW4.out HX4.out hr5 hx5)
        obtain ⟨L', hL'⟩ : ∃ z, 8 * ((L + 7) / 8) + 8 * yl = z := ⟨_, rfl⟩
        have hb5 : L' ≤ 8 * S1 := by omega
        rw [hL'] at HS5
        obtain ⟨V', hV'⟩ : ∃ z, V + val (nats xs) * 2 ^ (8 * ((L + 7) / 8)) = z := ⟨_, rfl⟩
        rw [hV'] at HS5
        clear hr5 hx5 hL' hV' c3
        go_wp2
        have hwk : ∀ w', Kept (fun _ => False) wb w' → WrAt w' p op' V' L' := fun w' hk => HS5.out.1.kept hk id (fun _ _ => id)
        have hrk : ∀ w', Kept (fun _ => False) wb w' → RwAt w' q oq' V' L' := fun w' hk => HS5.out.2.1.kept hk id (fun _ _ => id)
        have HWK := Lib.hid hwk
        have HRK := Lib.hid hrk
        obtain ⟨str, hstr⟩ : ∃ str, strOfNums (canon V' ((L' + 7) / 8)) = str := ⟨_, rfl⟩
        have HSTR := Lib.hid hstr
        clear hwk hrk hstr
        go_region_with (first
          | (go_at_call 14; refine (done_any p op' V' L' _ (HWK.out _ ?_) (by omega)).mono ?_; (first | exact (Kept.refl (fun _ => False) wb).drew | exact hkB | exact hkB.drew); rintro e wA ⟨vA, dsA, rfl, hA, hAb, hAv, hAl, hkA, -⟩; obtain rfl := canon_of hAb hAv hAl; obtain ⟨aA, capA, rfl, hsA, -⟩ := hA.shape; have hcA := run_str (P := Try.prog) (dst := 9) (cap := capA) Try.underlying29 Try.underlying5 Try.underlying9 hsA; rw [HSTR.out] at hcA; have HKA : ∀ w', Kept (fun _ => False) wA w' → (convert 29 9 (.slice aA (canon V' ((L' + 7) / 8)).length capA)).run Try.prog w' = .ok (.string str) w' := (fun w' hk => (run_str (P := Try.prog) (dst := 9) (cap := capA) Try.underlying29 Try.underlying5 Try.underlying9 (hsA.kept hk (fun _ _ _ _ => id))).trans (by rw [HSTR.out])); have HA := Lib.hid HKA; (try have hx1 := HB.out _ hkA); (first | have hkT : Kept (fun _ => False) wb wA := Kept.then hkB hkA | have hkT : Kept (fun _ => False) wb wA := Kept.then ((Kept.refl (fun _ => False) wb).drew) hkA); have hkA : Kept (fun _ => False) wb wA := hkT; clear hA hAb hAv hAl hsA HKA)
          | (go_at_call 28; refine (refWDone_any q oq' V' L' _ (HRK.out _ ?_) (by omega)).mono ?_; (first | exact (Kept.refl (fun _ => False) wb).drew | exact hkA | exact hkA.drew); rintro e wB ⟨vB, dsB, rfl, hB, hBb, hBv, hBl, hkB, -⟩; obtain rfl := canon_of hBb hBv hBl; obtain ⟨aB, capB, rfl, hsB, -⟩ := hB.shape; have hcB := run_str (P := Try.prog) (dst := 9) (cap := capB) Try.underlying29 Try.underlying5 Try.underlying9 hsB; rw [HSTR.out] at hcB; have HKB : ∀ w', Kept (fun _ => False) wB w' → (convert 29 9 (.slice aB (canon V' ((L' + 7) / 8)).length capB)).run Try.prog w' = .ok (.string str) w' := (fun w' hk => (run_str (P := Try.prog) (dst := 9) (cap := capB) Try.underlying29 Try.underlying5 Try.underlying9 (hsB.kept hk (fun _ _ _ _ => id))).trans (by rw [HSTR.out])); have HB := Lib.hid HKB; (try have hx1 := HA.out _ hkB); (first | have hkT : Kept (fun _ => False) wb wB := Kept.then hkA hkB | have hkT : Kept (fun _ => False) wb wB := Kept.then ((Kept.refl (fun _ => False) wb).drew) hkB); have hkB : Kept (fun _ => False) wb wB := hkT; clear hB hBb hBv hBl hsB HKB))
        all_goals go_wp2
        all_goals
          go_roundw
          case rel => exact ⟨k + 1, op', oq', V', L', by omega, by go_num, by first | exact HS5.out.kept hkT | exact HS5.out.kept hkT.drew, by rw [HS1.out]; exact hb5⟩
          case measure => simp [intOf]; omega
    · go_wp2
      go_ret
      exact ⟨rfl, HS.out.2.2.2.2.2.2.2⟩
theorem writes_any {a : Option Addr} {len cap : Nat} {R : Nat → PutR} {w : World} (f0 : IsPuts w a len R ∧ len ≤ cap ∧ cap ≤ maxLen) :
    Calls Try.prog 6 #[.slice a len cap] w fun e w' => e = .returned (.bool true) ∧ Below w.heap.size w w' := by
  obtain ⟨h1, h2, h3⟩ := f0
  unfold maxLen at h3
  exact (writes_go len cap a R w h1 (by omega)).mono fun _ _ h => ⟨h.1, h.2.below⟩
end Go.Proofs.Ytocahkmfopbdlaa
