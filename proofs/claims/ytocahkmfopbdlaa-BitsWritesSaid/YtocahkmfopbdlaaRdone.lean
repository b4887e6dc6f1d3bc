/- The reference's writer: bytes laid, and what it has laid as bytes. -/
import Derived.Test.YtocahkmfopbdlaaRwriter
import Derived.StillTailTactics
namespace Go.Proofs.Ytocahkmfopbdlaa
open Go.RowKit Pl
set_option linter.unusedVariables false
set_option maxRecDepth 100000 in
set_option maxHeartbeats 4000000 in
theorem refWBytes_any (q : Nat) (o : Option Nat) (V L : Nat) (a : Option Addr) (len cap : Nat) (xs : List Int) (w : World) (h : RwAt w q o V L) (hL : L ≤ 1000000)
    (hs : SlAt .u8 w a len xs) (hl : len ≤ 1000000) (hb : Bytes xs) (hap : ∀ b off, 0 < len → a = some ⟨b, off, none⟩ → b ≠ q ∧ o ≠ some b) :
    Calls Try.prog 27 #[.pointer (some ⟨q, 0, none⟩), .slice a len cap] w fun e w' => e = .returned (.tuple #[]) ∧ ∃ o', RwAt w' q o' (V + val (nats xs) * 2 ^ (8 * ((L + 7) / 8))) (8 * ((L + 7) / 8) + 8 * len) ∧ Ext w q o o' w' := by
  have hxl := hs.1
  have HS := Lib.hid hs
  have HAP := Lib.hid hap
  have H := Lib.hid h
  obtain ⟨A, hA⟩ : ∃ A, 8 * ((L + 7) / 8) = A := ⟨_, rfl⟩
  have hA2 : A ≤ 1000008 := by omega
  clear hs h hap
  rw [hA]
  go_enter Try.func27, Try.ntmps27
  go_wp2_with fail
  refine (refWAlign_any q o V L _ H.out (by omega)).mono ?_
  rintro e w1 ⟨rfl, o1, hr1, hx1⟩
  rw [hA] at hr1
  have HR1 := Lib.hid hr1
  clear hA hr1
  go_wp2
  go_loopw [4] (fun i wr => ∃ (k : Nat) (o' : Option Nat), k ≤ len ∧ i = .int .i64 k ∧ RwAt wr q o' (V + val ((nats xs).take k) * 2 ^ A) (A + 8 * k) ∧ Ext w q o o' wr) (fun i _ => len - (intOf i).toNat)
  case atStart => exact ⟨0, o1, by omega, rfl, by simpa [val] using HR1.out, hx1⟩
  case round =>
    obtain ⟨k, o', hk, rfl, hr, hx⟩ := hrel
    have HR := Lib.hid hr
    by_cases hkl : k < len
    · obtain ⟨z, hz, hzg, hzn⟩ := hb.at (k := k) (by omega)
      obtain ⟨b, off, rfl, hc⟩ := HS.out.2.resolve_left (by omega)
      have hcell := hc k hkl
      rw [hzg] at hcell
      have hcell := hx.1.cell hcell (fun hh => Or.elim hh (HAP.out b off (by omega) rfl).1 (HAP.out b off (by omega) rfl).2)
      have hv := val_step (l := nats xs) (j := 0) (k := k) (z := z) (by simpa using hzn)
      rw [List.drop_zero] at hv
      have HV := Lib.hid hv
      clear hr hzg hzn hc hv
      go_wp2_with fail
      refine (refWBits_yes q o' _ _ z 8 _ HR.out (by omega) (by omega) (by omega) (by omega)).mono ?_
      rintro e w2 ⟨rfl, o2, hr2, hx2⟩
      have HR2 := Lib.hid hr2
      clear hr2
      go_wp2
      go_roundw
      case rel =>
        refine ⟨k + 1, o2, by omega, by go_num, ?_, hx.trans hx2⟩
        have h9 := HR2.out
        rw [show z % 2 ^ 8 = z by omega] at h9
        have e1 : V + val ((nats xs).take k) * 2 ^ A + z * 2 ^ (A + 8 * k) = V + val ((nats xs).take (k + 1)) * 2 ^ A := by
          rw [HV.out, Nat.add_mul, Nat.mul_assoc, ← Nat.pow_add, Nat.add_comm (8 * k) A]; omega
        rw [e1] at h9
        exact h9
      case measure => simp [intOf]; omega
    · obtain rfl : k = len := by omega
      go_wp2
      go_end0
      have h9 := HR.out
      rw [show (nats xs).take k = nats xs by rw [List.take_of_length_le (by rw [nats_length]; omega)]] at h9
      exact ⟨rfl, o', h9, hx⟩
theorem val_set (l : List Nat) : ∀ (j d : Nat), j < l.length → val (l.set j (l.getD j 0 + d)) = val l + d * 256 ^ j := by
  induction l with
  | nil => intro j d h; simp at h
  | cons x l ih =>
    intro j d h
    cases j with
    | zero => simp [val]; omega
    | succ j =>
      simp only [List.set_cons_succ, val, List.getD_cons_succ, Nat.pow_succ]
      rw [ih j d (by simpa using h), Nat.mul_add, Nat.mul_comm 256 (d * 256 ^ j), Nat.mul_assoc d]
      omega
theorem val_get (l : List Nat) (h : Small l) : ∀ j, j < l.length → l.getD j 0 = val l / 256 ^ j % 256 := by
  induction l with
  | nil => intro j hj; simp at hj
  | cons x l ih =>
    intro j hj
    have hx := h x (by simp)
    cases j with
    | zero => simp [val]; omega
    | succ j =>
      simp only [List.getD_cons_succ, val, Nat.pow_succ]
      rw [ih (fun y hy => h y (by simp [hy])) j (by simpa using hj), Nat.mul_comm (256 ^ j) 256, ← Nat.div_div_eq_div_mul, show (x + 256 * val l) / 256 = val l by omega]
theorem nats_set (xs : List Int) (j : Nat) (z : Nat) : nats (xs.set j (z : Int)) = (nats xs).set j z := by simp [nats, List.map_set]
theorem val_zeros (n : Nat) : val (nats (List.replicate n 0)) = 0 := by
  induction n with
  | zero => rfl
  | succ n ih => simp only [List.replicate_succ, nats, List.map_cons, val] at ih ⊢; omega
theorem bval_take (l : List Nat) (k z : Nat) (h : l[k]? = some z) : bval (l.take (k + 1)) = bval (l.take k) + z * 2 ^ k := by
  obtain ⟨hk, he⟩ := List.getElem?_eq_some_iff.1 h
  rw [List.take_succ_eq_append_getElem hk, bval_append, he, List.length_take, Nat.min_eq_left (by omega)]
theorem bit_at {bs : List Int} (h : Bit bs) {k : Nat} (hk : k < bs.length) : ∃ z : Nat, z < 2 ∧ bs.getD k 0 = (z : Int) ∧ (nats bs)[k]? = some z := by
  have h1 := h (bs[k]) (List.getElem_mem hk)
  refine ⟨(bs[k]).toNat, by omega, ?_, by simp [nats, hk]⟩
  simp [hk]
  omega
theorem Bit.take {bs : List Int} (h : Bit bs) (k : Nat) : Bit (bs.take k) := fun n hn => h n (List.mem_of_mem_take hn)
set_option maxRecDepth 100000 in
set_option maxHeartbeats 4000000 in
theorem refWDone_any (q : Nat) (o : Option Nat) (V L : Nat) (w : World) (h : RwAt w q o V L) (hL : L ≤ 1000000) :
    Calls Try.prog 28 #[.pointer (some ⟨q, 0, none⟩)] w fun e w' => ∃ v ds, e = .returned v ∧ Own .u8 5 w' v ds ∧ Bytes ds ∧ val (nats ds) = V ∧ ds.length = (L + 7) / 8 ∧ Kept (fun _ => False) w w' ∧ ∀ b, v.ownBlock = some b → w.heap.size ≤ b := by
  obtain ⟨s, bs, h1, h2, h3, h4, h5, h6, h7⟩ := h
  obtain ⟨a, cap, rfl, hsl, -⟩ := h2.shape
  obtain ⟨c0, f0⟩ := blk1 h1
  have HB := Lib.hid h1
  have H6 := Lib.hid h6
  have HS := Lib.hid hsl
  clear h1 h2 h3 h6 hsl
  obtain ⟨m, hm⟩ : ∃ m, (L + 7) / 8 = m := ⟨_, rfl⟩
  have hmi : ((bs.length : Int) + 7) / 8 = (m : Int) := by omega
  have hm2 : m ≤ 125001 := by omega
  have hmb : bs.length ≤ 8 * m := by omega
  have hbl : bs.length ≤ 1000000 := by omega
  have HM := Lib.hid hm
  have HMI := Lib.hid hmi
  clear hmi
  obtain ⟨i0, hi, hz0, hz1, hz2⟩ := info_parts Try.infoByte
  have HI := Lib.hid (And.intro hi (And.intro hz0 (And.intro hz1 hz2)))
  clear hi hz0 hz1 hz2 hm h7
  go_enter Try.func28, Try.ntmps28
  go_wp2_with (refine wpList_makeInts rfl (.tmp 11) (.tmp 11) 29 rfl 5 .u8 i0 1 Try.underlying29 HI.out.1 HI.out.2.1 HI.out.2.2.1 HI.out.2.2.2 .i64 .i64 _ _ m rfl rfl HMI.out HMI.out (by omega) (by simp [maxLen]; omega) ?_; intro w1 ho1 hk1 hz1)
  have HO1 := Lib.hid ho1
  clear ho1
  have hval : ∀ wr : World, True := fun _ => trivial
  obtain ⟨g, hg⟩ : ∃ g, w.heap.size = g := ⟨_, rfl⟩
  rw [hg] at HO1 hz1 ⊢
  have HG := Lib.hid hg
  clear hg hval
  go_loopw [4] (fun i wr => ∃ (k : Nat) (ys : List Int), k ≤ bs.length ∧ i = .int .i64 k ∧ Own .u8 5 wr (.slice (some ⟨g, 0, none⟩) m m) ys ∧ Bytes ys ∧ val (nats ys) = bval ((nats bs).take k) ∧ Kept (fun _ => False) w wr) (fun i _ => bs.length - (intOf i).toNat)
  case atStart => exact ⟨0, _, by omega, rfl, HO1.out, (fun n hn => by have := List.eq_of_mem_replicate hn; omega), by rw [val_zeros]; rfl, hk1⟩
  case round =>
    obtain ⟨k, ys, hk, rfl, ho, hy, hv, hkr⟩ := hrel
    have c0r := hkr.cell c0 id
    have HO := Lib.hid ho
    have HV := Lib.hid hv
    by_cases hkl : k < bs.length
    · obtain ⟨hyl, -, hglt, hyc, hyf⟩ := ho.at
      obtain ⟨b, hb2, hbg, hbn⟩ := bit_at h5 hkl
      obtain ⟨hb', off, rfl, hc⟩ := HS.out.2.resolve_left (by omega)
      have hcell := hkr.cell (hc k hkl) id
      rw [hbg] at hcell
      obtain ⟨j, hj⟩ : ∃ j, k / 8 = j := ⟨_, rfl⟩
      obtain ⟨r, hr⟩ : ∃ r, k % 8 = r := ⟨_, rfl⟩
      have hjm : j < m := by omega
      have hr8 : r < 8 := by omega
      have hji : (k : Int) / 8 = (j : Int) := by omega
      have hri : (k : Int) % 8 = (r : Int) := by omega
      have hkjr : k = 8 * j + r := by omega
      obtain ⟨y, hyz, hyg, hyn⟩ := hy.at (k := j) (by omega)
      have hycell := hyc j hjm
      have hyfr := hyf j
      rw [hyg] at hycell
      have hyr : y < 2 ^ r := by
        have e1 := val_get (nats ys) (bytes_small hy) j (by rw [nats_length]; omega)
        have e2 : (nats ys).getD j 0 = y := by rw [List.getD_eq_getElem?_getD, hyn]; rfl
        have e3 := bval_lt (bs.take k) (h5.take k)
        rw [show nats (bs.take k) = (nats bs).take k by simp [nats], ← HV.out, List.length_take, Nat.min_eq_left (by omega)] at e3
        rw [e2] at e1
        have e4 : val (nats ys) / 256 ^ j < 2 ^ r := by
          refine Nat.div_lt_of_lt_mul ?_
          rw [pow256, ← Nat.pow_add, ← hkjr]
          exact e3
        have e5 := Nat.mod_le (val (nats ys) / 256 ^ j) 256
        omega
      have hp7 : 2 ^ r ≤ 2 ^ 7 := pow_le (by omega)
      have hbr : b * 2 ^ r ≤ 128 := by
        have : b * 2 ^ r ≤ 1 * 2 ^ r := Nat.mul_le_mul_right _ (by omega)
        omega
      have e1 : IntKind.u8.wrap ((b : Int) * 2 ^ r) = ((b * 2 ^ r : Nat) : Int) := by
        rw [show (b : Int) * 2 ^ r = ((b * 2 ^ r : Nat) : Int) by simp, IntKind.wrap_u8]; omega
      have e2 : bits BinOp.or IntKind.u8 (y : Int) ((b * 2 ^ r : Nat) : Int) = ((y + b * 2 ^ r : Nat) : Int) := by
        rw [u8_or_nat _ _ (by omega) (by omega), or_shift _ _ _ hyr]
      have hvs := val_set (nats ys) j (b * 2 ^ r) (by rw [nats_length]; omega)
      have hyd : (nats ys).getD j 0 = y := by rw [List.getD_eq_getElem?_getD, hyn]; rfl
      rw [hyd] at hvs
      have hbt := bval_take (nats bs) k b hbn
      have hby : y + b * 2 ^ r < 256 := by omega
      have hpe : b * 2 ^ r * 256 ^ j = b * 2 ^ k := by rw [pow256, Nat.mul_assoc, ← Nat.pow_add, Nat.add_comm r, ← hkjr]
      have HVS := Lib.hid hvs
      have HBT := Lib.hid hbt
      have HPE := Lib.hid hpe
      obtain ⟨u, hu⟩ : ∃ u, y + b * 2 ^ r = u := ⟨_, rfl⟩
      rw [hu] at e2 hby HVS
      obtain ⟨c, hce⟩ : ∃ c, b * 2 ^ r = c := ⟨_, rfl⟩
      rw [hce] at e1 e2
      clear hce
      have HB2 := Lib.hid hby
      have HJM := Lib.hid hjm
      clear ho hv hc hbg hbn hj hr hkjr hyg hyn hyd hvs hbt hpe hu hyc hyf hyl hbr hp7 hyr hby
      go_wp2
      have s1 : (0 : Int) ≤ (j : Int) := by omega
      have s2 : (j : Int) < (m : Int) := by omega
      have s3 : (0 : Int) ≤ (k : Int) := by omega
      have s4 : (k : Int) < (bs.length : Int) := by omega
      have s5 : IntKind.i64.wrap (j : Int) = (j : Int) := IntWalk.i64_in _ (by omega)
      have s6 : IntKind.i64.wrap (r : Int) = (r : Int) := IntWalk.i64_in _ (by omega)
      have s7 : IntKind.u64.wrap (r : Int) = (r : Int) := IntWalk.u64_in _ (by omega)
      have s8 : (k : Int).tmod 8 = (r : Int) := by rw [Int.tmod_eq_emod_of_nonneg (by omega)]; exact hri
      have s9 : min r 8 = r := by omega
      go_still_tail 21, (by kernel_rfl)
      clear s1 s2 s3 s4 s5 s6 s7 s8 s9
      change wpList _ _ _ _ _ wr.drew
      obtain ⟨wd, hwd⟩ : ∃ wd, wr.drew = wd := ⟨_, rfl⟩
      have hod := HO.out.kept ((Kept.refl (fun _ => False) wr).drew) (fun _ _ => id)
      have hkd := hkr.drew
      have hycd : wr.drew.cell? ⟨g, j, none⟩ = some (.int .u8 y) := hycell
      have hyfd : wr.drew.frozen? ⟨g, j, none⟩ = false := hyfr
      rw [hwd] at hod hkd hycd hyfd ⊢
      have HOD := Lib.hid hod
      clear hwd hod hycell hyfr hcell c0r hkr
      go_wp2
      go_roundw
      case rel =>
        have h9 := HOD.out.set (i := j) HJM.out (u : Int)
        refine ⟨k + 1, ys.set j (u : Int), by omega, by go_num, h9, ?_, ?_, hkd.setCell (p := ⟨g, j, none⟩) (.inr (by rw [HG.out]; exact Nat.le_refl _)) _⟩
        · intro n hn
          rcases List.mem_or_eq_of_mem_set hn with h | h
          · exact hy n h
          · have := HB2.out; omega
        · rw [nats_set, HVS.out, HV.out, HBT.out, HPE.out]
      case measure => simp [intOf]; omega
    · obtain rfl : k = bs.length := by omega
      obtain ⟨hyl, -⟩ := ho.at
      have hyl2 : ys.length = (L + 7) / 8 := hyl.trans HM.out.symm
      have HL2 := Lib.hid hyl2
      clear ho hv hyl hyl2
      go_wp2
      go_ret
      refine ⟨_, ys, rfl, HO.out, hy, ?_, HL2.out, hkr, fun b hb => ?_⟩
      · rw [HV.out, List.take_of_length_le (by rw [nats_length]; omega), H6.out]
      · have h9 := Option.some.inj hb; have h8 : g = b := h9; rw [HG.out, h8]; exact Nat.le_refl _
end Go.Proofs.Ytocahkmfopbdlaa
