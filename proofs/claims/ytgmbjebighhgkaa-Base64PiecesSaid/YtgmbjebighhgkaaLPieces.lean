/- Any texts in any pieces: the law walked. -/
import Derived.Test.YtgmbjebighhgkaaRDec
import Derived.Test.YtgmbjebighhgkaaPieces
import Derived.Deep.LoopGhost
namespace Go.Proofs.Ytgmbjebighhgkaa
open Go.RowKit
set_option linter.unusedVariables false
set_option linter.unusedSimpArgs false
theorem DC.lt {w : World} {a v n f : Nat} {o b : Bool} (h : DC w a v n f o b) : a < w.heap.size := lt_of_blk h
theorem DAt.lt {w : World} {a : Nat} {s : St} (h : DAt w a s) : a < w.heap.size := lt_of_blk h.1
theorem Own.apart {w w' : World} {u : Value} {xs : List Int} {q : Nat} {wr : World} (h : Own .u8 5 w u xs) (hf : Fresh wr u) (hq : q < wr.heap.size) (hk : Kept (fun i => i = q) w w') : Own .u8 5 w' u xs :=
  h.kept hk (fun b hb (hS : b = q) => by
    rcases hf with h | ⟨g, h, hg⟩
    · rw [h] at hb; cases hb
    · rw [h] at hb; have := Option.some.inj hb; omega)
/-- Both decoders in one state. -/
structure Both (w wr : World) (p q : Nat) (s : St) (o : Option Nat) : Prop where
  d : DAt wr p s
  r : RD wr q s o
  sane : Sane s
  small : Small s
  kept : Kept (fun _ => False) w wr
  ne : q ≠ p
  op : o ≠ some p
  hp : w.heap.size ≤ p
  hq : w.heap.size ≤ q
  ho : ∀ b, o = some b → w.heap.size ≤ b
set_option maxRecDepth 100000 in
set_option maxHeartbeats 16000000 in
theorem pieces_go (a : Option Addr) (len cap : Nat) (R : Nat → PieceR) (w : World) (h : IsPieces w a len R) (hl : len ≤ 9223372036854775807) :
    Calls Try.prog 3 #[.slice a len cap] w fun e w' => e = .returned (.bool true) ∧ Kept (fun _ => False) w w' := by
  have H := Lib.hid h
  clear h
  go_enter Try.func3, Try.ntmps3
  go_wp2_with fail
  refine (known_any w).mono ?_
  rintro e w1 ⟨rfl, hk1⟩
  have HK1 := Lib.hid hk1
  have HFW := Lib.hid (few_any a len cap R w1 (H.out.kept hk1 (fun _ _ => id)) hl)
  clear hk1
  unfold FewPost at HFW
  go_wp2_with fail
  refine HFW.out.mono ?_
  rintro e w1' ⟨b, rfl, hfw, rfl⟩
  cases b with
  | false =>
    go_wp2
    exact bodyPost_ret (v := .bool true) (by simp [results, Try.results3, go_sem]) rfl ⟨rfl, HK1.out⟩
  | true =>
  have hsm := hfw rfl
  have HSM := Lib.hid hsm
  have hlen : len ≤ 4096 := by have := sumL_le R len len; omega
  clear hsm hfw HFW
  go_wp2_with fail
  refine (new_any w1).mono ?_
  rintro e w2 ⟨rfl, hd2, hk2⟩
  obtain ⟨p, hp⟩ : ∃ p, w1.heap.size = p := ⟨_, rfl⟩
  rw [hp] at hd2 ⊢
  obtain ⟨q, hq⟩ : ∃ q, w2.heap.size = q := ⟨_, rfl⟩
  have hpq : p < q := by rw [← hq]; exact hd2.lt
  obtain ⟨W0, hW0⟩ : ∃ W0, w2.alloc (.cells #[.slice none 0 0, .bool false, .bool false] 30) = W0 := ⟨_, rfl⟩
  have hB : Both w W0 p q fresh none := by
    have h0 := HK1.out.size
    refine ⟨?_, ?_, sane_fresh, small_fresh, ?_, by omega, by simp, by omega, by omega, fun b h => by cases h⟩
    · rw [← hW0]; exact (fresh_dc hd2).kept ((Kept.refl (fun _ => False) _).alloc _) id
    · rw [← hW0, ← hq]; exact rd_fresh w2
    · rw [← hW0]; exact (HK1.out.then hk2).alloc _
  have HBT := Lib.hid hB
  clear hd2 hk2 hB hp hpq
  go_wp2
  try rw [hq]
  clear hW0 hq
  go_loopg [4, 5, 6, 7, 8, 9, 10, 11, 12, 13, 65, 87] len (fun gg tv iv _ _ _ _ _ _ _ _ _ _ wr => ∃ (k q : Nat) (s : St) (o : Option Nat), len ≤ gg + k ∧ k ≤ len ∧ iv = .int .i64 k ∧ tv = .pointer (some ⟨q, 0, none⟩) ∧ Both w wr p q s o)
  case atStart => exact ⟨0, q, fresh, none, by omega, by omega, rfl, rfl, HBT.out⟩
  case round =>
    clear HBT
    obtain ⟨k, q, s, o, hgg, hkl, rfl, rfl, hB⟩ := hrel
    have HBT := Lib.hid hB
    have w1' : IntKind.i64.wrap ((k : Int) + 1) = (k : Int) + 1 := IntWalk.i64_in _ (by omega)
    by_cases hk : k < len
    · have gk0 : decide (k < len) = true := decide_eq_true hk
      obtain ⟨lb, loff, rfl, hlb, hc⟩ := H.out.resolve_left (by omega)
      obtain ⟨cK, cS, wK, hr⟩ := hc k hk
      have cK := hB.kept.cell cK id
      have cS := hB.kept.cell cS id
      have hzl : (R k).len ≤ 4096 := Nat.le_trans (sumL_mono R len hk) HSM.out
      obtain ⟨bs, hsl, hwf, -, -, -, hbl, -⟩ := row_ints hr
      have HSL := Lib.hid (And.intro hsl (And.intro hwf hbl))
      obtain ⟨kk, hkk⟩ : ∃ z, (R k).K = z := ⟨_, rfl⟩
      obtain ⟨pa, hpa⟩ : ∃ z, (R k).a = z := ⟨_, rfl⟩
      obtain ⟨pl, hpl⟩ : ∃ z, (R k).len = z := ⟨_, rfl⟩
      obtain ⟨pc, hpc⟩ : ∃ z, (R k).cap = z := ⟨_, rfl⟩
      rw [hkk] at cK
      rw [hpa, hpl, hpc] at cS
      rw [hpa, hpl] at HSL
      rw [hpl] at hzl
      clear hB hc wK hr hkk hpa hpl hpc hsl hwf hbl
      by_cases h1 : kk = 1
      · subst h1
        have HE := Lib.hid (end_any p s wr HBT.out.d)
        go_wp2_with fail
        refine HE.out.mono ?_
        rintro e w3 ⟨u, rfl, ho3, hd3, hk3, hf3⟩
        have hr3 : RD w3 q s o := HBT.out.r.kept hk3 HBT.out.ne (fun b hb (hS : b = p) => HBT.out.op (by rw [hb, hS]))
        have HF := Lib.hid (rend_any q s o w3 hr3 HBT.out.sane HBT.out.small)
        have H3 := Lib.hid (And.intro ho3 (And.intro hd3 (And.intro hk3 hf3)))
        clear ho3 hd3 hk3 hf3 hr3 cS
        unfold REPost at HF
        go_wp2_with fail
        refine HF.out.mono ?_
        rintro e wz ⟨v, rfl, ho4, ⟨o', hr4, ho'⟩, hk4, hf4⟩
        have hqlt := HBT.out.r.lt.1
        have HZ : Hid (Both w wz p q (fin s).1 o') := Lib.hid ⟨H3.out.2.1.kept hk4 (fun h => HBT.out.ne h.symm), hr4, fin_sane s, fin_small s, HBT.out.kept.trans ((H3.out.2.2.1.mono fun i _ (hi : i = p) => Or.inr (by have := HBT.out.hp; omega)).then (hk4.mono fun i _ (hi : i = q) => Or.inr (by have := HBT.out.hq; omega))), HBT.out.ne, (by rcases ho' with h | h <;> rw [h]; (exact HBT.out.op); simp), HBT.out.hp, HBT.out.hq, (by rcases ho' with h | h <;> rw [h]; (exact HBT.out.ho); (intro b h; cases h))⟩
        have HU1 := Lib.hid (Res.of_own (H3.out.1.apart H3.out.2.2.2 hqlt hk4) H3.out.2.2.2)
        have HU2 := Lib.hid (Res.of_own ho4 hf4)
        clear ho4 hr4 ho' hk4 hf4 hqlt
        obtain ⟨b1, n1', cp1, rfl, cv1⟩ := res_str HU1.out
        obtain ⟨b2, n2', cp2, rfl, cv2⟩ := res_str HU2.out
        obtain ⟨SS, hSS⟩ : ∃ SS, strOfNums (ints (fin s).2.1) = SS := ⟨_, rfl⟩
        rw [hSS] at cv1 cv2
        have sne : (SS.toList == SS.toList) = true := by simp
        obtain ⟨er, her⟩ : ∃ er, (fin s).2.2 = er := ⟨_, rfl⟩
        rw [her]
        have ne1 : ((er : Int) != (er : Int)) = false := by simp
        clear hSS her
        obtain ⟨s', hs'⟩ : ∃ s', (fin s).1 = s' := ⟨_, rfl⟩
        rw [hs'] at HZ
        have HH := Lib.hid (held_any p _ _ _ _ _ wz HZ.out.d.1)
        have HG := Lib.hid (rheld_any q s' o' wz HZ.out.r)
        obtain ⟨nh, hnh⟩ : ∃ nh, s'.wait.length = nh := ⟨_, rfl⟩
        rw [hnh] at HH HG
        have ne0 : ((nh : Int) != (nh : Int)) = false := by simp
        clear hnh
        go_wp2_with fail
        refine HH.out.mono ?_
        rintro e wh ⟨rfl, rfl⟩
        go_wp2_with fail
        refine HG.out.mono ?_
        rintro e wh ⟨rfl, rfl⟩
        go_wp2
        go_roundg (gk - 1)
        case rel => exact ⟨k + 1, q, s', o', by omega, by omega, by simp, rfl, HZ.out⟩
        case measure => omega
      by_cases h2 : kk = 2
      · subst h2
        have HE := Lib.hid (reset_any p _ _ _ _ _ wr HBT.out.d.1)
        go_wp2_with fail
        refine HE.out.mono ?_
        rintro e w3 ⟨rfl, hd3, hk3⟩
        obtain ⟨q', hq'⟩ : ∃ q', w3.heap.size = q' := ⟨_, rfl⟩
        obtain ⟨wz, hwz⟩ : ∃ wz, w3.alloc (.cells #[.slice none 0 0, .bool false, .bool false] 30) = wz := ⟨_, rfl⟩
        have hpl3 : p < q' := by rw [← hq']; exact hd3.lt
        have HZ : Hid (Both w wz p q' fresh none) := Lib.hid (by
          refine ⟨?_, ?_, sane_fresh, small_fresh, ?_, by omega, by simp, HBT.out.hp, by have := HBT.out.hp; omega, fun b h => by cases h⟩
          · rw [← hwz]; exact (fresh_dc hd3).kept ((Kept.refl (fun _ => False) _).alloc _) id
          · rw [← hwz, ← hq']; exact rd_fresh w3
          · rw [← hwz]; exact (HBT.out.kept.trans (hk3.mono fun i _ (hi : i = p) => Or.inr (by have := HBT.out.hp; omega))).alloc _)
        clear hd3 hk3 hpl3 cS
        have hs0 : (fresh).wait.length = 0 := rfl
        have HH := Lib.hid (held_any p _ _ _ _ _ wz HZ.out.d.1)
        have HG := Lib.hid (rheld_any q' fresh none wz HZ.out.r)
        rw [hs0] at HH HG
        have ne0 : ((((0 : Nat) : Int)) != ((0 : Nat) : Int)) = false := by simp
        go_wp2_with fail
        try rw [hq']
        clear hwz hq'
        refine HH.out.mono ?_
        rintro e wh ⟨rfl, rfl⟩
        go_wp2_with fail
        refine HG.out.mono ?_
        rintro e wh ⟨rfl, rfl⟩
        go_wp2
        go_roundg (gk - 1)
        case rel => exact ⟨k + 1, q', fresh, none, by omega, by omega, by simp, rfl, HZ.out⟩
        case measure => omega
      · have n1 : (kk == 1) = false := by simp [h1]
        have n2 : (kk == 2) = false := by simp [h2]
        clear h1 h2
        have hby := HSL.out.2.1
        have HE := Lib.hid (write_any p s pa pl pc bs wr HBT.out.d HBT.out.sane (HSL.out.1.kept HBT.out.kept (fun _ _ _ _ => id)) hby (by omega) (fun b off h0 he => by have := HSL.out.2.2 b off h0 he; have := HBT.out.hp; omega))
        have HBY := Lib.hid hby
        unfold WPost at HE
        clear hby
        go_wp2_with fail
        refine HE.out.mono ?_
        rintro e w3 ⟨u, rfl, ho3, hd3, hk3⟩
        have hr3 : RD w3 q s o := HBT.out.r.kept hk3 HBT.out.ne (fun b hb (hS : b = p) => HBT.out.op (by rw [hb, hS]))
        have hk03 : Kept (fun _ => False) w w3 := HBT.out.kept.trans (hk3.mono fun i _ (hi : i = p) => Or.inr (by have := HBT.out.hp; omega))
        have HF := Lib.hid (rwrite_any q s o pa pl pc bs w3 hr3 HBT.out.sane HBT.out.small (HSL.out.1.kept hk03 (fun _ _ _ _ => id)) HBY.out (by omega) (fun b off h0 he => by have := HSL.out.2.2 b off h0 he; exact ⟨by have := HBT.out.hq; omega, fun h => by have := HBT.out.ho b h; omega⟩))
        have hlbp : lb ≠ p := by have := HBT.out.hp; omega
        have cS3 := hk3.cell cS hlbp
        have H3 := Lib.hid (And.intro ho3 (And.intro hd3 (And.intro hk3 hk03)))
        clear ho3 hd3 hk3 hr3 hk03 cS hlbp
        unfold RPost at HF
        go_wp2_with fail
        refine HF.out.mono ?_
        rintro e wz ⟨v, o', rfl, ho4, hr4, he4, hf4⟩
        have hqlt := HBT.out.r.lt
        have HZ : Hid (Both w wz p q (write s bs).1 o') := Lib.hid ⟨H3.out.2.1.kept he4.1 (fun h => by rcases h with h | h; (exact HBT.out.ne h.symm); exact HBT.out.op h), hr4, write_sane bs, write_small HBT.out.small HBY.out, H3.out.2.2.2.trans (he4.1.mono fun i _ hi => Or.inr (by rcases hi with h | h; (have := HBT.out.hq; omega); exact HBT.out.ho i h)), HBT.out.ne, (by
          rcases he4.2 with h | h | ⟨b, h, hb⟩
          · rw [h]; exact HBT.out.op
          · rw [h]; simp
          · rw [h]; intro e; have := Option.some.inj e; have := H3.out.2.1.lt; omega), HBT.out.hp, HBT.out.hq, (by
          intro c hc
          rcases he4.2 with h | h | ⟨b, h, hb⟩
          · exact HBT.out.ho c (by rw [← h]; exact hc)
          · rw [h] at hc; cases hc
          · rw [h] at hc; have := Option.some.inj hc; have := H3.out.2.2.2.size; omega)⟩
        have HU1 := Lib.hid (H3.out.1.kept he4.1 (fun g hg hS => by rcases hS with h | h; (have := hqlt.1; omega); (have := hqlt.2 g h; omega)))
        have HU2 := Lib.hid (Res.of_own ho4 hf4)
        clear ho4 hr4 he4 hf4 hqlt cS3
        obtain ⟨b1, n1', cp1, rfl, cv1⟩ := res_str HU1.out
        obtain ⟨b2, n2', cp2, rfl, cv2⟩ := res_str HU2.out
        obtain ⟨SS, hSS⟩ : ∃ SS, strOfNums (ints (write s bs).2.1) = SS := ⟨_, rfl⟩
        rw [hSS] at cv1 cv2
        have sne : (SS.toList == SS.toList) = true := by simp
        obtain ⟨er, her⟩ : ∃ er, (write s bs).2.2 = er := ⟨_, rfl⟩
        rw [her]
        have ne1 : ((er : Int) != (er : Int)) = false := by simp
        clear hSS her
        obtain ⟨s', hs'⟩ : ∃ s', (write s bs).1 = s' := ⟨_, rfl⟩
        rw [hs'] at HZ
        have HH := Lib.hid (held_any p _ _ _ _ _ wz HZ.out.d.1)
        have HG := Lib.hid (rheld_any q s' o' wz HZ.out.r)
        obtain ⟨nh, hnh⟩ : ∃ nh, s'.wait.length = nh := ⟨_, rfl⟩
        rw [hnh] at HH HG
        have ne0 : ((nh : Int) != (nh : Int)) = false := by simp
        clear hnh
        go_wp2_with fail
        refine HH.out.mono ?_
        rintro e wh ⟨rfl, rfl⟩
        go_wp2_with fail
        refine HG.out.mono ?_
        rintro e wh ⟨rfl, rfl⟩
        go_wp2
        go_roundg (gk - 1)
        case rel => exact ⟨k + 1, q, s', o', by omega, by omega, by simp, rfl, HZ.out⟩
        case measure => omega
    · have gk0 : decide (k < len) = false := decide_eq_false hk
      go_wp2
      exact bodyPost_ret (v := .bool true) (by simp [results, Try.results3, go_sem]) rfl ⟨rfl, HBT.out.kept⟩
theorem law_pieces {a : Option Addr} {len cap : Nat} {R : Nat → PieceR} {w : World} (f0 : IsPieces w a len R ∧ len ≤ cap ∧ cap ≤ maxLen) :
    Calls Try.prog 3 #[.slice a len cap] w fun e w' => e = .returned (.bool true) ∧ Below w.heap.size w w' :=
  (pieces_go a len cap R w f0.1 (by have := f0.2.2; unfold maxLen at this; omega)).mono fun e w' ⟨h, k⟩ => ⟨h, k.below⟩
end Go.Proofs.Ytgmbjebighhgkaa
