/- A piece of text: Write. -/
import Derived.Test.YtgmbjebighhgkaaEnd
import Derived.Test.YtgmbjebighhgkaaAppStep
import Derived.Deep.LoopGhost
namespace Go.Proofs.Ytgmbjebighhgkaa
open Go.RowKit
set_option linter.unusedVariables false
set_option linter.unusedSimpArgs false
/-- A slice of bytes that lies in blocks from B on; it is read, not written. -/
def Res (w' : World) (B : Nat) (u : Value) (xs : List Int) : Prop :=
  ∃ b n cap, u = .slice b n cap ∧ SlAt .u8 w' b n xs ∧ n ≤ cap ∧ cap ≤ 9223372036854775807 ∧ (b = none → n = 0 ∧ cap = 0) ∧ ∀ g off, b = some ⟨g, off, none⟩ → B ≤ g
theorem Res.nil (w : World) (B : Nat) : Res w B (.slice none 0 0) [] := ⟨none, 0, 0, rfl, ⟨rfl, .inl rfl⟩, Nat.le_refl _, by omega, fun _ => ⟨rfl, rfl⟩, fun _ _ h => by cases h⟩
theorem Res.of_own {w w' : World} {u : Value} {xs : List Int} (h : Own .u8 5 w' u xs) (hf : Fresh w u) : Res w' w.heap.size u xs := by
  obtain ⟨a, cap, rfl, h1, h2, h3, h4, h5⟩ := h.shape
  refine ⟨a, _, cap, rfl, h1, h2, by unfold maxLen at h3; omega, h4, fun g off hg => ?_⟩
  have := h5 g off hg
  rcases hf with h | ⟨b, h, hb⟩
  · rw [h] at this; cases this
  · rw [h] at this; cases this; exact hb
theorem Res.kept {S : Nat → Prop} {w w' : World} {B : Nat} {u : Value} {xs : List Int} (h : Res w B u xs) (hk : Kept S w w') (hs : ∀ g, B ≤ g → ¬ S g) : Res w' B u xs := by
  obtain ⟨b, n, cap, rfl, h1, h2, h3, h4, h5⟩ := h
  exact ⟨b, n, cap, rfl, h1.kept hk (fun g off _ hb => hs g (h5 g off hb)), h2, h3, h4, h5⟩
theorem Res.mono {w : World} {B B' : Nat} {u : Value} {xs : List Int} (h : Res w B u xs) (hB : B' ≤ B) : Res w B' u xs := by
  obtain ⟨b, n, cap, rfl, h1, h2, h3, h4, h5⟩ := h
  exact ⟨b, n, cap, rfl, h1, h2, h3, h4, fun g off hg => Nat.le_trans hB (h5 g off hg)⟩
set_option maxRecDepth 100000 in
set_option maxHeartbeats 4000000 in
theorem clip_any (b : Option Addr) (n cap : Nat) (w : World) (hc : n ≤ cap) (hm : cap ≤ 9223372036854775807) (hn : b = none → n = 0 ∧ cap = 0) :
    Calls Try.prog 26 #[.slice b n cap] w fun e w' => e = .returned (.slice b n n) ∧ w' = w := by
  go_enter Try.func26, Try.ntmps26
  cases b with
  | none =>
    obtain ⟨rfl, rfl⟩ := hn rfl
    go_wp2
    exact bodyPost_ret (v := .slice none 0 0) (by simp [results, Try.results26, go_sem]) rfl ⟨rfl, rfl⟩
  | some a =>
    have g1 : (n : Int) ≤ cap := by omega
    go_wp2
    exact bodyPost_ret (v := .slice (some a) n n) (by simp [results, Try.results26, go_sem]) rfl ⟨rfl, rfl⟩
theorem put_len {s t : St} {c : Nat} {x : List Nat} (h : put s c = some (t, x)) : x.length ≤ 3 := by
  have key : ∀ w, some (next w) = some (t, x) → x.length ≤ 3 := fun w h => by
    have h2 : (next w).2.length ≤ 3 := by
      unfold next
      split
      · simp
      · simp [out, oct, List.length_take]; omega
    rw [Option.some.inj h] at h2
    exact h2
  unfold put at h
  split at h
  · cases h
  · split at h
    · split at h
      · cases h
      · exact key _ h
    · split at h
      · cases h
      · exact key _ h
theorem run_len {s t : St} {cs x : List Nat} (h : run s cs = some (t, x)) : x.length ≤ 3 * cs.length := by
  induction cs generalizing s t x with
  | nil => cases h; simp
  | cons c cs ih =>
    simp only [run] at h
    cases hp : put s c with
    | none => rw [hp] at h; cases h
    | some p =>
      obtain ⟨t1, x1⟩ := p
      rw [hp] at h
      simp only at h
      cases h1 : run t1 cs with
      | none => rw [h1] at h; cases h
      | some q =>
        obtain ⟨u, y⟩ := q
        rw [h1] at h
        cases h
        have := ih h1
        have := put_len hp
        simp
        omega
theorem run_one (s : St) (c : Nat) : run s [c] = match put s c with
    | none => none
    | some (t, x) => some (t, x) := by
  simp only [run]
  cases put s c with
  | none => rfl
  | some p => simp
theorem take_snoc {l : List Nat} {k c : Nat} (h : l[k]? = some c) : l.take (k + 1) = l.take k ++ [c] := by
  obtain ⟨hk, he⟩ := List.getElem?_eq_some_iff.1 h
  rw [List.take_succ_eq_append_getElem hk, he]
theorem run_step {s t : St} {l x : List Nat} {k c : Nat} (h : run s (l.take k) = some (t, x)) (hc : l[k]? = some c) : run s (l.take (k + 1)) = match put t c with
    | none => none
    | some (u, y) => some (u, x ++ y) := by
  rw [take_snoc hc, run_append, h]
  simp only [run_one]
  cases put t c with
  | none => rfl
  | some p => rfl
theorem run_fell {s : St} {l : List Nat} {k : Nat} (h : run s (l.take k) = none) : run s l = none := by
  have := run_append s (l.take k) (l.drop k)
  rw [List.take_append_drop, h] at this
  exact this
theorem ints_append (x y : List Nat) : ints (x ++ y) = ints x ++ ints y := by simp [ints]
theorem ints_length (x : List Nat) : (ints x).length = x.length := by simp [ints]
theorem tinfo5 : (Try.prog.info? 5).map (fun i => (i.zero, i.size, i.bytes)) = some (some (.int .u8 0), 1, 1) := by kernel_rfl
theorem appended {w wr w5 : World} {a : Nat} {t : St} {v v5 : Value} (hk : Kept (fun i => i = a) w wr) (hd : DAt wr a t) (hf : Fresh w v) (ha : a < w.heap.size) (hk5 : Kept (fun k => v.ownBlock = some k) wr w5) (hpr : v5.ownBlock = v.ownBlock ∨ v5.ownBlock = some wr.heap.size) :
    Kept (fun i => i = a) w w5 ∧ DAt w5 a t ∧ Fresh w v5 := by
  have hs := hk.size
  have hva : ¬ v.ownBlock = some a := by
    rcases hf with h | ⟨g, h, hg⟩
    · rw [h]; simp
    · rw [h]; intro e; have := Option.some.inj e; omega
  refine ⟨hk.trans (hk5.mono fun i _ hi => Or.inr ?_), hd.kept hk5 hva, ?_⟩
  · rcases hf with h | ⟨g, h, hg⟩
    · rw [h] at hi; cases hi
    · rw [h] at hi; have := Option.some.inj hi; omega
  · rcases hpr with h | h
    · rcases hf with h2 | ⟨g, h2, hg⟩
      · exact .inl (h.trans h2)
      · exact .inr ⟨g, h.trans h2, hg⟩
    · exact .inr ⟨_, h, hs⟩
def WPost (a : Nat) (s : St) (bs : List Nat) (w : World) (e : Ending) (w' : World) : Prop :=
  ∃ u, e = .returned (.tuple #[u, .int .i64 (write s bs).2.2]) ∧ Res w' w.heap.size u (ints (write s bs).2.1) ∧ DAt w' a (write s bs).1 ∧ Kept (fun i => i = a) w w'
set_option maxRecDepth 100000 in
set_option maxHeartbeats 8000000 in
theorem write_ok (a : Nat) (s : St) (a0 : Option Addr) (len cap : Nat) (bs : List Nat) (w : World) (h : DAt w a s) (hb : s.bad = false) (hs : SlAt .u8 w a0 len (ints bs)) (hby : ∀ c ∈ bs, c < 256) (hl : len ≤ 65536) (hna : ∀ b off, 0 < len → a0 = some ⟨b, off, none⟩ → b ≠ a) :
    Calls Try.prog 13 #[.pointer (some ⟨a, 0, none⟩), .slice a0 len cap] w (WPost a s bs w) := by
  have hlen : bs.length = len := by rw [← hs.1, ints_length]
  have haw : a < w.heap.size := lt_of_blk h.1
  obtain ⟨i0, hi, hz0, hz1, hz2⟩ := info_parts tinfo5
  have HI := Lib.hid (And.intro hi (And.intro hz0 (And.intro hz1 hz2)))
  have HD := Lib.hid h
  have HS := Lib.hid hs
  have HBY := Lib.hid hby
  have HNA := Lib.hid hna
  have HLN := Lib.hid hlen
  have HB := Lib.hid hb
  clear hi hz0 hz1 hz2 h hs hby hna hlen hb
  go_enter Try.func13, Try.ntmps13
  go_wp2
  go_loopg [6, 13, 8, 9, 10] len (fun gg uv iv _ _ _ wr => ∃ (k : Nat) (t : St) (x : List Nat), len ≤ gg + k ∧ k ≤ len ∧ iv = .int .i64 (k : Int) ∧ run s (bs.take k) = some (t, x) ∧ DAt wr a t ∧ Own .u8 5 wr uv (ints x) ∧ Kept (fun i => i = a) w wr ∧ Fresh w uv)
  case atStart => exact ⟨0, s, [], by omega, by omega, rfl, by simp [run], HD.out, Own.nil _ _ _, Kept.refl _ _, .inl rfl⟩
  case round =>
    obtain ⟨k, t, x, hgg, hkl, rfl, hrun, hd, ho, hk, hf⟩ := hrel
    by_cases hkk : k < len
    · have gkk : decide (k < len) = true := decide_eq_true hkk
      obtain ⟨b, off, rfl, hc⟩ := (HS.out.kept hk (fun b off h0 h => HNA.out b off h0 h)).2.resolve_left (by omega)
      have hck := hc k hkk
      obtain ⟨c, hcc⟩ : ∃ c, bs[k]? = some c := ⟨_, List.getElem?_eq_getElem (by rw [HLN.out]; exact hkk)⟩
      have hc256 : c < 256 := HBY.out c (List.mem_of_getElem? hcc)
      have hcv : (ints bs).getD k 0 = (c : Int) := by simp [ints, hcc]
      rw [hcv] at hck
      have hbt : t.bad = false := run_bad HB.out hrun
      have hstep := run_step hrun hcc
      have hxl := run_len hrun
      rw [List.length_take] at hxl
      have HXL := Lib.hid (show x.length ≤ 196608 by omega)
      have w1 : IntKind.i64.wrap ((k : Int) + 1) = (k : Int) + 1 := IntWalk.i64_in _ (by omega)
      have lk : (k : Int) < (len : Int) := by omega
      have HK := Lib.hid hk
      have HO := Lib.hid ho
      have HF := Lib.hid hf
      clear hc hcv hxl ho hf hk
      cases hp : put t c with
      | none =>
        rw [hp] at hstep
        have hw : write s bs = (broken, [], 3) := by
          unfold write
          rw [HB.out, run_fell hstep]
          rfl
        have HW := Lib.hid hw
        have HP := Lib.hid (put1_none a c t wr hd hc256 hbt hp)
        clear hd hp hstep hrun hw hcc
        go_wp2_with fail
        refine HP.out.mono ?_
        rintro e w1' ⟨rfl, hd1, hk1⟩
        have H1 := Lib.hid (And.intro hd1 (HK.out.then hk1))
        clear hd1 hk1
        go_wp2
        refine bodyPost_ret (v := .tuple #[.slice none 0 0, .int .i64 3]) (by simp [results, Try.results13, go_sem]) rfl ?_
        unfold WPost
        rw [HW.out]
        exact ⟨_, rfl, Res.nil _ _, H1.out.1, H1.out.2⟩
      | some p =>
        obtain ⟨t1, y⟩ := p
        rw [hp] at hstep
        have HST := Lib.hid hstep
        have HYL := Lib.hid (put_len hp)
        have HP := Lib.hid (put1_some a c t t1 y wr hd hc256 hbt hp)
        obtain ⟨ny, hny⟩ : ∃ n, (ints y).length = n := ⟨_, rfl⟩
        clear hd hp hstep hrun hcc
        go_wp2_with fail
        refine HP.out.mono ?_
        rintro e w1' ⟨u1, rfl, ho1, hd1, hk1, hf1⟩
        obtain ⟨ua, ucap, rfl, hus, hun, hum, hu0, -⟩ := ho1.shape
        rw [hny] at hus hu0 hun
        have HU := Lib.hid (And.intro hus hu0)
        have H1 := Lib.hid (And.intro hd1 (And.intro (HK.out.then hk1) hk1))
        have HOW := Lib.hid (HO.out.kept hk1 (fun b hb (hS : b = a) => by
          rcases HF.out with h | ⟨g, h, hg⟩
          · rw [h] at hb; cases hb
          · rw [h] at hb; have := Option.some.inj hb; omega))
        obtain ⟨oa, ocap, rfl, -⟩ := HO.out.shape
        have HFF := Lib.hid (show ((ints x).length + ny) * 1 ≤ 140737488355328 ∧ (ints x).length + ny ≤ maxLen from by
          rw [← hny, ints_length, ints_length]; have := HXL.out; have := HYL.out; simp only [maxLen]; omega)
        try rw [hny]
        clear ho1 hd1 hk1 hf1 hus hu0 hny
        go_wp2_with (at_builtin; refine wpList_appInts rfl (.tmp 26) (.tmp 27) 28 rfl 5 .u8 i0 (.int .u8 0) 1 Try.underlying28 HI.out.1 HI.out.2.1 HI.out.2.2.1 HI.out.2.2.2 rfl (.slice oa (ints x).length ocap) (ints x) rfl HOW.out ua ny ucap (ints y) rfl (by exact HU.out.2) (by exact HU.out.1) HFF.out.1 HFF.out.2 ?_; intro v5 w5 ho5 hk5 hpr5; have HA := Lib.hid (And.intro ho5 (appended H1.out.2.1 H1.out.1 HF.out haw hk5 hpr5)); clear ho5 hk5 hpr5)
        go_roundg (gk - 1)
        case rel => exact ⟨k + 1, t1, x ++ y, by omega, by omega, by simp, HST.out, HA.out.2.2.1, by rw [ints_append]; exact HA.out.1, HA.out.2.1, HA.out.2.2.2⟩
        case measure => omega
    · obtain rfl : k = len := by omega
      have gkk : decide (k < k) = false := decide_eq_false (by omega)
      rw [List.take_of_length_le (by rw [HLN.out]; omega)] at hrun
      have hw : write s bs = (t, x, 0) := by
        unfold write
        rw [HB.out, hrun]
        rfl
      have HW := Lib.hid hw
      have hbt : t.bad = false := run_bad HB.out hrun
      obtain ⟨oa, ocap, rfl, hos, hon, hom, ho0, -⟩ := ho.shape
      obtain ⟨-, -, -, -, ⟨c4, -⟩⟩ := blk5 hd.1
      rw [hbt] at c4
      have HR := Lib.hid (And.intro (Res.of_own ho hf) (And.intro hd hk))
      have HC := Lib.hid (clip_any oa (ints x).length ocap wr hon (by unfold maxLen at hom; omega) ho0)
      clear hrun hw hd ho hk hf hos hon hom ho0 hbt
      go_wp2_with fail
      refine HC.out.mono ?_
      rintro e w1' ⟨rfl, rfl⟩
      go_wp2
      refine bodyPost_ret (v := .tuple #[.slice oa (ints x).length (ints x).length, .int .i64 0]) (by simp [results, Try.results13, go_sem]) rfl ?_
      unfold WPost
      rw [HW.out]
      refine ⟨_, rfl, ?_, HR.out.2.1, HR.out.2.2⟩
      obtain ⟨b, n, cap', e1, e2, e3, e4, e5, e6⟩ := HR.out.1
      cases e1
      exact ⟨_, _, _, rfl, e2, Nat.le_refl _, by omega, fun h => ⟨(e5 h).1, (e5 h).1⟩, e6⟩

/-- A state that comes of use: broken, it is as any broken one. -/
def Sane (s : St) : Prop := s.bad = true → s = broken
theorem sane_of_not {s : St} (h : s.bad = false) : Sane s := fun h2 => by rw [h] at h2; cases h2
theorem sane_fresh : Sane fresh := sane_of_not rfl
theorem sane_broken : Sane broken := fun _ => rfl
theorem write_sane {s : St} (b : List Nat) : Sane (write s b).1 := by
  unfold write
  split
  · exact sane_broken
  · rename_i hb
    cases h : run s b with
    | none => exact sane_broken
    | some p => obtain ⟨t, x⟩ := p; exact sane_of_not (run_bad (by simpa using hb) h)
theorem fin_sane (s : St) : Sane (fin s).1 := by
  unfold fin
  split
  · exact sane_broken
  · exact sane_fresh
set_option maxRecDepth 100000 in
set_option maxHeartbeats 8000000 in
theorem write_bad (a : Nat) (s : St) (a0 : Option Addr) (len cap : Nat) (bs : List Nat) (w : World) (h : DAt w a s) (hb : s.bad = true) (hsa : Sane s) (hs : SlAt .u8 w a0 len (ints bs)) (hby : ∀ c ∈ bs, c < 256) (hl : len ≤ 65536) :
    Calls Try.prog 13 #[.pointer (some ⟨a, 0, none⟩), .slice a0 len cap] w (WPost a s bs w) := by
  have hlen : bs.length = len := by rw [← hs.1, ints_length]
  obtain rfl := hsa hb
  have hw : write broken bs = (broken, [], 3) := rfl
  have HD := Lib.hid h
  have HS := Lib.hid hs
  have HBY := Lib.hid hby
  have HLN := Lib.hid hlen
  have HW := Lib.hid hw
  clear h hs hby hlen hb hsa hw
  go_enter Try.func13, Try.ntmps13
  go_wp2
  go_loopg [6, 13, 8, 9, 10] 0 (fun gg uv iv _ _ _ wr => uv = .slice none 0 0 ∧ iv = .int .i64 0 ∧ wr = w)
  case atStart => exact ⟨rfl, rfl, rfl⟩
  case round =>
    obtain ⟨rfl, rfl, rfl⟩ := hrel
    by_cases hkk : 0 < len
    · have gkk : decide (0 < len) = true := decide_eq_true hkk
      obtain ⟨b, off, rfl, hc⟩ := HS.out.2.resolve_left (by omega)
      have hck := hc 0 hkk
      rw [Nat.add_zero] at hck
      obtain ⟨c, hcc⟩ : ∃ c, bs[0]? = some c := ⟨_, List.getElem?_eq_getElem (by rw [HLN.out]; exact hkk)⟩
      have hc256 : c < 256 := HBY.out c (List.mem_of_getElem? hcc)
      have hcv : (ints bs).getD 0 0 = (c : Int) := by simp [ints, hcc]
      rw [hcv] at hck
      have lk : (0 : Int) < (len : Int) := by omega
      have HP := Lib.hid (put1_bad a c broken wr HD.out rfl)
      clear hc hcv hcc
      go_wp2_with fail
      refine HP.out.mono ?_
      rintro e w1' ⟨rfl, hd1, hk1⟩
      have H1 := Lib.hid (And.intro hd1 hk1)
      clear hd1 hk1
      go_wp2
      refine bodyPost_ret (v := .tuple #[.slice none 0 0, .int .i64 3]) (by simp [results, Try.results13, go_sem]) rfl ?_
      unfold WPost
      rw [HW.out]
      exact ⟨_, rfl, Res.nil _ _, H1.out.1, H1.out.2⟩
    · obtain rfl : len = 0 := by omega
      obtain ⟨-, -, -, -, ⟨c4, -⟩⟩ := blk5 HD.out.1
      have c4' : wr.cell? ⟨a, 4, none⟩ = some (.bool true) := c4
      clear c4
      go_wp2
      refine bodyPost_ret (v := .tuple #[.slice none 0 0, .int .i64 3]) (by simp [results, Try.results13, go_sem]) rfl ?_
      unfold WPost
      rw [HW.out]
      exact ⟨_, rfl, Res.nil _ _, HD.out, Kept.refl _ _⟩
theorem write_any (a : Nat) (s : St) (a0 : Option Addr) (len cap : Nat) (bs : List Nat) (w : World) (h : DAt w a s) (hsa : Sane s) (hs : SlAt .u8 w a0 len (ints bs)) (hby : ∀ c ∈ bs, c < 256) (hl : len ≤ 65536) (hna : ∀ b off, 0 < len → a0 = some ⟨b, off, none⟩ → b ≠ a) :
    Calls Try.prog 13 #[.pointer (some ⟨a, 0, none⟩), .slice a0 len cap] w (WPost a s bs w) := by
  by_cases hb : s.bad = true
  · exact write_bad a s a0 len cap bs w h hb hsa hs hby hl
  · exact write_ok a s a0 len cap bs w h (by simpa using hb) hs hby hl hna
end Go.Proofs.Ytgmbjebighhgkaa
