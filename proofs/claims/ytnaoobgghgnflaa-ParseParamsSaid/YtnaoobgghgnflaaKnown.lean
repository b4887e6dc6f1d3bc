/- known: a sequence, the beginning of an image. -/
import Derived.Test.YtnaoobgghgnflaaF13
import Derived.Lib.SlBytesConst
namespace Go.Proofs.Ytnaoobgghgnflaa
open Go.RowKit Pl
set_option linter.unusedVariables false
set_option linter.unusedSimpArgs false
def kx : List Int := [97, 27, 91, 49, 59, 50, 72, 27, 80, 113, 35, 48, 126]
def ky : List Int := [27, 92]
def kS : PS := (feedF 13 ps0 kx).1
theorem known_ev : (feedF 13 ps0 kx).2 = [evX 1 97 0, ⟨4, 0, 72, 0, strOfNums [], [1, 2], []⟩, ⟨6, 0, 113, 0, strOfNums [], [], []⟩, ⟨7, 0, 0, 0, ByteArray.empty, [], [35, 48, 126]⟩] := by kernel_rfl
theorem known_ev2 : (feedF 2 kS ky).2 = [evX 8 0 1] := by kernel_rfl
theorem known_gr : groundB (feedF 2 kS ky).1 = true := by kernel_rfl
theorem known_ap : Apart [evX 1 97 0, ⟨4, 0, 72, 0, strOfNums [], [1, 2], []⟩, ⟨6, 0, 113, 0, strOfNums [], [], []⟩, ⟨7, 0, 0, 0, ByteArray.empty, [], [35, 48, 126]⟩] := by
  intro j e f h1 h2 h3
  rcases j with _ | _ | _ | _ | j
  · simp at h1 h2; subst h1 h2; simp [evX] at h3
  · simp at h1 h2; subst h1 h2; simp at h3
  · simp at h1 h2; subst h1 h2; simp at h3
  · simp at h2
  · simp at h2
theorem slAt_blk8 {w : World} {b : Nat} {xs : List Int} {C : Array Value} {n : Nat} {m : Nat × Nat} (h : w.heap[b]? = some (.cells C 5 m)) (hC : C = (xs.map (Value.int .u8)).toArray) (hn : xs.length = n) : SlAt .u8 w (some ⟨b, 0, none⟩) n xs := by
  refine ⟨hn, .inr ⟨b, 0, rfl, fun j hj => ?_⟩⟩
  have h2 : j < xs.length := by omega
  simp [World.cell?, h, hC, h2]
set_option maxRecDepth 100000 in
set_option maxHeartbeats 8000000 in
theorem known_any (W : World) : Calls Try.prog 7 #[] W fun e w' => e = .returned (.bool true) ∧ Kept (fun _ => False) W w' := by
  have kc := fun (w : World) (C : Array Value) (n c : Nat) => Lib.run_convert_bytes_const (P := Try.prog) w 22 5 C n c Try.underlying22 Try.underlying5
  go_enter Try.func7, Try.ntmps7
  go_wp2_with fail
  refine (new_any W).mono ?_
  rintro r w1 ⟨p, G, rfl, hP1, hG1, hk1⟩
  obtain ⟨W2, hW2⟩ : ∃ W2, w1.alloc (.cells #[.int .u8 97, .int .u8 27, .int .u8 91, .int .u8 49, .int .u8 59, .int .u8 50, .int .u8 72, .int .u8 27, .int .u8 80, .int .u8 113, .int .u8 35, .int .u8 48, .int .u8 126] 5 (13, 14)) = W2 := ⟨_, rfl⟩
  have hk2 : Kept (fun _ => False) w1 W2 := by rw [← hW2]; exact (Kept.refl _ _).alloc _
  have hb2 : W2.heap[w1.heap.size]? = some (.cells #[.int .u8 97, .int .u8 27, .int .u8 91, .int .u8 49, .int .u8 59, .int .u8 50, .int .u8 72, .int .u8 27, .int .u8 80, .int .u8 113, .int .u8 35, .int .u8 48, .int .u8 126] 5 (13, 14)) := by rw [← hW2]; exact blk_new w1 _
  have hz2 : W2.heap.size = w1.heap.size + 1 := by rw [← hW2]; simp
  have HF := Lib.hid (feed_any G W2 p ps0 (some ⟨w1.heap.size, 0, none⟩) 13 13 kx (hP1.kept hk2 (fun _ _ h => h)) (slAt_blk8 hb2 (by rfl) (by rfl)) (by unfold kx; intro x hx; simp at hx; omega) (fun h => by cases h) (by omega) (by omega) (fun b off _ h => by cases h; exact ⟨fun hg => by have := hP1.lt _ hg; omega, by omega⟩))
  have H2 := Lib.hid (And.intro (hk1.then hk2) hG1)
  clear hP1 hG1 hk1 hk2 hb2 hz2
  go_wp2_with fail
  refine HF.out.mono ?_
  rintro r w3 ⟨v3, G3, rfl, hev3, hP3, hG3, hk3⟩
  obtain ⟨Vs3, ho3, hel3, hm3⟩ := hev3
  rw [known_ev] at hel3
  have hl3 := hel3.length
  obtain ⟨a3, c3, hv3, hs3, -, -, -, hob3⟩ := ho3.shape
  rw [hl3] at hv3 hs3
  subst hv3
  have HJ := Lib.hid (join_any w3 a3 4 c3 Vs3 _ hs3 (hel3.kept (Kept.refl (fun _ => False) w3) (fun _ _ h => h.elim) (fun _ h => h.elim)) known_ap (by omega) (by intro e he; simp at he; rcases he with rfl | rfl | rfl | rfl <;> simp [evX]))
  have hkW3 : Kept (fun _ => False) W w3 := H2.out.1.trans (hk3.mono fun i _ h => Or.inr (H2.out.2 i h))
  have hG3W : ∀ i, G3 i → W.heap.size ≤ i := fun i hi => by
    rcases hG3 i hi with h | h
    · exact H2.out.2 i h
    · have := H2.out.1.size; omega
  have H3 := Lib.hid (And.intro hP3 (And.intro hkW3 hG3W))
  clear ho3 hel3 hm3 hs3 hob3 hP3 hG3 hk3 hkW3 hG3W hl3
  go_wp2_with fail
  refine HJ.out.mono ?_
  rintro r w4 ⟨a4, c4, Vs4, rfl, hs4, hel4, hb4, hk4⟩
  obtain ⟨W5, hW5⟩ : ∃ W5, w4.alloc (.cells #[.int .u8 27, .int .u8 92] 5 (2, 3)) = W5 := ⟨_, rfl⟩
  have hk5 : Kept (fun _ => False) w4 W5 := by rw [← hW5]; exact (Kept.refl _ _).alloc _
  have hb5 : W5.heap[w4.heap.size]? = some (.cells #[.int .u8 27, .int .u8 92] 5 (2, 3)) := by rw [← hW5]; exact blk_new w4 _
  have hz5 : W5.heap.size = w4.heap.size + 1 := by rw [← hW5]; simp
  have hP5 : PQ G3 W5 p kS := (H3.out.1.kept hk4 (fun _ _ h => h)).kept hk5 (fun _ _ h => h)
  have HF2 := Lib.hid (feed_any G3 W5 p kS (some ⟨w4.heap.size, 0, none⟩) 2 2 ky hP5 (slAt_blk8 hb5 (by rfl) (by rfl)) (by unfold ky; intro x hx; simp at hx; omega) (fun h => by cases h) (by omega) (by omega) (fun b off _ h => by cases h; exact ⟨fun hg => by have := H3.out.1.lt _ hg; have := hk4.size; omega, by omega⟩))
  have hG3lt : ∀ i, G3 i → i < w3.heap.size := H3.out.1.lt
  have H5 := Lib.hid (And.intro hs4 (And.intro hel4 (And.intro hb4 (And.intro hk4 (And.intro hk5 (And.intro hG3lt (And.intro hz5 hP5)))))))
  clear hs4 hel4 hb4 hk4 hk5 hb5 hz5 hP5 hG3lt
  go_wp2_with fail
  refine HF2.out.mono ?_
  rintro r w6 ⟨v6, G6, rfl, hev6, hP6, hG6, hk6⟩
  obtain ⟨Vs6, ho6, hel6, hm6⟩ := hev6
  rw [known_ev2] at hel6
  have hl6 := hel6.length
  obtain ⟨a6, c6, hv6, hs6, -, -, -, -⟩ := ho6.shape
  rw [hl6] at hv6 hs6
  subst hv6
  -- the joined events, as they stand now
  have hk46 : Kept G3 w4 w6 := (H5.out.2.2.2.2.1.mono (fun _ _ h => h.elim)).then hk6
  obtain ⟨hs4, hel4, hb4, hk4, -, hlt, -, -⟩ := H5.out
  have hnG : ∀ i, w3.heap.size ≤ i → ¬ G3 i := fun i hi hg => by have := hlt i hg; omega
  have hl4 := hel4.length
  have hel6' := hel4.kept (M' := fun i => i < w3.heap.size) hk46 (fun i _ h => hlt i h) (fun i h => .inl h)
  obtain ⟨u0, hu0⟩ : ∃ u, Vs4[0]? = some u := ⟨_, List.getElem?_eq_getElem (by rw [hl4]; simp)⟩
  obtain ⟨u1, hu1⟩ : ∃ u, Vs4[1]? = some u := ⟨_, List.getElem?_eq_getElem (by rw [hl4]; simp)⟩
  obtain ⟨u2, hu2⟩ : ∃ u, Vs4[2]? = some u := ⟨_, List.getElem?_eq_getElem (by rw [hl4]; simp)⟩
  obtain ⟨u3, hu3⟩ : ∃ u, Vs4[3]? = some u := ⟨_, List.getElem?_eq_getElem (by rw [hl4]; simp)⟩
  obtain ⟨x0, hx0⟩ : ∃ u, Vs6[0]? = some u := ⟨_, List.getElem?_eq_getElem (by rw [hl6]; simp)⟩
  obtain ⟨b4, o4, rfl, p0⟩ := pat_of hs4 hu0
  obtain ⟨b4', o4', he1, p1⟩ := pat_of hs4 hu1
  cases he1
  obtain ⟨b4', o4', he2, p2⟩ := pat_of hs4 hu2
  cases he2
  obtain ⟨b4', o4', he3, p3⟩ := pat_of hs4 hu3
  cases he3
  have hnb := hnG b4 (hb4 b4 o4 rfl)
  obtain ⟨b6, o6, rfl, z0⟩ := pat_of hs6 hx0
  obtain ⟨-, c01, -⟩ := (p0.kept hk46 hnb).cells
  obtain ⟨-, -, c12, -, -, c15, -⟩ := (p1.kept hk46 hnb).cells
  obtain ⟨c20, -⟩ := (p2.kept hk46 hnb).cells
  obtain ⟨-, -, -, -, -, -, c36⟩ := (p3.kept hk46 hnb).cells
  obtain ⟨d00, -, d02, -⟩ := z0.cells
  obtain ⟨e0, he0, ht0⟩ := hel6'.get hu0
  obtain ⟨e1, he1, ht1⟩ := hel6'.get hu1
  obtain ⟨e2, he2, ht2⟩ := hel6'.get hu2
  obtain ⟨e3, he3, ht3⟩ := hel6'.get hu3
  obtain ⟨f0, hf0, hy0⟩ := hel6.get hx0
  simp at he0 he1 he2 he3 hf0
  subst he0 he1 he2 he3 hf0
  have q01 : u0.r = 97 := ht0.2.1
  have q12 : u1.b = 72 := ht1.2.2.1
  have q20 : u2.k = 6 := ht2.1
  have q00 : x0.k = 8 := hy0.1
  have q02 : x0.b = 1 := hy0.2.2.1
  rw [q01] at c01
  rw [q12] at c12
  rw [q20] at c20
  rw [q00] at d00
  rw [q02] at d02
  have d00' : w6.cell? ⟨b6, o6, none⟩ = some (.int .i64 8) := by simpa using d00
  have d02' : w6.cell? ⟨b6, o6 + 2, none⟩ = some (.int .u8 1) := by simpa using d02
  have hps := ht1.2.2.2.2.2.1
  have hds := ht3.2.2.2.2.2.2.1
  obtain ⟨pb, po, hpe, hpc⟩ := hps.2.resolve_left (by have := hps.1; simp at this; omega)
  have hpl : u1.np = 2 := by have := hps.1; simp at this; omega
  have hdl : u3.nd = 3 := by have := hds.1; simp at this; omega
  have hp1 := hpc 1 (by omega)
  simp at hp1
  rw [hpe, hpl] at c15
  rw [hdl] at c36 hds
  have cv := run_str (P := Try.prog) Try.underlying22 Try.underlying5 Try.underlying9 hds (len := 3) (cap := u3.cd)
  have cv0 : (convert 22 9 (.slice u3.ad 3 u3.cd)).run Try.prog w6 = .ok (.string ⟨#[35, 48, 126]⟩) w6 := cv
  have HGR := Lib.hid (show Calls Try.prog 10 #[.pointer (some ⟨p, 0, none⟩)] w6 fun r w' => r = .returned (.bool true) ∧ w' = w6 from by
    have h := isground_any G6 w6 p _ hP6
    rw [known_gr] at h
    exact h)
  have HKZ := Lib.hid (show Kept (fun _ => False) W w6 from (H3.out.2.1.then H5.out.2.2.2.1).trans (hk46.mono fun i _ h => Or.inr (H3.out.2.2 i h)))
  clear hk46 hs4 hel4 hb4 hk4 hlt hnG hl4 hel6' hu0 hu1 hu2 hu3 hx0 p0 p1 p2 p3 hnb z0 ht0 ht1 ht2 ht3 hy0 q01 q12 q20 q00 q02 hps hds hpe hpc hpl hdl cv ho6 hel6 hm6 hs6 hP6 hG6 hk6 hl6
  go_wp2_with fail
  refine HGR.out.mono ?_
  rintro r w7 ⟨rfl, rfl⟩
  go_wp2
  go_ret
  exact ⟨rfl, HKZ.out⟩
end Go.Proofs.Ytnaoobgghgnflaa
