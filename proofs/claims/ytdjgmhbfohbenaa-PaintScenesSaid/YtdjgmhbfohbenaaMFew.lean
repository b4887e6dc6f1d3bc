/- Several texts in one: FewD, OpS. -/
import Derived.Test.YtdjgmhbfohbenaaMayD
import Derived.Test.YtdjgmhbfohbenaaImgsD
import Derived.Maps.RangeRun
import Derived.Deep.DeepCutAuto
import Derived.Test.YtdjgmhbfohbenaaMOne
import Derived.ProofKit
import Derived.OpenShut
import Derived.ChangeOld
import Derived.Lib.SmallJoins
import Derived.Deep.Slices
import Derived.Deep.Fields
import Derived.WideKeyElems2
namespace Go.Proofs.Ytdjgmhbfohbenaa
open Go.RowKit Go.Sort Pl
set_option linter.unusedVariables false
set_option linter.unusedSimpArgs false
theorem blkSet {w : World} {r : Nat} {o o' : Obj} (h : w.heap[r]? = some o) : (ChangeMaps.setBlock w r o').heap[r]? = some o' := by
  have := lt_of_blk h
  show (w.heap.setIfInBounds r o')[r]? = _
  simp [this]
theorem Kept.setBlock {w : World} (r : Nat) (o : Obj) : Kept (fun i => i = r) w (ChangeMaps.setBlock w r o) := by
  refine ⟨rfl, rfl, rfl, ?_, fun k hk hn => ?_⟩
  · show w.heap.size ≤ (w.heap.setIfInBounds r o).size
    simp
  · show (w.heap.setIfInBounds r o)[k]? = _
    rw [Array.getElem?_setIfInBounds_ne (fun e => hn e.symm)]
/-- The iterator in block r over the images' map has told of the stamps seen. -/
def ItAt (w : World) (r : Nat) (im : Option Nat) (seen : Array Nat) : Prop :=
  match im with
  | none => w.heap[r]? = some (.mapIter none 0 #[] 0)
  | some b => ∃ es clock, w.heap[b]? = some (.map es clock) ∧ w.heap[r]? = some (.mapIter (some b) clock seen clock)
theorem ItAt.kept {w w' : World} {r : Nat} {im : Option Nat} {seen : Array Nat} (h : ItAt w r im seen) (hk : Kept (fun _ => False) w w') : ItAt w' r im seen := by
  cases im with
  | none => exact hk.blk h id
  | some b =>
    obtain ⟨es, clock, h1, h2⟩ := h
    exact ⟨es, clock, hk.blk h1 id, hk.blk h2 id⟩
theorem range_any {B : Nat} {w : World} {im : Option Nat} {E : List ME} (h : MapAt B w im E) :
    ∃ w', (Instr.range 24 (.map im)).run Try.prog w = .ok (.pointer (some ⟨w.heap.size, 0, none⟩)) w' ∧ ItAt w' w.heap.size im #[] ∧ Kept (fun _ => False) w w' := by
  rcases h with ⟨rfl, -⟩ | ⟨b, es, clock, rfl, -, hb, -, -, -⟩
  · exact ⟨_, run_range_nilMap w 24 3 31 under24, blk_new _ _, (Kept.refl _ _).alloc _⟩
  · exact ⟨_, run_range_map w 24 3 31 b es clock under24 hb, ⟨es, clock, blk_alloc hb _, blk_new _ _⟩, (Kept.refl _ _).alloc _⟩
def leftM (E : List ME) (seen : Array Nat) : Nat := (E.filter fun m => !seen.contains m.born).length
theorem leftM_zero {E : List ME} {seen : Array Nat} (h : leftM E seen = 0) : ∀ m ∈ E, seen.contains m.born = true := by
  intro m hm
  have h2 : E.filter (fun m => !seen.contains m.born) = [] := List.eq_nil_of_length_eq_zero h
  rw [List.filter_eq_nil_iff] at h2
  have := h2 m hm
  simpa using this
theorem leftM_push {E : List ME} {seen : Array Nat} {m : ME} (hm : m ∈ E) (hs : seen.contains m.born = false) : leftM E (seen.push m.born) < leftM E seen := by
  unfold leftM
  refine filter_lt _ _ (fun x hx => ?_) m (by rw [hs]; rfl) (by rw [contains_push]; simp) E hm
  rw [contains_push] at hx
  cases hc : seen.contains x.born <;> simp_all
theorem leftM_nil (E : List ME) : leftM E #[] ≤ E.length := List.length_filter_le _ _
/-- One step of the iterator: nothing is left, or an entry that had not come comes. -/
theorem next_any {B : Nat} {w : World} {r : Nat} {im : Option Nat} {E : List ME} {seen : Array Nat} (h : MapAt B w im E) (hi : ItAt w r im seen) (hB : B ≤ r) :
    (leftM E seen = 0 ∧ ∀ ty, (Instr.next (.pointer (some ⟨r, 0, none⟩)) false ty).run Try.prog w = .ok (.tuple #[.bool false]) w) ∨
    ∃ m ∈ E, seen.contains m.born = false ∧ ∃ w', (∀ ty, (Instr.next (.pointer (some ⟨r, 0, none⟩)) false ty).run Try.prog w = .ok (.tuple #[.bool true, .int .i64 m.k, m.val]) w') ∧
      (Instr.entry (.pointer (some ⟨r, 0, none⟩))).run Try.prog w' = .ok (.tuple #[.int .i64 m.k, m.val]) w' ∧ ItAt w' r im (seen.push m.born) ∧ Kept (fun i => i = r) w w' := by
  rcases h with ⟨rfl, rfl⟩ | ⟨b, es, clock, rfl, hbB, hb, he, hst, -⟩
  · left
    refine ⟨rfl, fun ty => ?_⟩
    have hr : w.heap[r]? = some (.mapIter none 0 #[] 0) := hi
    simp only [Instr.next, getObj, Sem.run_bind, Sem.run, hr, Result.andThen]
    rfl
  · obtain ⟨es', clock', hb', hr⟩ := hi
    obtain ⟨rfl, rfl⟩ : es = es' ∧ clock = clock' := by rw [hb] at hb'; cases hb'; exact ⟨rfl, rfl⟩
    have hleft : (leftOf es seen).toList = (E.filter fun m => !seen.contains m.born).map ME.entry := by
      unfold leftOf
      rw [Array.toList_filter, he, List.filter_map]
      rfl
    rcases run_next_at (P := Try.prog) w 0 r b clock clock seen es clock hr hb hst.1 (Nat.le_refl _) with ⟨h0, hrun⟩ | ⟨e, hem, w1, hw1, hrun⟩
    · left
      refine ⟨?_, fun _ => hrun⟩
      unfold leftM
      have := congrArg List.length hleft
      rw [List.length_map] at this
      rw [← this]; simpa using h0
    · right
      rw [hleft] at hem
      obtain ⟨m, hm, rfl⟩ := List.mem_map.1 hem
      rw [List.mem_filter] at hm
      have hw1b : w1.heap[b]? = some (.map es clock) := by rcases hw1 with rfl | rfl <;> exact hb
      have hw1r : w1.heap[r]? = some (.mapIter (some b) clock seen clock) := by rcases hw1 with rfl | rfl <;> exact hr
      have hbr : b ≠ r := by omega
      have hk1 : Kept (fun i => i = r) w w1 := by rcases hw1 with rfl | rfl <;> first | exact Kept.refl _ _ | exact (Kept.refl _ _).drew
      have hkS := Kept.setBlock (w := w1) r (.mapIter (some b) clock (seen.push m.born) clock)
      refine ⟨m, hm.1, by simpa using hm.2, _, fun _ => hrun, ?_, ⟨es, clock, hkS.blk hw1b hbr, blkSet hw1r⟩, hk1.then hkS⟩
      exact run_entry_at _ r b clock seen es clock m.entry (blkSet hw1r) (hkS.blk hw1b hbr) (by rw [he]; exact List.mem_map.2 ⟨m, hm.1, rfl⟩) hst.2.1
theorem MapAt.born {B : Nat} {w : World} {im : Option Nat} {E : List ME} (h : MapAt B w im E) {x y : ME} (hx : x ∈ E) (hy : y ∈ E) (hb : x.born = y.born) : x = y := by
  rcases h with ⟨-, rfl⟩ | ⟨b, es, clock, rfl, -, -, he, hst, -⟩
  · cases hx
  · have hn : (E.map ME.born).Nodup := by
      have h1 := hst.2.1
      rw [he, List.map_map] at h1
      exact h1
    clear he hst
    induction E with
    | nil => cases hx
    | cons a E ih =>
      rw [List.map_cons, List.nodup_cons] at hn
      rcases List.mem_cons.1 hx with rfl | hx2
      · rcases List.mem_cons.1 hy with rfl | hy2
        · rfl
        · exact absurd (List.mem_map.2 ⟨y, hy2, hb.symm⟩) hn.1
      · rcases List.mem_cons.1 hy with rfl | hy2
        · exact absurd (List.mem_map.2 ⟨x, hx2, hb⟩) hn.1
        · exact ih hx2 hy2 hn.2
/-- What few says of a scene. -/
structure FewP (rows cols cw ch : Int) (E : List ME) (L : List Pz) (top : Int) : Prop where
  area : 1 ≤ rows → 1 ≤ cols → 1 ≤ cw → 1 ≤ ch → rows ≤ 1000 → cols ≤ 1000 → cw ≤ 64 → ch ≤ 64 → rows * ch * cols * cw ≤ 4000
  mats : ∀ m ∈ E, rightM m.mx = true ∧ m.n ≤ 8192
  pls : ∀ p ∈ L, MayP p ∧ p.rows ≤ 30 ∧ p.cols ≤ 30 ∧ p.w ≤ 400 ∧ p.h ≤ 400
  pn : L.length ≤ 30
  top0 : 0 ≤ top
  top1 : top ≤ 1125899906842624
def FewR (P : Prop) (W : World) (e : Ending) (w' : World) : Prop := ∃ b, e = .returned (.bool b) ∧ (b = true → P) ∧ Kept (fun _ => False) W w'
theorem FewR.no {P : Prop} {W w' : World} (h : Kept (fun _ => False) W w') : FewR P W (.returned (.bool false)) w' := ⟨false, rfl, (fun h => by cases h), h⟩
theorem FewR.yes {P : Prop} {W w' : World} (p : P) (h : Kept (fun _ => False) W w') : FewR P W (.returned (.bool true)) w' := ⟨true, rfl, (fun _ => p), h⟩
set_option maxRecDepth 100000 in
set_option maxHeartbeats 8000000 in
theorem fewS_any (rows cols cw ch : Int) (la : Option Addr) (ln lc : Nat) (pa : Option Addr) (pn pc : Nat) (im0 : Option Nat) (top : Int) (cur : Bool) (srow scol : Int) (ls : List (List Cl)) (E : List ME) (L : List Pz) (W : World)
    (hln : ln ≤ 9223372036854775807) (hpn : pn ≤ 9223372036854775807) (hls : LinesAt W.heap.size W la ln ls) (hL : PzsAt W.heap.size W pa pn L) (hE : MapAt W.heap.size W im0 E) :
    Calls Try.prog 10 #[.agg #[.int .i64 rows, .int .i64 cols, .int .i64 cw, .int .i64 ch, .slice la ln lc, .slice pa pn pc, .map im0, .int .i64 top, .bool cur, .int .i64 srow, .int .i64 scol]] W (FewR (FewP rows cols cw ch E L top) W) := by
  obtain ⟨V, hV⟩ : ∃ V, W.alloc (.cells #[.int .i64 rows, .int .i64 cols, .int .i64 cw, .int .i64 ch, .slice la ln lc, .slice pa pn pc, .map im0, .int .i64 top, .bool cur, .int .i64 srow, .int .i64 scol] 26) = V := ⟨_, rfl⟩
  have kV : Kept (fun _ => False) W V := by rw [← hV]; exact (Kept.refl _ _).alloc _
  have b0 : V.heap[W.heap.size]? = some (.cells #[.int .i64 rows, .int .i64 cols, .int .i64 cw, .int .i64 ch, .slice la ln lc, .slice pa pn pc, .map im0, .int .i64 top, .bool cur, .int .i64 srow, .int .i64 scol] 26 (0, 0)) := by rw [← hV]; exact blk_new _ _
  have HV := Lib.hid (And.intro kV b0)
  have HLS := Lib.hid (fun (w : World) (k : Kept (fun _ => False) W w) => hls.kept k (fun _ h => h.elim))
  have HPL := Lib.hid (fun (w : World) (k : Kept (fun _ => False) W w) => hL.kept k (fun _ h => h.elim))
  have HE := Lib.hid (fun (w : World) (k : Kept (fun _ => False) W w) => hE.kept k (fun _ h => h.elim))
  have HLN := Lib.hid (And.intro hls.1 (And.intro hL.1 (And.intro hln hpn)))
  have HC := Lib.hid (fun (w : World) (k : Kept (fun _ => False) V w) => blk11 (k.blk b0 id))
  clear kV b0 hls hL hE hln hpn
  obtain ⟨-, -, -, -, x4, -⟩ := HC.out V (Kept.refl _ _)
  go_enter Try.func10, Try.ntmps10
  go_wp2
  clear x4
  go_loopg [3, 4] ln (fun gg nv iv wr => ∃ i n : Nat, ln ≤ gg + i ∧ i ≤ ln ∧ n ≤ 131072 ∧ nv = .int .i64 (n : Int) ∧ iv = .int .i64 (i : Int) ∧ Kept (fun _ => False) V wr)
  case atStart => exact ⟨0, 0, by omega, by omega, by omega, rfl, rfl, Kept.refl _ _⟩
  case round =>
    obtain ⟨i, n, hgg, hil, hnb, rfl, rfl, hk⟩ := hrel
    obtain ⟨x0, x1, x2, x3, x4, x5, x6, x7, -⟩ := HC.out _ hk
    by_cases hi1 : i < ln
    · have g1 : decide (i < ln) = true := decide_eq_true hi1
      have g1' : decide ((i : Int) < (ln : Int)) = true := decide_eq_true (by omega)
      have wi : IntKind.i64.wrap ((i : Int) + 1) = (i : Int) + 1 := IntWalk.i64_in _ (by have := HLN.out.2.2.1; omega)
      have i0 : (0 : Int) ≤ (i : Int) := by omega
      have i1 : (i : Int) < (ln : Int) := by omega
      obtain ⟨b, off, rfl, hbB, hcs⟩ := (HLS.out wr (HV.out.1.then hk)).2.resolve_left (by omega)
      obtain ⟨l, hl⟩ : ∃ l, ls[i]? = some l := ⟨_, List.getElem?_eq_getElem (by have := HLN.out.1; omega)⟩
      obtain ⟨a', n', c', y0, -⟩ := hcs i l hl
      have HK := Lib.hid hk
      clear hcs hl hk
      by_cases c1 : 65536 < n'
      · have g2 : decide (65536 < n') = true := decide_eq_true c1
        have g2' : decide (65536 < (n' : Int)) = true := decide_eq_true (by omega)
        clear c1
        go_wp2
        exact bodyPost_ret (v := .bool false) (by simp [results, Try.results10, go_sem]) rfl (FewR.no (HV.out.1.then HK.out))
      have g2 : decide (65536 < n') = false := decide_eq_false c1
      have g2' : decide (65536 < (n' : Int)) = false := decide_eq_false (by omega)
      by_cases c2 : 65536 < n
      · have g3 : decide (65536 < n) = true := decide_eq_true c2
        have g3' : decide (65536 < (n : Int)) = true := decide_eq_true (by omega)
        clear c1 c2
        go_wp2
        exact bodyPost_ret (v := .bool false) (by simp [results, Try.results10, go_sem]) rfl (FewR.no (HV.out.1.then HK.out))
      have g3 : decide (65536 < n) = false := decide_eq_false c2
      have g3' : decide (65536 < (n : Int)) = false := decide_eq_false (by omega)
      have wn : IntKind.i64.wrap ((n : Int) + (n' : Int)) = (n : Int) + (n' : Int) := IntWalk.i64_in _ (by omega)
      go_wp2
      go_roundg (gk - 1)
      case rel => exact ⟨i + 1, n + n', by omega, by omega, by omega, by go_num, by go_num, HK.out⟩
      case measure => omega
    · obtain rfl : i = ln := by omega
      have g1 : decide (i < i) = false := decide_eq_false (by omega)
      obtain ⟨w', hrg, hit, hk2⟩ := range_any (HE.out wr (HV.out.1.then hk))
      have hr0 : V.heap.size ≤ wr.heap.size := hk.size
      obtain ⟨r, hr⟩ : ∃ r, wr.heap.size = r := ⟨_, rfl⟩
      rw [hr] at hrg hit hr0
      have HI := Lib.hid (And.intro hit (And.intro (hk.then hk2) hr0))
      clear hit hk hk2 hr hr0
      go_wp2
      clear hrg x0 x1 x2 x3 x4 x5 x6 x7
      go_loopg [3, 6] (leftM E #[]) (fun gg nv _ wr => ∃ (n : Nat) (seen : Array Nat), leftM E seen ≤ gg ∧ n ≤ 131072 ∧ nv = .int .i64 (n : Int) ∧ ItAt wr r im0 seen ∧ Kept (fun _ => False) V wr ∧ ∀ m ∈ E, seen.contains m.born = true → rightM m.mx = true ∧ m.n ≤ n)
      case atStart => exact ⟨n, #[], Nat.le_refl _, hnb, rfl, HI.out.1, HI.out.2.1, fun m _ h => by simp at h⟩
      case round =>
        obtain ⟨n2, seen, hgg, hnb2, rfl, hit, hk, hall⟩ := hrel
        rcases next_any (HE.out _ (HV.out.1.then hk)) hit (by have := HI.out.2.2; have := HV.out.1.size; omega) with ⟨h0, hnx⟩ | ⟨m, hm, hms, w3, hnx, hen, hit3, hk3⟩
        · have HALL := Lib.hid (show ∀ m ∈ E, rightM m.mx = true ∧ m.n ≤ n2 from fun m hm => hall m hm (leftM_zero h0 m hm))
          have HK := Lib.hid hk
          clear hit hk hall h0
          go_upto_region 16 with fail
          go_cut [110] (fun v wx => ∃ b : Bool, v = .bool b ∧ (b = false → 1 ≤ rows → 1 ≤ cols → 1 ≤ cw → 1 ≤ ch → rows ≤ 1000 → cols ≤ 1000 → cw ≤ 64 → ch ≤ 64 → rows * ch * cols * cw ≤ 4000) ∧ Kept (fun _ => False) V wx)
          case first =>
            obtain ⟨x0, x1, x2, x3, -⟩ := HC.out _ HK.out
            by_cases a0 : 1 ≤ rows
            rotate_left
            · have g0 : decide (1 ≤ rows) = false := decide_eq_false a0
              have HA := Lib.hid a0
              clear a0
              go_wp2_with fail
              go_meet
              exact ⟨false, rfl, fun _ h0 h1 h2 h3 h4 h5 h6 h7 => (by have := HA.out; omega), HK.out⟩
            have g0 : decide (1 ≤ rows) = true := decide_eq_true a0
            by_cases a1 : 1 ≤ cols
            rotate_left
            · have g1 : decide (1 ≤ cols) = false := decide_eq_false a1
              have HA := Lib.hid a1
              clear a0 a1
              go_wp2_with fail
              go_meet
              exact ⟨false, rfl, fun _ h0 h1 h2 h3 h4 h5 h6 h7 => (by have := HA.out; omega), HK.out⟩
            have g1 : decide (1 ≤ cols) = true := decide_eq_true a1
            by_cases a2 : 1 ≤ cw
            rotate_left
            · have g2 : decide (1 ≤ cw) = false := decide_eq_false a2
              have HA := Lib.hid a2
              clear a0 a1 a2
              go_wp2_with fail
              go_meet
              exact ⟨false, rfl, fun _ h0 h1 h2 h3 h4 h5 h6 h7 => (by have := HA.out; omega), HK.out⟩
            have g2 : decide (1 ≤ cw) = true := decide_eq_true a2
            by_cases a3 : 1 ≤ ch
            rotate_left
            · have g3 : decide (1 ≤ ch) = false := decide_eq_false a3
              have HA := Lib.hid a3
              clear a0 a1 a2 a3
              go_wp2_with fail
              go_meet
              exact ⟨false, rfl, fun _ h0 h1 h2 h3 h4 h5 h6 h7 => (by have := HA.out; omega), HK.out⟩
            have g3 : decide (1 ≤ ch) = true := decide_eq_true a3
            by_cases a4 : rows ≤ 1000
            rotate_left
            · have g4 : decide (rows ≤ 1000) = false := decide_eq_false a4
              have HA := Lib.hid a4
              clear a0 a1 a2 a3 a4
              go_wp2_with fail
              go_meet
              exact ⟨false, rfl, fun _ h0 h1 h2 h3 h4 h5 h6 h7 => (by have := HA.out; omega), HK.out⟩
            have g4 : decide (rows ≤ 1000) = true := decide_eq_true a4
            by_cases a5 : cols ≤ 1000
            rotate_left
            · have g5 : decide (cols ≤ 1000) = false := decide_eq_false a5
              have HA := Lib.hid a5
              clear a0 a1 a2 a3 a4 a5
              go_wp2_with fail
              go_meet
              exact ⟨false, rfl, fun _ h0 h1 h2 h3 h4 h5 h6 h7 => (by have := HA.out; omega), HK.out⟩
            have g5 : decide (cols ≤ 1000) = true := decide_eq_true a5
            by_cases a6 : cw ≤ 64
            rotate_left
            · have g6 : decide (cw ≤ 64) = false := decide_eq_false a6
              have HA := Lib.hid a6
              clear a0 a1 a2 a3 a4 a5 a6
              go_wp2_with fail
              go_meet
              exact ⟨false, rfl, fun _ h0 h1 h2 h3 h4 h5 h6 h7 => (by have := HA.out; omega), HK.out⟩
            have g6 : decide (cw ≤ 64) = true := decide_eq_true a6
            by_cases a7 : ch ≤ 64
            rotate_left
            · have g7 : decide (ch ≤ 64) = false := decide_eq_false a7
              have HA := Lib.hid a7
              clear a0 a1 a2 a3 a4 a5 a6 a7
              go_wp2_with fail
              go_meet
              exact ⟨false, rfl, fun _ h0 h1 h2 h3 h4 h5 h6 h7 => (by have := HA.out; omega), HK.out⟩
            have g7 : decide (ch ≤ 64) = true := decide_eq_true a7
            obtain ⟨P1, hP1⟩ : ∃ x, rows * ch = x := ⟨_, rfl⟩
            have q1 : 0 ≤ rows * ch := Int.mul_nonneg (by omega) (by omega)
            have q1' : rows * ch ≤ 1000 * 64 := Int.mul_le_mul (by omega) (by omega) (by omega) (by omega)
            rw [hP1] at q1 q1'
            obtain ⟨P2, hP2⟩ : ∃ x, P1 * cols = x := ⟨_, rfl⟩
            have q2 : 0 ≤ P1 * cols := Int.mul_nonneg (by omega) (by omega)
            have q2' : P1 * cols ≤ 64000 * 1000 := Int.mul_le_mul (by omega) (by omega) (by omega) (by omega)
            rw [hP2] at q2 q2'
            obtain ⟨P3, hP3⟩ : ∃ x, P2 * cw = x := ⟨_, rfl⟩
            have q3 : 0 ≤ P2 * cw := Int.mul_nonneg (by omega) (by omega)
            have q3' : P2 * cw ≤ 64000000 * 64 := Int.mul_le_mul (by omega) (by omega) (by omega) (by omega)
            rw [hP3] at q3 q3'
            have HP3 := Lib.hid (show rows * ch * cols * cw = P3 by rw [hP1, hP2, hP3])
            have u1 : IntKind.i64.wrap P1 = P1 := IntWalk.i64_in _ (by omega)
            have u2 : IntKind.i64.wrap P2 = P2 := IntWalk.i64_in _ (by omega)
            have u3 : IntKind.i64.wrap P3 = P3 := IntWalk.i64_in _ (by omega)
            by_cases c9 : 4000 < P3
            · have g9 : decide (4000 < P3) = true := decide_eq_true c9
              clear c9 q1 q1' q2 q2' q3 q3' a0 a1 a2 a3 a4 a5 a6 a7
              go_wp2_with fail
              go_meet
              exact ⟨true, rfl, (fun h => by cases h), HK.out⟩
            have g9 : decide (4000 < P3) = false := decide_eq_false c9
            have H9 := Lib.hid c9
            clear c9 q1 q1' q2 q2' q3 q3' a0 a1 a2 a3 a4 a5 a6 a7
            go_wp2_with fail
            go_meet
            exact ⟨false, rfl, fun _ h0 h1 h2 h3 h4 h5 h6 h7 => (by rw [HP3.out]; have := H9.out; omega), HK.out⟩
          case rest =>
            obtain ⟨b, rfl, hA, hk⟩ := hcut
            have HK := Lib.hid hk
            cases b with
            | true =>
              clear hA hk
              go_wp2
              exact bodyPost_ret (v := .bool false) (by simp [results, Try.results10, go_sem]) rfl (FewR.no (HV.out.1.then HK.out))
            | false =>
              have HA := Lib.hid (hA rfl)
              obtain ⟨-, -, -, -, -, x5, -⟩ := HC.out _ hk
              clear hA hk
              go_wp2
              clear x5
              go_loopg [7, 8] pn (fun gg iv _ wr => ∃ i : Nat, pn ≤ gg + i ∧ i ≤ pn ∧ iv = .int .i64 (i : Int) ∧ Kept (fun _ => False) V wr ∧ ∀ j p, j < i → L[j]? = some p → MayP p ∧ p.rows ≤ 30 ∧ p.cols ≤ 30 ∧ p.w ≤ 400 ∧ p.h ≤ 400)
              case atStart => exact ⟨0, by omega, by omega, rfl, HK.out, fun j p h => absurd h (Nat.not_lt_zero j)⟩
              case round =>
                obtain ⟨i, hgg, hip, rfl, hk, hall⟩ := hrel
                obtain ⟨x0, x1, x2, x3, x4, x5, x6, x7, -⟩ := HC.out _ hk
                have HK := Lib.hid hk
                have HALP := Lib.hid hall
                clear hall
                by_cases hi1 : i < pn
                · have g1 : decide (i < pn) = true := decide_eq_true hi1
                  have g1' : decide ((i : Int) < (pn : Int)) = true := decide_eq_true (by omega)
                  have wi : IntKind.i64.wrap ((i : Int) + 1) = (i : Int) + 1 := IntWalk.i64_in _ (by have := HLN.out.2.2.2; omega)
                  have i0 : (0 : Int) ≤ (i : Int) := by omega
                  have i1 : (i : Int) < (pn : Int) := by omega
                  obtain ⟨bb, off, rfl, hbB, hcs⟩ := (HPL.out _ (HV.out.1.then hk)).2.resolve_left (by omega)
                  obtain ⟨p, hp⟩ : ∃ p, L[i]? = some p := ⟨_, List.getElem?_eq_getElem (by have := HLN.out.2.1; omega)⟩
                  obtain ⟨y0, y1, y2, y3, y4, y5, y6, y7, y8, y9, y10, y11, y12, y13⟩ := (hcs i p hp).cells
                  have HP := Lib.hid hp
                  have HOF := Lib.hid (fun w => of17_any p w)
                  have HMY := Lib.hid (fun w => may_any p w)
                  obtain ⟨pim, pid, palt, pline, pcol, prows, pcols, px, py, pw, ph, pdx, pdy, pz⟩ := p
                  unfold Pz.val at HOF HMY
                  simp only at HOF HMY y0 y1 y2 y3 y4 y5 y6 y7 y8 y9 y10 y11 y12 y13
                  obtain ⟨V8, hV8⟩ : ∃ X, wr.alloc (.cells #[.int .i64 pim, .int .i64 pid, .bool palt, .int .i64 pline, .int .i64 pcol, .int .i64 prows, .int .i64 pcols, .int .i64 px, .int .i64 py, .int .i64 pw, .int .i64 ph, .int .i64 pdx, .int .i64 pdy, .int .i64 pz] 48) = X := ⟨_, rfl⟩
                  have k8 : Kept (fun _ => False) wr V8 := by rw [← hV8]; exact (Kept.refl _ _).alloc _
                  have e8 : V8.heap[wr.heap.size]? = some (.cells #[.int .i64 pim, .int .i64 pid, .bool palt, .int .i64 pline, .int .i64 pcol, .int .i64 prows, .int .i64 pcols, .int .i64 px, .int .i64 py, .int .i64 pw, .int .i64 ph, .int .i64 pdx, .int .i64 pdy, .int .i64 pz] 48 (0, 0)) := by rw [← hV8]; exact blk_new _ _
                  obtain ⟨f0, f1, f2, f3, f4, f5, f6, f7, f8, f9, f10, f11, f12, f13⟩ := blk14 e8
                  have H8 := Lib.hid (And.intro (hk.then k8) e8)
                  clear k8 e8 hcs hp hk
                  go_wp2_with fail
                  refine (HOF.out _).mono ?_
                  rintro e w9 ⟨rfl, hk9⟩
                  have H9 := Lib.hid (And.intro (H8.out.1.then hk9) (hk9.blk H8.out.2 id))
                  clear hk9
                  go_wp2_with fail
                  refine (HMY.out _).mono ?_
                  rintro e w10 ⟨b, rfl, hb, hk10⟩
                  have H10 := Lib.hid (H9.out.1.then hk10)
                  obtain ⟨f0, f1, f2, f3, f4, f5, f6, f7, f8, f9, f10, f11, f12, f13⟩ := blk14 (hk10.blk H9.out.2 id)
                  have HB := Lib.hid hb
                  clear hk10 hb
                  cases b with
                  | false =>
                    go_wp2
                    exact bodyPost_ret (v := .bool false) (by simp [results, Try.results10, go_sem]) rfl (FewR.no (HV.out.1.then H10.out))
                  | true =>
                    have HB1 := Lib.hid (HB.out rfl)
                    clear HB
                    by_cases d0 : 30 < prows
                    · have g2 : decide (30 < prows) = true := decide_eq_true d0
                      clear d0
                      go_wp2
                      exact bodyPost_ret (v := .bool false) (by simp [results, Try.results10, go_sem]) rfl (FewR.no (HV.out.1.then H10.out))
                    have g2 : decide (30 < prows) = false := decide_eq_false d0
                    by_cases d1 : 30 < pcols
                    · have g3 : decide (30 < pcols) = true := decide_eq_true d1
                      clear d0 d1
                      go_wp2
                      exact bodyPost_ret (v := .bool false) (by simp [results, Try.results10, go_sem]) rfl (FewR.no (HV.out.1.then H10.out))
                    have g3 : decide (30 < pcols) = false := decide_eq_false d1
                    by_cases d2 : 400 < pw
                    · have g4 : decide (400 < pw) = true := decide_eq_true d2
                      clear d0 d1 d2
                      go_wp2
                      exact bodyPost_ret (v := .bool false) (by simp [results, Try.results10, go_sem]) rfl (FewR.no (HV.out.1.then H10.out))
                    have g4 : decide (400 < pw) = false := decide_eq_false d2
                    by_cases d3 : 400 < ph
                    · have g5 : decide (400 < ph) = true := decide_eq_true d3
                      clear d0 d1 d2 d3
                      go_wp2
                      exact bodyPost_ret (v := .bool false) (by simp [results, Try.results10, go_sem]) rfl (FewR.no (HV.out.1.then H10.out))
                    have g5 : decide (400 < ph) = false := decide_eq_false d3
                    have HD := Lib.hid (And.intro d0 (And.intro d1 (And.intro d2 d3)))
                    clear d0 d1 d2 d3
                    go_wp2
                    go_roundg (gk - 1)
                    case rel => exact ⟨i + 1, by omega, by omega, by go_num, H10.out, fun j p hj hp => by
                      by_cases hji : j = i
                      · subst hji
                        rw [HP.out] at hp
                        cases hp
                        have := HD.out
                        exact ⟨HB1.out, by simp only; omega, by simp only; omega, by simp only; omega, by simp only; omega⟩
                      · exact HALP.out j p (by omega) hp⟩
                    case measure => omega
                · obtain rfl : i = pn := by omega
                  have g1 : decide (i < i) = false := decide_eq_false (by omega)
                  clear hk
                  by_cases d0 : n2 ≤ 8192
                  rotate_left
                  · have g2 : decide (n2 ≤ 8192) = false := decide_eq_false d0
                    have g2' : decide ((n2 : Int) ≤ 8192) = false := decide_eq_false (by omega)
                    clear d0
                    go_wp2
                    exact bodyPost_ret (v := .bool false) (by simp [results, Try.results10, go_sem]) rfl (FewR.no (HV.out.1.then HK.out))
                  have g2 : decide (n2 ≤ 8192) = true := decide_eq_true d0
                  have g2' : decide ((n2 : Int) ≤ 8192) = true := decide_eq_true (by omega)
                  by_cases d1 : i ≤ 30
                  rotate_left
                  · have g3 : decide (i ≤ 30) = false := decide_eq_false d1
                    have g3' : decide ((i : Int) ≤ 30) = false := decide_eq_false (by omega)
                    clear d0 d1
                    go_wp2
                    exact bodyPost_ret (v := .bool false) (by simp [results, Try.results10, go_sem]) rfl (FewR.no (HV.out.1.then HK.out))
                  have g3 : decide (i ≤ 30) = true := decide_eq_true d1
                  have g3' : decide ((i : Int) ≤ 30) = true := decide_eq_true (by omega)
                  by_cases d2 : 0 ≤ top
                  rotate_left
                  · have g4 : decide (0 ≤ top) = false := decide_eq_false d2
                    clear d0 d1 d2
                    go_wp2
                    exact bodyPost_ret (v := .bool false) (by simp [results, Try.results10, go_sem]) rfl (FewR.no (HV.out.1.then HK.out))
                  have g4 : decide (0 ≤ top) = true := decide_eq_true d2
                  by_cases d3 : top ≤ 1125899906842624
                  rotate_left
                  · have g5 : decide (top ≤ 1125899906842624) = false := decide_eq_false d3
                    clear d0 d1 d2 d3
                    go_wp2
                    exact bodyPost_ret (v := .bool false) (by simp [results, Try.results10, go_sem]) rfl (FewR.no (HV.out.1.then HK.out))
                  have g5 : decide (top ≤ 1125899906842624) = true := decide_eq_true d3
                  have HR := Lib.hid (show FewP rows cols cw ch E L top from ⟨HA.out, fun m hm => by
                    have h := HALL.out m hm
                    exact ⟨h.1, by omega⟩, fun p hp => by
                    obtain ⟨j, hj, rfl⟩ := List.getElem_of_mem hp
                    exact HALP.out j _ (by have := HLN.out.2.1; omega) (List.getElem?_eq_getElem hj), by have := HLN.out.2.1; omega, d2, d3⟩)
                  clear d0 d1 d2 d3
                  go_wp2
                  exact bodyPost_ret (v := .bool true) (by simp [results, Try.results10, go_sem]) rfl (FewR.yes HR.out (HV.out.1.then HK.out))
        · have hk03 : Kept (fun _ => False) V w3 := hk.trans (hk3.mono fun x _ hx => Or.inr (by have h9 : x = r := hx; have := HI.out.2.2; omega))
          have hme := (HE.out _ (HV.out.1.then hk03)).mem m hm
          have HALL := Lib.hid hall
          have HM := Lib.hid (And.intro hm hms)
          obtain ⟨mk, mx, my, ma, mn, mc, mp, born⟩ := m
          unfold ME.val at hnx hen
          simp only at hnx hen hms
          have hmx := hme.x
          have hmy := hme.y
          have hml : mp.length = mn := hme.s.1
          have hmc := hme.c
          simp only at hmx hmy hmc
          obtain ⟨V6, hV6⟩ : ∃ X, w3.alloc (.cells #[.int .i64 mx, .int .i64 my, .slice ma mn mc] 31) = X := ⟨_, rfl⟩
          have k6 : Kept (fun _ => False) w3 V6 := by rw [← hV6]; exact (Kept.refl _ _).alloc _
          have b6 : V6.heap[w3.heap.size]? = some (.cells #[.int .i64 mx, .int .i64 my, .slice ma mn mc] 31 (0, 0)) := by rw [← hV6]; exact blk_new _ _
          obtain ⟨⟨d0, -⟩, ⟨d1, -⟩, d2, -⟩ := blk3 b6
          have H6 := Lib.hid (And.intro (hk03.then k6) (hit3.kept k6))
          have HOF := Lib.hid (fun w => of_any mx my ma mn mc w)
          have HRR := Lib.hid (fun w => rright_any ⟨mx, my, mp⟩ ma mn mc w hmx hmy hml (by omega))
          clear hit hk hall hk3 hit3 hk03 hme hm hms k6 b6 hmx hmy hml hmc
          by_cases c1 : 65536 < mn
          · have g2 : decide (65536 < mn) = true := decide_eq_true c1
            have g2' : decide (65536 < (mn : Int)) = true := decide_eq_true (by omega)
            clear c1
            go_wp2
            exact bodyPost_ret (v := .bool false) (by simp [results, Try.results10, go_sem]) rfl (FewR.no (HV.out.1.then H6.out.1))
          have g2 : decide (65536 < mn) = false := decide_eq_false c1
          have g2' : decide (65536 < (mn : Int)) = false := decide_eq_false (by omega)
          by_cases c2 : 65536 < n2
          · have g3 : decide (65536 < n2) = true := decide_eq_true c2
            have g3' : decide (65536 < (n2 : Int)) = true := decide_eq_true (by omega)
            clear c1 c2
            go_wp2
            exact bodyPost_ret (v := .bool false) (by simp [results, Try.results10, go_sem]) rfl (FewR.no (HV.out.1.then H6.out.1))
          have g3 : decide (65536 < n2) = false := decide_eq_false c2
          have g3' : decide (65536 < (n2 : Int)) = false := decide_eq_false (by omega)
          have wn : IntKind.i64.wrap ((n2 : Int) + (mn : Int)) = (n2 : Int) + (mn : Int) := IntWalk.i64_in _ (by omega)
          have HNB := Lib.hid (show n2 + mn ≤ 131072 by omega)
          clear c1 c2 hnb2
          go_wp2_with fail
          refine (HOF.out _).mono ?_
          rintro e w7 ⟨rfl, hk7⟩
          have H7 := Lib.hid (And.intro (H6.out.1.then hk7) (H6.out.2.kept hk7))
          clear hk7
          cases hrm : rightM ⟨mx, my, mp⟩ with
          | false =>
            rw [hrm] at HRR
            clear hrm
            go_wp2_with fail
            refine (HRR.out _).mono ?_
            rintro e w8 ⟨rfl, hk8⟩
            have H8 := Lib.hid (H7.out.1.then hk8)
            clear hk8
            go_wp2
            exact bodyPost_ret (v := .bool false) (by simp [results, Try.results10, go_sem]) rfl (FewR.no (HV.out.1.then H8.out))
          | true =>
            rw [hrm] at HRR
            have HRM := Lib.hid hrm
            clear hrm
            go_wp2_with fail
            refine (HRR.out _).mono ?_
            rintro e w8 ⟨rfl, hk8⟩
            have H8 := Lib.hid (And.intro (H7.out.1.then hk8) (H7.out.2.kept hk8))
            clear hk8
            go_wp2
            go_roundg (leftM E (seen.push born))
            case rel => exact ⟨n2 + mn, seen.push born, Nat.le_refl _, HNB.out, by go_num, H8.out.2, H8.out.1, fun m hm hc => by
              rw [contains_push] at hc
              rcases Bool.or_eq_true _ _ ▸ hc with h1 | h1
              · have h2 := HALL.out m hm h1
                exact ⟨h2.1, by omega⟩
              · have hEE := HE.out _ HV.out.1
                have : m = ⟨mk, mx, my, ma, mn, mc, mp, born⟩ := hEE.born hm HM.out.1 (beq_iff_eq.1 h1)
                subst this
                exact ⟨HRM.out, by simp only; omega⟩⟩
            case measure => have := leftM_push HM.out.1 HM.out.2; simp only at this; omega
end Go.Proofs.Ytdjgmhbfohbenaa
namespace Go.Proofs.Ytdjgmhbfohbenaa
open Go.RowKit Go.Sort Pl
set_option linter.unusedVariables false
set_option linter.unusedSimpArgs false
section
open Go.ChangeShapes Go.WideShapes Go.ChangeAt Go.Joins Go.Deep
variable {H : Type} {enc : TypeId × Value → H} {W : World} {r : Reach} {b0 : Nat} {v : Value} {d : DataW H} {p : List MemPlace}
abbrev Td {H : Type} (enc : TypeId × Value → H) (W : World) (n : Nat) (t : TypeId) (cs : List Value) (x : DataW H × List MemPlace) : Prop := DataW.trod enc Try.prog W 0 (fun _ => true) true n t cs = some x
set_option maxRecDepth 100000 in
theorem td_int {k : IntKind} {t : TypeId} {n : Nat} {u : Value} {y : DataW H × List MemPlace} (hu : Try.prog.underlying t = some (.int k)) (h : Td enc W n t [u] y) : ∃ z, u = .int k z ∧ (Lit.int k z).wf = true := by
  obtain ⟨z, e, -, w⟩ := DataW.trod_int hu h
  simp at e
  exact ⟨z, e, w⟩
set_option maxRecDepth 100000 in
theorem wf64 {n : Int} (h : (Lit.int .i64 n).wf = true) : I64 n := by simp [Lit.wf, IntKind.min, IntKind.max, IntKind.signed, IntKind.bits] at h; unfold I64; omega
set_option maxRecDepth 100000 in
theorem wf8 {n : Int} (h : (Lit.int .u8 n).wf = true) : 0 ≤ n ∧ n < 256 := by simp [Lit.wf, IntKind.min, IntKind.max, IntKind.signed, IntKind.bits] at h; omega
set_option maxRecDepth 100000 in
theorem i32_wf {n : Int} (h : (Lit.int .i32 n).wf = true) : -2147483648 ≤ n ∧ n ≤ 2147483647 := by simp [Lit.wf, IntKind.min, IntKind.max, IntKind.signed, IntKind.bits] at h; omega
set_option maxRecDepth 100000 in
/-- A slice whose elements, of k cells each, read as q i. -/
theorem rows_of {A : Type} [Inhabited A] {t e : TypeId} {k : Nat} (ht : Try.prog.underlying t = some (.slice e)) (ce : Try.prog.cellsOf e = k) (hk : 0 < k) (R : List Value → A → Prop)
    (hR : ∀ n cs (x : DataW H × List MemPlace), Td enc W n e cs x → ∃ q, R cs q) {n : Nat} {u : Value} {x : DataW H × List MemPlace} (h : Td enc W n t [u] x) :
    ∃ (a : Option Addr) (len cap : Nat) (q : Nat → A), u = .slice a len cap ∧ len ≤ cap ∧ cap ≤ maxLen ∧ (len = 0 ∨ ∃ b off, a = some ⟨b, off, none⟩ ∧ b < W.heap.size ∧ ∀ i, i < len → ∃ cs, R cs (q i) ∧ cs.length = k ∧ ∀ f, f < k → W.cell? ⟨b, off + i * k + f, none⟩ = cs[f]?) := by
  rcases open_slice ht h with ⟨hcs, -⟩ | ⟨x, len, cap, m, n, D, Pl, hcs, -, hl, hm, hmm, hx, hall⟩
  · simp at hcs
    exact ⟨_, _, _, fun _ => default, hcs, Nat.le_refl _, by simp [maxLen], .inl rfl⟩
  · simp at hcs
    subst hcs
    simp only [if_true] at hmm
    have each : ∀ i, i < m → ∃ q cs, R cs q ∧ cs.length = k ∧ ∀ f, f < k → W.cell? ((x.add (i * k)).add f) = cs[f]? := by
      intro i hi
      obtain ⟨cs', hc, htd⟩ := hall i hi
      rw [ce] at hc
      obtain ⟨-, hcl, hat⟩ := World.cells?_some hc
      obtain ⟨q, hq⟩ := hR _ _ _ htd
      exact ⟨q, cs', hq, hcl, hat⟩
    obtain ⟨q, hq⟩ : ∃ q : Nat → A, ∀ i, i < m → ∃ cs, R cs (q i) ∧ cs.length = k ∧ ∀ f, f < k → W.cell? ((x.add (i * k)).add f) = cs[f]? := by
      refine ⟨fun i => if h : i < m then (each i h).choose else default, fun i hi => ?_⟩
      simp only [hi, dif_pos]
      exact (each i hi).choose_spec
    refine ⟨_, _, _, q, rfl, hl, hm, ?_⟩
    by_cases h0 : len = 0
    · exact .inl h0
    right
    obtain ⟨b, off, spot⟩ := x
    obtain ⟨cs0, -, hcl0, h1⟩ := hq 0 (by omega)
    have h2 := h1 0 hk
    have hv : cs0[0]? = some (cs0[0]'(by omega)) := List.getElem?_eq_getElem _
    rw [hv] at h2
    have hs : spot = none := by simpa [Addr.add] using World.cell?_spot h2
    subst hs
    have ea : ∀ o j, (⟨b, o, none⟩ : Addr).add j = ⟨b, o + j, none⟩ := fun o j => by unfold Addr.add; split <;> simp_all
    refine ⟨b, off, rfl, lt_of_cell (by simpa [Addr.add] using h2), fun i hi => ?_⟩
    obtain ⟨cs, hr, hcl, hc⟩ := hq i (by omega)
    refine ⟨cs, hr, hcl, fun f hf => ?_⟩
    rw [← hc f hf, ea, ea]
set_option maxRecDepth 100000 in
theorem look_of {n : Nat} {cs : List Value} {x : DataW H × List MemPlace} (h : Td enc W n 54 cs x) : ∃ a : Look, cs = [.int .i64 a.fg, .int .i64 a.bg, .int .i64 a.fl] := by
  obtain ⟨xs, m, -, -, hl, hlen, hg⟩ := DataW.trod_struct Try.underlying54 h
  have hl3 : cs.length = 3 := hl.trans (by kernel_rfl)
  match cs, hl3 with
  | [c0, c1, c2], _ =>
    match xs, hlen with
    | [y0, y1, y2], _ =>
      obtain ⟨z0, rfl, -⟩ := td_int (enc := enc) (W := W) (n := m) (y := y0) Try.underlying3 (hg 0 _ rfl)
      obtain ⟨z1, rfl, -⟩ := td_int (enc := enc) (W := W) (n := m) (y := y1) Try.underlying3 (hg 1 _ rfl)
      obtain ⟨z2, rfl, -⟩ := td_int (enc := enc) (W := W) (n := m) (y := y2) Try.underlying3 (hg 2 _ rfl)
      exact ⟨⟨z0, z1, z2⟩, rfl⟩
set_option maxRecDepth 100000 in
theorem cell_of {n : Nat} {cs : List Value} {x : DataW H × List MemPlace} (h : Td enc W n 100 cs x) : ∃ c : Cl, cs = c.vs ∧ -2147483648 ≤ c.r ∧ c.r ≤ 2147483647 := by
  obtain ⟨xs, m, -, -, hl, hlen, hg⟩ := DataW.trod_struct Try.underlying100 h
  have hl3 : cs.length = 5 := hl.trans (by kernel_rfl)
  match cs, hl3 with
  | [c0, c1, c2, c3, c4], _ =>
    match xs, hlen with
    | [y0, y1, y2], _ =>
      obtain ⟨z0, rfl, w0⟩ := td_int (enc := enc) (W := W) (n := m) (y := y0) Try.underlying21 (hg 0 _ rfl)
      obtain ⟨z1, rfl, -⟩ := td_int (enc := enc) (W := W) (n := m) (y := y1) Try.underlying3 (hg 1 _ rfl)
      obtain ⟨a, ha⟩ := look_of (enc := enc) (W := W) (n := m) (cs := [c2, c3, c4]) (x := y2) (hg 2 _ rfl)
      simp at ha
      obtain ⟨rfl, rfl, rfl⟩ := ha
      exact ⟨⟨z0, z1, a⟩, rfl, i32_wf w0⟩
instance : Inhabited Cl := ⟨cl0⟩
set_option maxRecDepth 100000 in
theorem line_of {n : Nat} {u : Value} {x : DataW H × List MemPlace} (h : Td enc W n 73 [u] x) : ∃ a len cap l, u = .slice a len cap ∧ LineAt W.heap.size W a len l ∧ ∀ c ∈ l, -2147483648 ≤ c.r ∧ c.r ≤ 2147483647 := by
  obtain ⟨a, len, cap, q, rfl, -, -, hc⟩ := rows_of (A := Cl) Try.underlying73 (k := 5) (by kernel_rfl) (by omega) (fun cs c => cs = c.vs ∧ -2147483648 ≤ c.r ∧ c.r ≤ 2147483647) (fun n cs x h => cell_of h) h
  rcases hc with rfl | ⟨b, off, rfl, hb, hall⟩
  · exact ⟨_, _, _, [], rfl, ⟨rfl, .inl rfl⟩, fun c hc => by cases hc⟩
  · refine ⟨_, _, _, (List.range len).map q, rfl, ⟨by simp, .inr ⟨b, off, rfl, hb, fun j c hj f hf => ?_⟩⟩, fun c hc => ?_⟩
    · have hjl : j < len := by have := (List.getElem?_eq_some_iff.1 hj).1; simpa using this
      obtain ⟨cs, ⟨rfl, -⟩, -, h2⟩ := hall j hjl
      have : c = q j := by simp [hjl] at hj; exact hj.symm
      subst this
      exact h2 f hf
    · obtain ⟨j, hj, rfl⟩ := List.mem_map.1 hc
      obtain ⟨cs, ⟨-, h⟩, -⟩ := hall j (List.mem_range.1 hj)
      exact h
structure LnV where
  a : Option Addr
  n : Nat
  c : Nat
  l : List Cl
instance : Inhabited LnV := ⟨⟨none, 0, 0, []⟩⟩
set_option maxRecDepth 100000 in
theorem lines_of {n : Nat} {u : Value} {x : DataW H × List MemPlace} (h : Td enc W n 22 [u] x) : ∃ a len cap ls, u = .slice a len cap ∧ len ≤ cap ∧ cap ≤ maxLen ∧ LinesAt W.heap.size W a len ls ∧ ∀ l ∈ ls, ∀ c ∈ l, -2147483648 ≤ c.r ∧ c.r ≤ 2147483647 := by
  obtain ⟨a, len, cap, q, rfl, hl, hm, hc⟩ := rows_of (A := LnV) Try.underlying22 (k := 1) (by kernel_rfl) (by omega) (fun cs l => cs = [.slice l.a l.n l.c] ∧ LineAt W.heap.size W l.a l.n l.l ∧ ∀ c ∈ l.l, -2147483648 ≤ c.r ∧ c.r ≤ 2147483647) (fun n cs x h => by
    have hcl : cs.length = 1 := by
      rcases DataW.trod_slice Try.underlying73 h with ⟨rfl, -⟩ | ⟨a, len, cap, elems, rest, n, -, rfl, -⟩ <;> rfl
    match cs, hcl with
    | [u], _ =>
      obtain ⟨a, len, cap, l, rfl, h1, h2⟩ := line_of h
      exact ⟨⟨a, len, cap, l⟩, rfl, h1, h2⟩) h
  rcases hc with rfl | ⟨b, off, rfl, hb, hall⟩
  · exact ⟨_, _, _, [], rfl, hl, hm, ⟨rfl, .inl rfl⟩, fun c hc => by cases hc⟩
  · refine ⟨_, _, _, (List.range len).map (fun i => (q i).l), rfl, hl, hm, ⟨by simp, .inr ⟨b, off, rfl, hb, fun j l hj => ?_⟩⟩, fun l hl => ?_⟩
    · have hjl : j < len := by have := (List.getElem?_eq_some_iff.1 hj).1; simpa using this
      obtain ⟨cs, ⟨rfl, h1, -⟩, -, h2⟩ := hall j hjl
      have : l = (q j).l := by simp [hjl] at hj; exact hj.symm
      subst this
      have h3 := h2 0 (by omega)
      rw [Nat.mul_one, Nat.add_zero] at h3
      exact ⟨_, _, _, h3, h1⟩
    · obtain ⟨j, hj, rfl⟩ := List.mem_map.1 hl
      obtain ⟨cs, ⟨-, -, h⟩, -⟩ := hall j (List.mem_range.1 hj)
      exact h
set_option maxRecDepth 100000 in
theorem td_bool {t : TypeId} {n : Nat} {u : Value} {y : DataW H × List MemPlace} (hu : Try.prog.underlying t = some .bool) (h : Td enc W n t [u] y) : ∃ z, u = .bool z ∧ True := by
  obtain ⟨z, e, -⟩ := DataW.trod_bool hu h
  simp at e
  exact ⟨z, e, trivial⟩
structure PzI (p : Pz) : Prop where
  im : I64 p.im
  x : I64 p.x
  y : I64 p.y
set_option maxRecDepth 100000 in
theorem place_of {n : Nat} {cs : List Value} {x : DataW H × List MemPlace} (h : Td enc W n 48 cs x) : ∃ p : Pz, cs = p.vs ∧ PzI p := by
  obtain ⟨xs, m, -, -, hl, hlen, hg⟩ := DataW.trod_struct Try.underlying48 h
  have hl3 : cs.length = 14 := hl.trans (by kernel_rfl)
  match cs, hl3 with
  | [c0, c1, c2, c3, c4, c5, c6, c7, c8, c9, c10, c11, c12, c13], _ =>
    match xs, hlen with
    | [y0, y1, y2, y3, y4, y5, y6, y7, y8, y9, y10, y11, y12, y13], _ =>
      obtain ⟨z0, rfl, w0⟩ := td_int (enc := enc) (W := W) (n := m) (y := y0) Try.underlying3 (hg 0 _ rfl)
      obtain ⟨z1, rfl, w1⟩ := td_int (enc := enc) (W := W) (n := m) (y := y1) Try.underlying3 (hg 1 _ rfl)
      obtain ⟨z2, rfl, w2⟩ := td_bool (enc := enc) (W := W) (n := m) (y := y2) Try.underlying4 (hg 2 _ rfl)
      obtain ⟨z3, rfl, w3⟩ := td_int (enc := enc) (W := W) (n := m) (y := y3) Try.underlying2 (hg 3 _ rfl)
      obtain ⟨z4, rfl, w4⟩ := td_int (enc := enc) (W := W) (n := m) (y := y4) Try.underlying3 (hg 4 _ rfl)
      obtain ⟨z5, rfl, w5⟩ := td_int (enc := enc) (W := W) (n := m) (y := y5) Try.underlying3 (hg 5 _ rfl)
      obtain ⟨z6, rfl, w6⟩ := td_int (enc := enc) (W := W) (n := m) (y := y6) Try.underlying3 (hg 6 _ rfl)
      obtain ⟨z7, rfl, w7⟩ := td_int (enc := enc) (W := W) (n := m) (y := y7) Try.underlying3 (hg 7 _ rfl)
      obtain ⟨z8, rfl, w8⟩ := td_int (enc := enc) (W := W) (n := m) (y := y8) Try.underlying3 (hg 8 _ rfl)
      obtain ⟨z9, rfl, w9⟩ := td_int (enc := enc) (W := W) (n := m) (y := y9) Try.underlying3 (hg 9 _ rfl)
      obtain ⟨z10, rfl, w10⟩ := td_int (enc := enc) (W := W) (n := m) (y := y10) Try.underlying3 (hg 10 _ rfl)
      obtain ⟨z11, rfl, w11⟩ := td_int (enc := enc) (W := W) (n := m) (y := y11) Try.underlying3 (hg 11 _ rfl)
      obtain ⟨z12, rfl, w12⟩ := td_int (enc := enc) (W := W) (n := m) (y := y12) Try.underlying3 (hg 12 _ rfl)
      obtain ⟨z13, rfl, w13⟩ := td_int (enc := enc) (W := W) (n := m) (y := y13) Try.underlying3 (hg 13 _ rfl)
      exact ⟨⟨z0, z1, z2, z3, z4, z5, z6, z7, z8, z9, z10, z11, z12, z13⟩, rfl, ⟨wf64 w0, wf64 w7, wf64 w8⟩⟩
instance : Inhabited Pz := ⟨⟨0, 0, false, 0, 0, 0, 0, 0, 0, 0, 0, 0, 0, 0⟩⟩
set_option maxRecDepth 100000 in
theorem places_of {n : Nat} {u : Value} {x : DataW H × List MemPlace} (h : Td enc W n 23 [u] x) : ∃ a len cap L, u = .slice a len cap ∧ len ≤ cap ∧ cap ≤ maxLen ∧ PzsAt W.heap.size W a len L ∧ ∀ p ∈ L, PzI p := by
  obtain ⟨a, len, cap, q, rfl, hl, hm, hc⟩ := rows_of (A := Pz) Try.underlying23 (k := 14) (by kernel_rfl) (by omega) (fun cs p => cs = p.vs ∧ PzI p) (fun n cs x h => place_of h) h
  rcases hc with rfl | ⟨b, off, rfl, hb, hall⟩
  · exact ⟨_, _, _, [], rfl, hl, hm, ⟨rfl, .inl rfl⟩, fun c hc => by cases hc⟩
  · refine ⟨_, _, _, (List.range len).map q, rfl, hl, hm, ⟨by simp, .inr ⟨b, off, rfl, hb, fun j p hj f hf => ?_⟩⟩, fun p hp => ?_⟩
    · have hjl : j < len := by have := (List.getElem?_eq_some_iff.1 hj).1; simpa using this
      obtain ⟨cs, ⟨rfl, -⟩, -, h2⟩ := hall j hjl
      have : p = q j := by simp [hjl] at hj; exact hj.symm
      subst this
      exact h2 f hf
    · obtain ⟨j, hj, rfl⟩ := List.mem_map.1 hp
      obtain ⟨cs, ⟨-, h⟩, -⟩ := hall j (List.mem_range.1 hj)
      exact h
instance : Inhabited ME := ⟨⟨0, 0, 0, none, 0, 0, [], 0⟩⟩
set_option maxRecDepth 100000 in
theorem mat_of {n : Nat} {cs : List Value} {x : DataW H × List MemPlace} (h : Td enc W n 31 cs x) : ∃ mx my a len cap zs, cs = [.int .i64 mx, .int .i64 my, .slice a len cap] ∧ I64 mx ∧ I64 my ∧ IsRow .u8 W a len cap zs := by
  obtain ⟨xs, m, -, -, hl, hlen, hg⟩ := DataW.trod_struct Try.underlying31 h
  have hl3 : cs.length = 3 := hl.trans (by kernel_rfl)
  match cs, hl3 with
  | [c0, c1, c2], _ =>
    match xs, hlen with
    | [y0, y1, y2], _ =>
      obtain ⟨z0, rfl, w0⟩ := td_int (enc := enc) (W := W) (n := m) (y := y0) Try.underlying3 (hg 0 _ rfl)
      obtain ⟨z1, rfl, w1⟩ := td_int (enc := enc) (W := W) (n := m) (y := y1) Try.underlying3 (hg 1 _ rfl)
      obtain ⟨a, len, cap, zs, h2, hrow⟩ := row_of Try.underlying29 Try.underlying5 (by kernel_rfl) (show DataW.trod enc Try.prog W 0 (fun _ => true) true m 29 [c2] = some y2 from hg 2 _ rfl)
      simp at h2
      subst h2
      exact ⟨z0, z1, a, len, cap, zs, rfl, wf64 w0, wf64 w1, hrow⟩
set_option maxRecDepth 100000 in
theorem map_of {n : Nat} {u : Value} {x : DataW H × List MemPlace} (h : Td enc W n 24 [u] x) : ∃ im E, u = .map im ∧ MapAt W.heap.size W im E := by
  rcases WideElems.open_map under24 h with ⟨hcs, -⟩ | ⟨b, es, clock, n, -, hcs, hb, -, F, -⟩
  · simp at hcs
    exact ⟨none, [], hcs, .inl ⟨rfl, rfl⟩⟩
  · simp at hcs
    subst hcs
    have each : ∀ e ∈ es.toList, ∃ m : ME, e = m.entry ∧ MEAt W.heap.size W m := by
      intro e he
      obtain ⟨y, hy⟩ := F.reads e he
      obtain ⟨key, val, born⟩ := e
      unfold WideElems.rd WideElems.elemAt at hy
      simp only [Option.bind_eq_some_iff, Option.map_eq_some_iff] at hy
      obtain ⟨kl, hk, z, hz, -⟩ := hy
      split at hz
      rotate_left
      · cases hz
      rename_i hf
      obtain ⟨mx, my, a, len, cap, zs, hcs, w0, w1, hrow⟩ := mat_of hz
      obtain ⟨k, rfl, wk⟩ : ∃ k, key = .int .i64 k ∧ I64 k := by
        have hk2 : mapKey Try.prog 3 key = some kl := hk
        unfold mapKey at hk2
        rw [under3] at hk2
        cases key <;> simp at hk2
        rename_i q' z
        obtain ⟨⟨rfl, hw⟩, -⟩ := hk2
        exact ⟨z, rfl, wf64 hw⟩
      have hval : val = .agg #[.int .i64 mx, .int .i64 my, .slice a len cap] := by
        cases val with
        | agg cs =>
          simp only [Value.cells] at hcs
          obtain ⟨l⟩ := cs
          simp at hcs
          rw [hcs]
        | _ => simp [Value.formed, Try.underlying31] at hf
      subst hval
      obtain ⟨h1, h2, h3, h4, h5, h6⟩ := hrow.slAt
      refine ⟨⟨k, mx, my, a, len, cap, zs.take len, born⟩, rfl, ⟨h1, h5, ⟨h2, h3⟩, fun v hv => wf8 (h4 v hv), wk, w0, w1, h6⟩⟩
    obtain ⟨E, hE, hall⟩ : ∃ E : List ME, es.toList = E.map ME.entry ∧ ∀ m ∈ E, MEAt W.heap.size W m := by
      clear F h hb
      revert each
      generalize es.toList = l
      intro each
      induction l with
      | nil => exact ⟨[], rfl, fun m h => by cases h⟩
      | cons e l ih =>
        obtain ⟨m, rfl, hm⟩ := each e (by simp)
        obtain ⟨E, rfl, hE⟩ := ih (fun e he => each e (by simp [he]))
        exact ⟨m :: E, rfl, fun m' h => by
          rcases List.mem_cons.1 h with rfl | h
          · exact hm
          · exact hE m' h⟩
    exact ⟨some b, E, rfl, .inr ⟨b, es, clock, rfl, lt_of_blk hb, hb, hE, F.stamped, hall⟩⟩
/-- A scene as it comes in. -/
structure SceneIn (W : World) (rows cols cw ch : Int) (la : Option Addr) (ln : Nat) (pa : Option Addr) (pn : Nat) (im : Option Nat) (top row col : Int) (ls : List (List Cl)) (E : List ME) (L : List Pz) : Prop where
  i0 : I64 rows
  i1 : I64 cols
  i2 : I64 cw
  i3 : I64 ch
  i7 : I64 top
  i9 : I64 row
  i10 : I64 col
  lines : LinesAt W.heap.size W la ln ls
  cells : ∀ l ∈ ls, ∀ c ∈ l, -2147483648 ≤ c.r ∧ c.r ≤ 2147483647
  places : PzsAt W.heap.size W pa pn L
  pis : ∀ p ∈ L, PzI p
  images : MapAt W.heap.size W im E
  ln : ln ≤ 9223372036854775807
  pn : pn ≤ 9223372036854775807
set_option maxRecDepth 100000 in
theorem o_scene (hv : Value.okWide Try.prog W r b0 26 v) (h : DataW.Trod enc Try.prog W 0 (fun _ => true) true 26 v d p) :
    ∃ rows cols cw ch la ln lc pa pn pc im top cur row col ls E L, v = .agg #[.int .i64 rows, .int .i64 cols, .int .i64 cw, .int .i64 ch, .slice la ln lc, .slice pa pn pc, .map im, .int .i64 top, .bool cur, .int .i64 row, .int .i64 col] ∧ SceneIn W rows cols cw ch la ln pa pn im top row col ls E L := by
  obtain ⟨cs, rfl, hsz⟩ := okWide_struct Try.underlying26 hv
  obtain ⟨fuel, hf⟩ := h
  obtain ⟨xs, m, -, -, hl, hlen, hg⟩ := DataW.trod_struct Try.underlying26 hf
  obtain ⟨l⟩ := cs
  have hl3 : l.length = 11 := hl.trans (by kernel_rfl)
  match l, hl3 with
  | [c0, c1, c2, c3, c4, c5, c6, c7, c8, c9, c10], _ =>
    match xs, hlen with
    | [y0, y1, y2, y3, y4, y5, y6, y7, y8, y9, y10], _ =>
      obtain ⟨z0, rfl, w0⟩ := td_int (enc := enc) (W := W) (n := m) (y := y0) Try.underlying3 (hg 0 _ rfl)
      obtain ⟨z1, rfl, w1⟩ := td_int (enc := enc) (W := W) (n := m) (y := y1) Try.underlying3 (hg 1 _ rfl)
      obtain ⟨z2, rfl, w2⟩ := td_int (enc := enc) (W := W) (n := m) (y := y2) Try.underlying3 (hg 2 _ rfl)
      obtain ⟨z3, rfl, w3⟩ := td_int (enc := enc) (W := W) (n := m) (y := y3) Try.underlying3 (hg 3 _ rfl)
      obtain ⟨z7, rfl, w7⟩ := td_int (enc := enc) (W := W) (n := m) (y := y7) Try.underlying2 (hg 7 _ rfl)
      obtain ⟨z9, rfl, w9⟩ := td_int (enc := enc) (W := W) (n := m) (y := y9) Try.underlying3 (hg 9 _ rfl)
      obtain ⟨z10, rfl, w10⟩ := td_int (enc := enc) (W := W) (n := m) (y := y10) Try.underlying3 (hg 10 _ rfl)
      obtain ⟨z8, rfl, -⟩ := td_bool (enc := enc) (W := W) (n := m) (y := y8) Try.underlying4 (hg 8 _ rfl)
      obtain ⟨la, ln, lc, ls, rfl, hl1, hl2, hl3, hl4⟩ := lines_of (enc := enc) (W := W) (n := m) (x := y4) (hg 4 _ rfl)
      obtain ⟨pa, pn, pc, L, rfl, hp1, hp2, hp3, hp4⟩ := places_of (enc := enc) (W := W) (n := m) (x := y5) (hg 5 _ rfl)
      obtain ⟨im, E, rfl, hm⟩ := map_of (enc := enc) (W := W) (n := m) (x := y6) (hg 6 _ rfl)
      exact ⟨z0, z1, z2, z3, la, ln, lc, pa, pn, pc, im, z7, z8, z9, z10, ls, E, L, rfl, ⟨wf64 w0, wf64 w1, wf64 w2, wf64 w3, wf64 w7, wf64 w9, wf64 w10, hl3, hl4, hp3, hp4, hm, by simp [maxLen] at hl2; omega, by simp [maxLen] at hp2; omega⟩⟩
end
end Go.Proofs.Ytdjgmhbfohbenaa
