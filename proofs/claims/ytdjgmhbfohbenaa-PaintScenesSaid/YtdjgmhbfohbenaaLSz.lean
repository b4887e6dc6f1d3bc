/- The law PaintScenes: how much a scene's lines may take, by the form's own reach. -/
import Derived.Test.YtdjgmhbfohbenaaLScn
import Derived.SizedLaws
namespace Go.Proofs.Ytdjgmhbfohbenaa
open Go.RowKit Go.Sort Pl
open Go.ChangeShapes Go.WideShapes Go.ChangeAt Go.Joins Go.Deep
set_option linter.unusedVariables false
set_option linter.unusedSimpArgs false
variable {H : Type} {enc : TypeId × Value → H} {W : World} {d : DataW H} {p : List MemPlace}
theorem bytes73 : Try.prog.bytesOf 73 = 24 := by kernel_rfl
set_option maxRecDepth 100000 in
theorem scene_reach {c0 c1 c2 c3 c5 c6 c7 c8 c9 c10 : Value} {la : Option Addr} {ln lc : Nat} {ts : List TypeId} {ds : List (DataW H)} (h : DataW.Trod enc Try.prog W 0 (fun _ => true) true 26 (.agg #[c0, c1, c2, c3, .slice la ln lc, c5, c6, c7, c8, c9, c10]) d p)
    (hsz : (DataW.weightsEach Try.prog ts ds).all (· ≤ reachBytes) = true) (ht : ts[0]? = some 26) (hd : ds[0]? = some d) : ln * 24 ≤ 140737488355328 := by
  obtain ⟨fuel, hf⟩ := h
  obtain ⟨xs, m, -, hx, hl, hlen, hg⟩ := DataW.trod_struct Try.underlying26 hf
  match xs, hlen with
  | [y0, y1, y2, y3, y4, y5, y6, y7, y8, y9, y10], _ =>
    have h4 : Td enc W m 22 [.slice la ln lc] y4 := hg 4 _ rfl
    rcases open_slice Try.underlying22 h4 with ⟨hcs, -⟩ | ⟨x, len, cap, mm, n, D, Pl, hcs, -, hl2, hm, hmm, hxx, -⟩
    · simp at hcs
      omega
    · simp at hcs
      obtain ⟨rfl, rfl, rfl⟩ := hcs
      have e : d = .agg [y0.1, y1.1, y2.1, y3.1, y4.1, y5.1, y6.1, y7.1, y8.1, y9.1, y10.1] := (congrArg Prod.fst hx)
      have hin : (ln + (mm - ln)) * 24 ∈ y4.1.weights Try.prog 22 := by
        rw [hxx]
        simp [DataW.weights, Try.underlying22, bytes73]
      have hd2 : (ln + (mm - ln)) * 24 ∈ d.weights Try.prog 26 := by
        rw [e]
        simp only [DataW.weights, Try.underlying26]
        exact DataW.weights_mem_each (j := 4) (t := 22) rfl rfl _ hin
      have h5 : (ln + (mm - ln)) * 24 ≤ reachBytes := of_decide_eq_true (List.all_eq_true.1 hsz _ (DataW.weights_mem_each ht hd _ hd2))
      have h6 : reachBytes = 140737488351232 := rfl
      rw [h6] at h5
      have h7 : mm = lc := hmm
      omega
end Go.Proofs.Ytdjgmhbfohbenaa
