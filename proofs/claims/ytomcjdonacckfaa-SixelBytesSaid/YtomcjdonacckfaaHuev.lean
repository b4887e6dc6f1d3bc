/- A colour by its hue, lightness, saturation: on both sides. -/
import Derived.Test.YtomcjdonacckfaaFirst
import Derived.Deep.DeepCutAuto
namespace Go.Proofs.Ytomcjdonacckfaa
open Go.RowKit
set_option linter.unusedVariables false
set_option linter.unusedSimpArgs false
def hv (v m : Int) : Int := ((v + m) * 255 + 5000) / 10000
def hue (q c x m : Int) : Value :=
  if q = 0 then tri (hv c m) (hv x m) (hv 0 m) else if q = 1 then tri (hv x m) (hv c m) (hv 0 m) else if q = 2 then tri (hv 0 m) (hv c m) (hv x m)
  else if q = 3 then tri (hv 0 m) (hv x m) (hv c m) else if q = 4 then tri (hv x m) (hv 0 m) (hv c m) else tri (hv c m) (hv 0 m) (hv x m)
def hlsOk (h l s : Int) : Bool := decide (0 ≤ h ∧ h ≤ 360 ∧ 0 ≤ l ∧ l ≤ 100 ∧ 0 ≤ s ∧ s ≤ 100)
def hlsC (l s : Int) : Int := (100 - max (2 * l - 100) (100 - 2 * l)) * s
def hlsX (h l s : Int) : Int := hlsC l s * (60 - max ((h + 240) % 360 % 120 - 60) (60 - (h + 240) % 360 % 120)) / 60
def hls (h l s : Int) : Value := if hlsOk h l s = true then hue ((h + 240) % 360 / 60) (hlsC l s) (hlsX h l s) (100 * l - hlsC l s / 2) else tri 0 0 0
theorem size_any (v A : Int) (w : World) (h : (v < 0 ∧ -v = A ∧ A < 9223372036854775807) ∨ (0 ≤ v ∧ v = A)) : Calls Try.prog 30 #[.int .i64 v] w fun e w' => e = .returned (.int .i64 A) ∧ w' = w := by
  rcases h with ⟨h1, h2, h3⟩ | ⟨h1, h2⟩
  · have g1 : decide (v < 0) = true := decide_eq_true h1
    have h4 : 0 - v = A := by omega
    go_enter Try.func30, Try.ntmps30
    go_wp2
    exact bodyPost_ret (v := .int .i64 A) (by simp [results, Try.results30, go_sem]) rfl ⟨rfl, rfl⟩
  · have g1 : decide (v < 0) = false := decide_eq_false (by omega)
    subst h2
    go_enter Try.func30, Try.ntmps30
    go_wp2
    exact bodyPost_ret (v := .int .i64 v) (by simp [results, Try.results30, go_sem]) rfl ⟨rfl, rfl⟩

end Go.Proofs.Ytomcjdonacckfaa
