/- A drawn region within a round of a range over a function: one walk for every order. -/
import Derived.RangeFuncNested
import Derived.RangeFuncBound
import Derived.RangeFuncCalls
import Derived.RangeFuncLeaves
import Derived.OwnWalkIn
import Derived.TacticsInMore
import Derived.LoopNIn
import Derived.LoopIn
import Derived.Test.YtdfenlonlpjkfaaGrowD
namespace Go.Proofs.Ytdfenlonlpjkfaa
open Go.RowKit Go.Sort
set_option linter.unusedVariables false
theorem wpOpIn_of_wpOp {P : Program} {ops : Array Oper} {Q : Exit → Act → World → Prop} {i l n : Nat} {K K' : Act → World → Prop} {a : Act} {w : World} (hq : ¬ LetsOut Q) (hd : ∀ o c, ops[i]? = some o → o.op ≠ .defer c) (hK : ∀ a w, K a w → K' a w) (h : wpOp P ops Q i K a w) : wpOpIn (Fence.wide.inRound l) n P ops Q i K' a w := by
  unfold wpOp at h
  unfold wpOpIn
  cases ho : ops[i]? with
  | none => simp only [ho] at h ⊢; exact hK _ _ h
  | some o =>
    simp only [ho] at h ⊢
    split at h
    · rename_i hw
      simp only [hw, if_true]
      have h := h.resolve_right (fun x => hq x.2)
      unfold Oper.wp at h
      refine ⟨fun _ _ => trivial, ?_⟩
      rw [Oper.semAt_eq _ _ _ (fun c => hd o c ho)]
      generalize (execOp a.eval o).run P w = r at h
      cases r with
      | ok m w' =>
        cases m <;> simp only [Oper.upon] at h <;> simp only [Oper.uponIn]
        case value v => exact hK _ _ h
        case skip => exact hK _ _ h
        case defer d => exact hK _ _ h
        case enter f args => exact ⟨(fun h => by cases h), CallsIn.inRound l (callsIn_wide.2 (h.mono fun e w'' h => by cases e <;> first | exact hK _ _ h | exact h))⟩
        case row r args => exact ⟨(fun h => by cases h), fun c cs _ => let ⟨v, w'', r, s⟩ := h c cs; ⟨v, w'', hK _ _ r, stepsIn_wide.2 s⟩⟩
        all_goals exact h
      | halt x w' => cases x <;> simp only [Oper.upon] at h <;> simp only [Oper.uponIn] <;> exact h
    · rename_i hw
      simp only [hw]
      exact ⟨fun _ _ => trivial, hK _ _ h⟩
theorem wpAnyIn_of_wpAny {P : Program} {md : Region.Mode} {ops : Array Oper} {Q : Exit → Act → World → Prop} {l n : Nat} (hq : ¬ LetsOut Q) (hd : ∀ (i : Nat) o c, ops[i]? = some o → o.op ≠ .defer c) :
    ∀ (fuel : Nat) (listed : Array Bool) (a : Act) (w : World), wpAny P md ops Q fuel listed a w → wpAnyIn (Fence.wide.inRound l) n P md ops Q fuel listed a w
  | 0, _, _, _, h => h
  | fuel + 1, listed, a, w, h => ⟨h.1, fun i hi => wpOpIn_of_wpOp hq (fun o c ho => hd i o c ho) (fun a w h => wpAnyIn_of_wpAny hq hd fuel _ a w h) (h.2 i hi)⟩
def noDefer (ops : List Oper) : Bool := ops.all fun o => match o.op with | .defer _ => false | _ => true
theorem noDefer_spec {l : List Oper} (h : noDefer l = true) (i : Nat) (o : Oper) (c) (ho : l.toArray[i]? = some o) : o.op ≠ .defer c := by
  intro e
  have hm : o ∈ l := by simpa using Array.mem_of_getElem? ho
  have := List.all_eq_true.1 h o hm
  rw [e] at this
  cases this
/-- In a round: a region whose operations write nothing of before. -/
theorem wpIn_round_grow {P : Program} {id ll m : Nat} {Q' : Exit → Act → World → Prop} {a : Act} {w : World} {l : List Oper} {Dt : D.Dirt} (ms : Array Nat) (S : Nat → Option (Value → World → Prop))
    (hm : P.follows .mixedOrders = true) (hms : ms.size = l.toArray.size) (hB : D.growB .any l.toArray (D.maskX ms) l.length [] = true) (hd : noDefer l = true) (hq : ¬ LetsOut Q')
    (h : ∀ W, W = w.drew → D.wpGrow P Dt l.toArray (D.maskX ms) W S (fun a' ω => ∀ w', D.KD Dt W W w' → (∀ k, D.KR Dt W k (ω k) w') → Q' .normal a' w') (D.number 0 l) a (fun _ => W)) : (Code.region id l.toArray true).wpIn (Fence.wide.inRound ll) m P Q' a w := by
  have c := D.growChk (md := .any) hms hB
  refine wpIn_region_any hm (wpAnyIn_of_wpAny hq (noDefer_spec hd) _ _ _ _ ?_)
  have := D.grow_any (md := .any) (Q' := Q') c (fun i hi => by cases hi) (.inl rfl) (W := w.drew) (fun a' ω w' h1 h2 h3 => by rw [List.drop_length]; exact h3 w' h1 h2) l.length (D.number 0 l) (Array.replicate l.toArray.size false) a (fun _ => w.drew) w.drew (by rw [D.number_length]) (by simp)
    (fun j oj _ hl => by rw [getD_replicate_false] at hl; cases hl)
    (fun p hp => by
      obtain ⟨-, h2⟩ := D.mem_number.1 hp
      rw [Nat.sub_zero] at h2
      have hlt : p.1 < l.length := (List.getElem?_eq_some_iff.1 h2).1
      exact ⟨by simpa using h2, hlt, getD_in (by simpa using hlt) (getD_replicate_false _ _)⟩)
    (fun i o ho hi _ => D.mem_number.2 ⟨Nat.zero_le _, by rw [Nat.sub_zero]; simpa using ho⟩)
    (fun t ht1 ht2 => by simp at ht2; omega) (D.number_sorted _ _) (D.KD.refl _ _ _) (fun _ => D.KR.refl _ _ _ _) (h _ rfl)
  rw [show l.length + (l.toArray.size - l.length) = l.toArray.size by simp] at this
  exact this
end Go.Proofs.Ytdfenlonlpjkfaa
