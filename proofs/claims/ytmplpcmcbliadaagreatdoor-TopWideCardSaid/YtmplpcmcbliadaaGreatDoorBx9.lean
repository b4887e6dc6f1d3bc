/- A region that draws its order, whose operations read, make memory and call functions that make memory and change none, ahead of a tail in a fixed order: one walk of the order of the text serves every order. An operation of which only a fact is known (a call, a new block) is told by its fact, which holds in the world that it leaves; later operations that wait for it may lean on it. -/
import Derived.Test.YtmplpcmcbliadaaGreatDoorBx0
import Derived.StillTail
import Derived.Lib.QuietBelow
set_option linter.unusedVariables false
set_option linter.unusedSimpArgs false
namespace Go.Proofs.YtmplpcmcbliadaaGreatDoor
open Go.RowKit Go.Sort
section
variable {P : Program} {ops : Array Oper} {md : Region.Mode}
def moment (ω : Nat -> World) (i : Nat) (w : World) : Nat -> World := fun k => if k = i then w else ω k
theorem moment_self (ω : Nat -> World) (i : Nat) (w : World) : moment ω i w i = w := if_pos rfl
theorem moment_ne (ω : Nat -> World) {i k : Nat} (w : World) (h : k ≠ i) : moment ω i w k = ω k := if_neg h
structure GrowAt (X : Nat -> Nat -> Bool) (W : World) (ω : Nat -> World) (j : Nat) (w : World) : Prop where
 old : Kept (fun _ => False) W w
 seen : ∀ k, X j k = true -> Kept (fun _ => False) (ω k) w
theorem GrowAt.moment {X : Nat -> Nat -> Bool} {W : World} {ω : Nat -> World} {j : Nat} {w : World} (h : GrowAt X W ω j w) {i : Nat} (hx : X j i = false) (w' : World) : GrowAt X W (moment ω i w') j w :=
 ⟨h.old, fun k hk => by rw [moment_ne _ _ (fun e => by rw [e, hx] at hk; cases hk)]; exact h.seen k hk⟩
theorem GrowAt.unmoment {X : Nat -> Nat -> Bool} {W : World} {ω : Nat -> World} {j : Nat} {w : World} {i : Nat} {w' : World} (h : GrowAt X W (Go.Proofs.YtmplpcmcbliadaaGreatDoor.moment ω i w') j w) (hx : X j i = false) : GrowAt X W ω j w :=
 ⟨h.old, fun k hk => by have := h.seen k hk; rwa [moment_ne _ _ (fun e => by rw [e, hx] at hk; cases hk)] at this⟩
theorem GrowAt.kept {X : Nat -> Nat -> Bool} {W : World} {ω : Nat -> World} {j : Nat} {w w' : World} (h : GrowAt X W ω j w) (hk : Kept (fun _ => False) w w') : GrowAt X W ω j w' :=
 ⟨h.old.then hk, fun k hx => (h.seen k hx).then hk⟩
def growUpon (P : Program) (R : Value -> World -> Prop) (w : World) : Result Next -> Prop
 | .ok (.value u) w' => Kept (fun _ => False) w w' /\ R u w'
 | .ok .skip w' => Kept (fun _ => False) w w' /\ R undef w'
 | .ok (.enter f args) w' => w' = w /\ Calls P f args w (fun e w'' => ∃ v, e = .returned v /\ Kept (fun _ => False) w w'' /\ R v w'')
 | _ => False
def sameUpon (w : World) (v : Value) : Result Next -> Prop
 | .ok (.value u) w' => w' = w /\ u = v
 | .ok .skip w' => w' = w /\ v = undef
 | _ => False
theorem sameUpon_one {w : World} {v v' : Value} {r : Result Next} (h : sameUpon w v r) (h' : sameUpon w v' r) : v = v' := by
 cases r with
 | ok n w' =>
  cases n <;> simp only [sameUpon] at h h'
  case value u => exact h.2.symm.trans h'.2
  case skip => exact h.2.trans h'.2.symm
 | halt x w' => cases h
theorem growUpon_wit {R : Value -> World -> Prop} {w : World} {r : Result Next} (h : growUpon P R w r) : ∃ v w', Kept (fun _ => False) w w' /\ R v w' := by
 cases r with
 | ok n w' =>
  cases n <;> simp only [growUpon] at h
  case value u => exact ⟨u, w', h⟩
  case skip => exact ⟨undef, w', h⟩
  case enter f args =>
   obtain ⟨e, w'', fr, ⟨v, -, hk, hr⟩, -⟩ := h.2 []
   exact ⟨v, w'', hk, hr⟩
 | halt x w' => cases h
def growOp (P : Program) (ops : Array Oper) (X : Nat -> Nat -> Bool) (W : World) (S : Nat -> Option (Value -> World -> Prop)) (i : Nat) (o : Oper) (K : Act -> (Nat -> World) -> Prop) (a : Act) (ω : Nat -> World) : Prop :=
 if Region.wanted o (yielded ops a.tmps) = true then
  match S i with
  | none => ∃ v, (∀ w, (∃ p : Regrown, w = grow (redrawn W p.d) p.os) -> sameUpon w v ((execOp a.eval o).run P w)) /\ K (a.put o.dst v) ω
  | some R => (∀ w, GrowAt X W ω i w -> growUpon P R w ((execOp a.eval o).run P w)) /\ ∀ v w', R v w' -> GrowAt X W ω i w' -> K (a.put o.dst v) (moment ω i w')
 else K (a.put o.dst undef) ω
def wpGrow (P : Program) (ops : Array Oper) (X : Nat -> Nat -> Bool) (W : World) (S : Nat -> Option (Value -> World -> Prop)) (Q : Act -> (Nat -> World) -> Prop) : List (Nat × Oper) -> Act -> (Nat -> World) -> Prop
 | [], a, ω => Q a ω
 | p :: rest, a, ω => growOp P ops X W S p.1 p.2 (wpGrow P ops X W S Q rest) a ω
variable {X : Nat -> Nat -> Bool} {W : World} {S : Nat -> Option (Value -> World -> Prop)} {Q : Act -> (Nat -> World) -> Prop}
theorem wpGrow_nil {a : Act} {ω : Nat -> World} (h : Q a ω) : wpGrow P ops X W S Q [] a ω := h
theorem wpGrow_step {i : Nat} {o : Oper} {rest : List (Nat × Oper)} {a : Act} {ω : Nat -> World}
  (h : ∀ K : Act -> (Nat -> World) -> Prop, (∀ a ω, wpGrow P ops X W S Q rest a ω -> K a ω) -> growOp P ops X W S i o K a ω) : wpGrow P ops X W S Q ((i, o) :: rest) a ω :=
 h _ (fun _ _ h => h)
theorem grown_of {w : World} (h : Kept (fun _ => False) W w) : ∃ p : Regrown, w = grow (redrawn W p.d) p.os := regrown_of_below h.below
theorem grow_now {j : Nat} {oj : Oper} {w : World} {post : List (Nat × Oper)} (hsj : ∀ cs b, oj.op ≠ .select cs b) (hj0 : Kept (fun _ => False) W w) :
  ∀ (pre : List (Nat × Oper)) (a : Act) (ω : Nat -> World) (w0 : World), (∀ p ∈ pre, p.2.apart ops oj = true /\ X j p.1 = false) -> GrowAt X W ω j w ->
   Kept (fun _ => False) W w0 -> (∀ k, Kept (fun _ => False) (ω k) w0) -> wpGrow P ops X W S Q (pre ++ (j, oj) :: post) a ω -> Region.wanted oj (yielded ops a.tmps) = true ->
   match S j with
   | none => ∃ v, sameUpon w v ((execOp a.eval oj).run P w)
   | some R => growUpon P R w ((execOp a.eval oj).run P w)
 | [], a, ω, w0, _, hj, _, _, h, hw => by
  simp only [List.nil_append, wpGrow, growOp, hw, if_true] at h
  cases hS : S j with
  | none =>
   simp only [hS] at h
   obtain ⟨v, h1, -⟩ := h
   exact ⟨v, h1 w (grown_of hj0)⟩
  | some R =>
   simp only [hS] at h
   exact h.1 w hj
 | p :: pre, a, ω, w0, hp, hj, h0, h1, h, hw => by
  obtain ⟨hap, hx⟩ := hp p List.mem_cons_self
  obtain ⟨a1, a2, a3⟩ := Oper.apart_spec hap
  have hp' : ∀ q ∈ pre, q.2.apart ops oj = true /\ X j q.1 = false := fun q hq => hp q (List.mem_cons_of_mem _ hq)
  have back : ∀ v, execOp (a.put p.2.dst v).eval oj = execOp a.eval oj := fun v => execOp_put oj hsj a p.2.dst v a1
  have wback : ∀ v, Region.wanted oj (yielded ops (a.put p.2.dst v).tmps) = Region.wanted oj (yielded ops a.tmps) := fun v => wanted_put oj a p.2.dst v a1
  simp only [List.cons_append, wpGrow, growOp] at h
  by_cases hwp : Region.wanted p.2 (yielded ops a.tmps) = true
  ·simp only [hwp, if_true] at h
   cases hS : S p.1 with
   | none =>
    simp only [hS] at h
    obtain ⟨v, -, h2⟩ := h
    have := grow_now hsj hj0 pre (a.put p.2.dst v) ω w0 hp' hj h0 h1 h2 (by rw [wback]; exact hw)
    rwa [back] at this
   | some R =>
    simp only [hS] at h
    obtain ⟨v, w', hk, hr⟩ := growUpon_wit (h.1 w0 ⟨h0, fun k _ => h1 k⟩)
    have := grow_now hsj hj0 pre (a.put p.2.dst v) (moment ω p.1 w') w' hp' (hj.moment hx w') (h0.then hk) (fun k => by
     by_cases hkp : k = p.1
     ·rw [hkp, moment_self]; exact Kept.refl _ _
     ·rw [moment_ne _ _ hkp]; exact (h1 k).then hk) (h.2 v w' hr (GrowAt.kept ⟨h0, fun k _ => h1 k⟩ hk)) (by rw [wback]; exact hw)
    rwa [back] at this
  ·simp only [hwp, if_false] at h
   have := grow_now hsj hj0 pre (a.put p.2.dst undef) ω w0 hp' hj h0 h1 h (by rw [wback]; exact hw)
   rwa [back] at this
def Left (P : Program) (ops : Array Oper) (X : Nat -> Nat -> Bool) (W : World) (S : Nat -> Option (Value -> World -> Prop)) (j : Nat) (oj : Oper) (w : World) (a : Act) (ω : Nat -> World) (v : Value) (u : Option World) : Prop :=
 (Region.wanted oj (yielded ops a.tmps) = false /\ v = undef /\ u = none) \/
 (Region.wanted oj (yielded ops a.tmps) = true /\ S j = none /\ sameUpon w v ((execOp a.eval oj).run P w) /\ u = none) \/
 (Region.wanted oj (yielded ops a.tmps) = true /\ ∃ R w', S j = some R /\ R v w' /\ GrowAt X W ω j w' /\ u = some w')
def after (ω : Nat -> World) (j : Nat) : Option World -> (Nat -> World)
 | none => ω
 | some w => moment ω j w
theorem moment_comm (ω : Nat -> World) {i j : Nat} (h : i ≠ j) (w w' : World) : moment (moment ω i w) j w' = moment (moment ω j w') i w := by
 funext k
 unfold moment
 by_cases h1 : k = i
 ·rw [if_pos h1, if_pos h1, if_neg (fun e => h (h1.symm.trans e))]
 ·rw [if_neg h1, if_neg h1]
theorem grow_take {j : Nat} {oj : Oper} {w : World} {post : List (Nat × Oper)} (hsj : ∀ cs b, oj.op ≠ .select cs b) (hj0 : Kept (fun _ => False) W w) {v : Value} {u : Option World} :
  ∀ (pre : List (Nat × Oper)) (a : Act) (ω : Nat -> World), (∀ p ∈ pre, p.2.apart ops oj = true /\ X j p.1 = false /\ X p.1 j = false /\ p.1 ≠ j /\ ∀ cs b, p.2.op ≠ .select cs b) ->
   Left P ops X W S j oj w a ω v u -> wpGrow P ops X W S Q (pre ++ (j, oj) :: post) a ω -> wpGrow P ops X W S Q (pre ++ post) (a.put oj.dst v) (after ω j u)
 | [], a, ω, _, hl, h => by
  simp only [List.nil_append, wpGrow, growOp] at h ⊢
  rcases hl with ⟨hw, rfl, rfl⟩ | ⟨hw, hS, hv, rfl⟩ | ⟨hw, R, w', hS, hr, hg, rfl⟩
  ·simp only [hw, Bool.false_eq_true, if_false] at h; exact h
  ·simp only [hw, if_true, hS] at h
   obtain ⟨v', h1, h2⟩ := h
   have e := sameUpon_one hv (h1 w (grown_of hj0))
   subst e
   exact h2
  ·simp only [hw, if_true, hS] at h
   exact h.2 v w' hr hg
 | p :: pre, a, ω, hp, hl, h => by
  obtain ⟨hap, hx, hx2, hne, hsp⟩ := hp p List.mem_cons_self
  obtain ⟨a1, a2, a3⟩ := Oper.apart_spec hap
  have hp' : ∀ q ∈ pre, q.2.apart ops oj = true /\ X j q.1 = false /\ X q.1 j = false /\ q.1 ≠ j /\ ∀ cs b, q.2.op ≠ .select cs b := fun q hq => hp q (List.mem_cons_of_mem _ hq)
  have keep : ∀ (vp : Value) (ω' : Nat -> World), (∀ w', GrowAt X W ω j w' -> GrowAt X W ω' j w') -> Left P ops X W S j oj w (a.put p.2.dst vp) ω' v u := by
   intro vp ω' hω
   unfold Left
   rw [wanted_put oj a p.2.dst vp a1, execOp_put oj hsj a p.2.dst vp a1]
   rcases hl with h | h | ⟨hw, R, w', hS, hr, hg, hu⟩
   ·exact .inl h
   ·exact .inr (.inl h)
   ·exact .inr (.inr ⟨hw, R, w', hS, hr, hω w' hg, hu⟩)
  have e1 : execOp (a.put oj.dst v).eval p.2 = execOp a.eval p.2 := execOp_put p.2 hsp a oj.dst v a3
  have e2 : Region.wanted p.2 (yielded ops (a.put oj.dst v).tmps) = Region.wanted p.2 (yielded ops a.tmps) := wanted_put p.2 a oj.dst v a3
  have e3 : ∀ vp, (a.put p.2.dst vp).put oj.dst v = (a.put oj.dst v).put p.2.dst vp := fun vp => Act.put_comm a vp v a2
  simp only [List.cons_append, wpGrow, growOp] at h ⊢
  rw [e1, e2]
  by_cases hwp : Region.wanted p.2 (yielded ops a.tmps) = true
  ·simp only [hwp, if_true] at h ⊢
   cases hS : S p.1 with
   | none =>
    simp only [hS] at h ⊢
    obtain ⟨vp, h1, h2⟩ := h
    refine ⟨vp, h1, ?_⟩
    have := grow_take hsj hj0 pre (a.put p.2.dst vp) ω hp' (keep vp ω fun _ h => h) h2
    rwa [e3] at this
   | some R =>
    simp only [hS] at h ⊢
    have gback : ∀ w', GrowAt X W (after ω j u) p.1 w' -> GrowAt X W ω p.1 w' := by
     intro w' hg
     cases u with
     | none => exact hg
     | some wu => exact hg.unmoment hx2
    refine ⟨fun w' hg => h.1 w' (gback w' hg), fun vp wp hr hg => ?_⟩
    have := grow_take hsj hj0 pre (a.put p.2.dst vp) (moment ω p.1 wp) hp' (keep vp _ fun w' h => h.moment hx wp) (h.2 vp wp hr (gback wp hg))
    rw [e3] at this
    cases u with
    | none => exact this
    | some wu => simp only [after] at this ⊢; rwa [moment_comm _ hne] at this
  ·simp only [hwp, if_false] at h ⊢
   have := grow_take hsj hj0 pre (a.put p.2.dst undef) ω hp' (keep undef ω fun _ h => h) h
   rwa [e3] at this
/-! ### what is asked of the region -/
def waits (md : Region.Mode) (ops : Array Oper) (X : Nat -> Nat -> Bool) (j k : Nat) : Bool :=
 match ops[j]? with
 | some oj => oj.after.any fun e => Region.binds md e && (e.on == k || X e.on k)
 | none => false
def pureOp (o : Oper) : Bool := match o.op with | .move _ => true | .extract _ _ => true | _ => false
def apartB (ops : Array Oper) (i j : Nat) : Bool :=
 match ops[i]?, ops[j]? with
 | some oi, some oj => oi.apart ops oj
 | _, _ => true
def maskX (ms : Array Nat) (j k : Nat) : Bool := decide (k < j) && decide (j < ms.size) && (ms.getD j 0).testBit k
def growB (md : Region.Mode) (ops : Array Oper) (X : Nat -> Nat -> Bool) (n : Nat) (late : List Nat) : Bool :=
 Region.noSelect ops && decide (n <= ops.size) &&
 (List.range ops.size).all (fun j => match ops[j]? with | some oj => oj.after.all fun e => !Region.binds md e || decide (e.on < j) | none => true) &&
 (List.range ops.size).all (fun j => (List.range j).all fun k => !X j k || waits md ops X j k) &&
 (List.range n).all (fun j => (List.range j).all fun i => X j i || apartB ops i j) &&
 (List.range ops.size).all (fun t => decide (t < n) || (List.range n).all fun i => late.contains i || X t i) &&
 late.all (fun i => decide (i < n) && (match ops[i]? with | some oi => pureOp oi | none => false) && (List.range ops.size).all fun j => j == i || X i j || Region.waitsFor md ops j i || apartB ops i j) &&
 Region.seqB md ops (ops.size - n) n ((Array.range ops.size).map fun t => decide (t < n))
structure GrowChk (md : Region.Mode) (ops : Array Oper) (X : Nat -> Nat -> Bool) (n : Nat) (late : List Nat) : Prop where
 sel : ∀ (j : Nat) (o : Oper) cs b, ops[j]? = some o -> o.op ≠ .select cs b
 fits : n <= ops.size
 back : ∀ j oj, ops[j]? = some oj -> ∀ e ∈ oj.after, Region.binds md e = true -> e.on < j
 why : ∀ j k, X j k = true -> ∃ oj, ops[j]? = some oj /\ ∃ e ∈ oj.after, Region.binds md e = true /\ (e.on = k \/ X e.on k = true)
 lt : ∀ j k, X j k = true -> k < j
 apart : ∀ i j oi oj, i < j -> j < n -> ops[i]? = some oi -> ops[j]? = some oj -> X j i = false -> oi.apart ops oj = true
 tail : ∀ t i, n <= t -> t < ops.size -> i < n -> i ∉ late -> X t i = true
 latePure : ∀ i ∈ late, ∃ oi, ops[i]? = some oi /\ pureOp oi = true /\ ∀ j oj, j ≠ i -> X i j = false -> ops[j]? = some oj -> (∀ e ∈ oj.after, Region.binds md e = true -> e.on ≠ i) -> oi.apart ops oj = true
 seq : Region.seqB md ops (ops.size - n) n ((Array.range ops.size).map fun t => decide (t < n)) = true
theorem growChk {ms : Array Nat} {n : Nat} {late : List Nat} (hms : ms.size = ops.size) (h : growB md ops (maskX ms) n late = true) : GrowChk md ops (maskX ms) n late := by
 simp only [growB, Bool.and_eq_true, List.all_eq_true, List.mem_range, decide_eq_true_eq, Bool.or_eq_true, beq_iff_eq] at h
 obtain ⟨⟨⟨⟨⟨⟨⟨h1, h2⟩, h3⟩, h4⟩, h5⟩, h6⟩, h7⟩, h8⟩ := h
 have hlt : ∀ j k, maskX ms j k = true -> k < j /\ j < ops.size := fun j k hx => by
  simp only [maskX, Bool.and_eq_true, decide_eq_true_eq] at hx
  exact ⟨hx.1.1, by rw [<- hms]; exact hx.1.2⟩
 have size : ∀ {j : Nat} {oj : Oper}, ops[j]? = some oj -> j < ops.size := fun hj => (Array.getElem?_eq_some_iff.1 hj).1
 refine ⟨Region.noSelect_spec h1, h2, ?_, ?_, fun j k hx => (hlt j k hx).1, ?_, ?_, ?_, h8⟩
 ·intro j oj hj e he hb
  have := h3 j (size hj)
  simp only [hj, Array.all_eq_true_iff_forall_mem, Bool.or_eq_true, decide_eq_true_eq, Bool.not_eq_true'] at this
  rcases this e he with h | h
  ·rw [hb] at h; cases h
  ·exact h
 ·intro j k hx
  obtain ⟨l1, l2⟩ := hlt j k hx
  have := h4 j l2 k l1
  rw [hx] at this
  simp only [Bool.not_true, Bool.false_eq_true, false_or] at this
  unfold waits at this
  split at this
  ·rename_i oj hj
   obtain ⟨e, he, hb⟩ := Array.any_eq_true'.1 this
   simp only [Bool.and_eq_true, Bool.or_eq_true, beq_iff_eq] at hb
   exact ⟨oj, hj, e, he, hb.1, hb.2⟩
  ·cases this
 ·intro i j oi oj hij hjn hi hj hx
  have := h5 j hjn i hij
  rw [hx] at this
  simpa [apartB, hi, hj] using this
 ·intro t i ht1 ht2 hi hl
  rcases h6 t ht2 with h | h
  ·omega
  ·rcases h i hi with h | h
   ·exact absurd (by simpa using h) hl
   ·exact h
 ·intro i hi
  obtain ⟨⟨l1, l2⟩, l3⟩ := h7 i hi
  cases ho : ops[i]? with
  | none => rw [ho] at l2; cases l2
  | some oi =>
   rw [ho] at l2
   refine ⟨oi, rfl, l2, fun j oj hne hx hj hno => ?_⟩
   rcases l3 j (size hj) with ((h | h) | h) | h
   ·exact absurd h hne
   ·rw [hx] at h; cases h
   ·obtain ⟨oj', hj', e, he, hb, hon⟩ := Region.waitsFor_spec h
    cases hj.symm.trans hj'
    exact absurd hon (hno e he hb)
   ·simpa [apartB, ho, hj] using h
theorem pure_run {o : Oper} (hp : pureOp o = true) {ρ : Operand -> Value} {w : World} {v : Value} (h : sameUpon w v ((execOp ρ o).run P w)) (w' : World) : (execOp ρ o).run P w' = .ok (.value v) w' := by
 unfold pureOp at hp
 split at hp
 ·rename_i x hx
  have e : ∀ w, (execOp ρ o).run P w = .ok (.value (ρ x)) w := fun w => by unfold execOp; rw [hx]; rfl
  rw [e] at h ⊢
  rw [h.2]
 ·rename_i t ix hx
  cases ht : ρ t with
  | tuple vs =>
   cases hu : vs[ix]? with
   | some u =>
    have e : ∀ w, (execOp ρ o).run P w = .ok (.value u) w := fun w => by simp [execOp, hx, Instr.extract, ht, hu, go_sem]
    rw [e] at h ⊢
    rw [h.2]
   | none => exfalso; simp [execOp, hx, Instr.extract, ht, hu, go_sem, sameUpon] at h
  | _ => exfalso; simp [execOp, hx, Instr.extract, ht, go_sem, sameUpon] at h
 ·cases hp
/-! ### every order -/
theorem listed_of_X {X : Nat -> Nat -> Bool} {n : Nat} {late : List Nat} (c : GrowChk md ops X n late) {listed : Array Bool} (hcl : ∀ j oj, ops[j]? = some oj -> listed.getD j false = true -> ∀ e ∈ oj.after, Region.binds md e = true -> listed.getD e.on false = true) :
  ∀ (j : Nat), (∀ oj, ops[j]? = some oj -> ∀ e ∈ oj.after, Region.binds md e = true -> listed.getD e.on false = true) -> ∀ k, X j k = true -> listed.getD k false = true := by
 intro j
 induction j using Nat.strongRecOn with
 | _ j ih =>
  intro hj k hx
  obtain ⟨oj, hoj, e, he, hb, hon⟩ := c.why j k hx
  have h1 := hj oj hoj e he hb
  rcases hon with rfl | hon
  ·exact h1
  ·exact ih e.on (c.back j oj hoj e he hb) (fun o ho => hcl e.on o ho h1) k hon
theorem wpOp_of_left {j : Nat} {oj : Oper} {w : World} {a : Act} {ω : Nat -> World} {K : Act -> World -> Prop} {Q' : Exit -> Act -> World -> Prop} {X : Nat -> Nat -> Bool} {W : World} {S : Nat -> Option (Value -> World -> Prop)} (hoj : ops[j]? = some oj) (hg : GrowAt X W ω j w)
  (hnow : Region.wanted oj (yielded ops a.tmps) = true -> match S j with | none => ∃ v, sameUpon w v ((execOp a.eval oj).run P w) | some R => growUpon P R w ((execOp a.eval oj).run P w))
  (hK : ∀ v u w', Left P ops X W S j oj w a ω v u -> Kept (fun _ => False) w w' -> (∀ x, u = some x -> x = w') -> K (a.put oj.dst v) w') : wpOp P ops Q' j K a w := by
 unfold wpOp
 simp only [hoj]
 split
 ·rename_i hw
  have h := hnow hw
  refine .inl ?_
  unfold Oper.wp
  cases hS : S j with
  | none =>
   simp only [hS] at h
   obtain ⟨v, hv⟩ := h
   have hk := hK v none w (.inr (.inl ⟨hw, hS, hv, rfl⟩)) (Kept.refl _ _) (fun x h => by cases h)
   generalize (execOp a.eval oj).run P w = r at hv hk
   cases r with
   | ok m w' =>
    cases m <;> simp only [sameUpon] at hv <;> simp only [Oper.upon]
    case value u => obtain ⟨rfl, rfl⟩ := hv; exact hk
    case skip => obtain ⟨rfl, rfl⟩ := hv; exact hk
   | halt x w' => cases hv
  | some R =>
   simp only [hS] at h
   have hk : ∀ v w', R v w' -> Kept (fun _ => False) w w' -> K (a.put oj.dst v) w' := fun v w' hr hkk => hK v (some w') w' (.inr (.inr ⟨hw, R, w', hS, hr, hg.kept hkk, rfl⟩)) hkk (fun x h => by cases h; rfl)
   generalize (execOp a.eval oj).run P w = r at h
   cases r with
   | ok m w' =>
    cases m <;> simp only [growUpon] at h <;> simp only [Oper.upon]
    case value u => exact hk _ _ h.2 h.1
    case skip => exact hk _ _ h.2 h.1
    case enter g args =>
     obtain ⟨rfl, hc⟩ := h
     exact hc.mono fun e w'' ⟨v, he, hkk, hr⟩ => by subst he; exact hk _ _ hr hkk
   | halt x w' => cases h
 ·rename_i hw
  exact hK undef none w (.inl ⟨by simpa using hw, rfl, rfl⟩) (Kept.refl _ _) (fun x h => by cases h)
theorem grow_any {X : Nat -> Nat -> Bool} {W : World} {S : Nat -> Option (Value -> World -> Prop)} {Q : Act -> (Nat -> World) -> Prop} {Q' : Exit -> Act -> World -> Prop} {n : Nat} {late : List Nat} (c : GrowChk md ops X n late) (hlate : ∀ i ∈ late, S i = none) (hQ : ∀ d v c a w, Q' (.panic c) (Act.put a d v) w -> Q' (.panic c) a w)
  (hT : ∀ a ω w, Kept (fun _ => False) W w -> (∀ k, Kept (fun _ => False) (ω k) w) -> Q a ω -> wpList P ops Q' (ops.toList.drop n) a w) :
  ∀ (m : Nat) (res : List (Nat × Oper)) (listed : Array Bool) (a : Act) (ω : Nat -> World) (w : World), res.length = m -> listed.size = ops.size ->
   (∀ j oj, ops[j]? = some oj -> listed.getD j false = true -> ∀ e ∈ oj.after, Region.binds md e = true -> listed.getD e.on false = true) ->
   (∀ p ∈ res, ops[p.1]? = some p.2 /\ p.1 < n /\ listed.getD p.1 true = false) -> (∀ i o, ops[i]? = some o -> i < n -> listed.getD i true = false -> (i, o) ∈ res) ->
   (∀ t, n <= t -> t < ops.size -> listed.getD t true = false) -> res.Pairwise (fun p q => p.1 < q.1) ->
   Kept (fun _ => False) W w -> (∀ k, Kept (fun _ => False) (ω k) w) -> wpGrow P ops X W S Q res a ω -> wpAny P md ops Q' (m + (ops.size - n)) listed a w := by
 intro m
 induction m with
 | zero =>
  intro res listed a ω w hm hsz hcl hin hun htl hord hW hω h
  have hr : res = [] := List.eq_nil_of_length_eq_zero hm
  subst hr
  have hl : listed = (Array.range ops.size).map fun t => decide (t < n) := by
   refine Array.ext (by simp [hsz]) (fun i h1 h2 => ?_)
   have hi : i < ops.size := by rw [<- hsz]; exact h1
   simp only [Array.getElem_map, Array.getElem_range]
   by_cases hin' : i < n
   ·have : listed.getD i true ≠ false := fun hf => by have := hun i _ (Array.getElem?_eq_getElem hi) hin' hf; cases this
    simp [h1] at this
    simp [hin', this]
   ·have := htl i (by omega) hi
    simp [h1] at this
    simp [hin', this]
  have h1 := wpAny_of_seq (md := md) (Q' := Q') (P := P) (ops.toList.drop n) n listed a w (fun j => by simp [List.getElem?_drop]) (by rw [List.length_drop, Array.length_toList, hl]; exact c.seq) (hT a ω w hW hω h)
  rw [List.length_drop, Array.length_toList] at h1
  rwa [Nat.zero_add]
 | succ m ih =>
  intro res listed a ω w hm hsz hcl hin hun htl hord hW hω h
  obtain ⟨p0, rest, rfl⟩ : ∃ p r, res = p :: r := by cases res with | nil => cases hm | cons p r => exact ⟨p, r, rfl⟩
  have hp0 := hin p0 List.mem_cons_self
  have un : ∀ {i : Nat}, i < ops.size -> listed.getD i true ≠ false -> listed.getD i false = true := by
   intro i hi hne
   have : i < listed.size := by rw [hsz]; exact hi
   simp [this] at hne ⊢; exact hne
  have hready0 : p0.1 ∈ Region.ready md ops listed := by
   refine mem_ready.2 ⟨hp0.2.2, p0.2, hp0.1, fun e he hb => ?_⟩
   have hlt := c.back _ _ hp0.1 e he hb
   have hes : e.on < ops.size := Nat.lt_trans hlt (Array.getElem?_eq_some_iff.1 hp0.1).1
   refine un hes (fun hf => ?_)
   have hmem := hun e.on _ (Array.getElem?_eq_getElem hes) (by omega) hf
   rcases List.mem_cons.1 hmem with h1 | h1
   ·rw [<- h1] at hlt; exact Nat.lt_irrefl _ hlt
   ·have := (List.pairwise_cons.1 hord).1 _ h1; simp only at this; omega
  rw [show m + 1 + (ops.size - n) = (m + (ops.size - n)) + 1 by omega]
  -- the next state
  have next : ∀ (pre post : List (Nat × Oper)) (j : Nat) (oj : Oper), p0 :: rest = pre ++ (j, oj) :: post -> j ∈ Region.ready md ops listed ->
    (pre ++ post).length = m /\ (listed.setIfInBounds j true).size = ops.size /\
    (∀ i oi, ops[i]? = some oi -> (listed.setIfInBounds j true).getD i false = true -> ∀ e ∈ oi.after, Region.binds md e = true -> (listed.setIfInBounds j true).getD e.on false = true) /\
    (∀ p ∈ pre ++ post, ops[p.1]? = some p.2 /\ p.1 < n /\ (listed.setIfInBounds j true).getD p.1 true = false) /\ (∀ i o, ops[i]? = some o -> i < n -> (listed.setIfInBounds j true).getD i true = false -> (i, o) ∈ pre ++ post) /\
    (∀ t, n <= t -> t < ops.size -> (listed.setIfInBounds j true).getD t true = false) /\ (pre ++ post).Pairwise (fun p q => p.1 < q.1) := by
   intro pre post j oj hsp hj
   rw [hsp] at hm hin hun hord
   have hjin := hin (j, oj) (List.mem_append_right _ List.mem_cons_self)
   obtain ⟨q1, q2, q3⟩ := List.pairwise_append.1 hord
   obtain ⟨q4, q5⟩ := List.pairwise_cons.1 q2
   have hne : ∀ p ∈ pre ++ post, p.1 ≠ j := by
    intro p hp
    rcases List.mem_append.1 hp with h1 | h1
    ·exact Nat.ne_of_lt (q3 p h1 (j, oj) List.mem_cons_self)
    ·exact Nat.ne_of_gt (q4 p h1)
   refine ⟨by simp only [List.length_append, List.length_cons] at hm ⊢; omega, by simpa using hsz, ?_, ?_, ?_, ?_, ?_⟩
   ·intro i oi hi hl e he hb
    by_cases hij : j = i
    ·subst hij
     obtain ⟨_, o', ho', hall⟩ := mem_ready.1 hj
     cases hi.symm.trans ho'
     exact getD_set_true (hall e he hb)
    ·rw [getD_set_ne false hij] at hl
     exact getD_set_true (hcl i oi hi hl e he hb)
   ·intro p hp
    have h1 := hin p (by rcases List.mem_append.1 hp with h | h; exact List.mem_append_left _ h; exact List.mem_append_right _ (List.mem_cons_of_mem _ h))
    exact ⟨h1.1, h1.2.1, by rw [getD_set_ne true (Ne.symm (hne p hp))]; exact h1.2.2⟩
   ·intro i o hi hin' hf
    have hij : j ≠ i := by
     rintro rfl
     have : j < listed.size := by rw [hsz]; exact (Array.getElem?_eq_some_iff.1 hi).1
     simp [this] at hf
    rw [getD_set_ne true hij] at hf
    rcases List.mem_append.1 (hun i o hi hin' hf) with h1 | h1
    ·exact List.mem_append_left _ h1
    ·rcases List.mem_cons.1 h1 with h2 | h2
     ·exact absurd (Prod.ext_iff.1 h2).1.symm hij
     ·exact List.mem_append_right _ h2
   ·intro t ht1 ht2
    rw [getD_set_ne true (by have := hjin.2.1; simp only at this; omega)]
    exact htl t ht1 ht2
   ·exact List.pairwise_append.2 ⟨q1, q5, fun x hx y hy => q3 x hx y (List.mem_cons_of_mem _ hy)⟩
  by_cases hall : ∀ p ∈ p0 :: rest, p.1 ∈ late
  ·-- only late ones are left
   obtain ⟨oi, hoi, hpure, hfree⟩ := c.latePure p0.1 (hall p0 List.mem_cons_self)
   cases hp0.1.symm.trans hoi
   obtain ⟨n1, n2, n3, n4, n5, n6, n7⟩ := next [] rest p0.1 p0.2 rfl hready0
   have hS := hlate p0.1 (hall p0 List.mem_cons_self)
   have notX : ∀ j, listed.getD j true = false -> X p0.1 j = false := by
    intro j hju
    cases hx : X p0.1 j with
    | false => rfl
    | true =>
     obtain ⟨_, o', ho', hall'⟩ := mem_ready.1 hready0
     have h1 := listed_of_X c hcl p0.1 (fun o ho e he hb => by cases ho'.symm.trans ho; exact hall' e he hb) j hx
     rw [getD_both hju] at h1; cases h1
   simp only [wpGrow, growOp] at h
   by_cases hw : Region.wanted p0.2 (yielded ops a.tmps) = true
   ·simp only [hw, if_true, hS] at h
    obtain ⟨v, h1, h2⟩ := h
    have hy : Yields P ops p0.2 v a := .inl ⟨hw, fun w' => pure_run hpure (h1 w (grown_of hW)) w'⟩
    exact wpAny_first hp0.1 c.sel (fun c a w => hQ _ _ c a w) _ listed a w (fun j oj hj hne hju hno => hfree j oj hne (notX j hju) hj hno) hready0 hy (ih rest _ _ ω w n1 n2 n3 n4 n5 n6 n7 hW hω h2)
   ·simp only [hw, if_false] at h
    have hy : Yields P ops p0.2 undef a := .inr ⟨by simpa using hw, rfl⟩
    exact wpAny_first hp0.1 c.sel (fun c a w => hQ _ _ c a w) _ listed a w (fun j oj hj hne hju hno => hfree j oj hne (notX j hju) hj hno) hready0 hy (ih rest _ _ ω w n1 n2 n3 n4 n5 n6 n7 hW hω h)
  ·refine ⟨fun h0 => (by rw [h0] at hready0; cases hready0), fun j hj => ?_⟩
   obtain ⟨hjun, oj, hoj, hjall⟩ := mem_ready.1 hj
   have hjs : j < ops.size := (Array.getElem?_eq_some_iff.1 hoj).1
   have seen : ∀ k, X j k = true -> listed.getD k false = true := listed_of_X c hcl j (fun o ho e he hb => by cases hoj.symm.trans ho; exact hjall e he hb)
   have unl : ∀ p ∈ p0 :: rest, X j p.1 = false := by
    intro p hp
    cases hx : X j p.1 with
    | false => rfl
    | true =>
     have h1 := seen _ hx
     have h2 := (hin p hp).2.2
     rw [getD_both h2] at h1; cases h1
   have hjn : j < n := by
    rcases Nat.lt_or_ge j n with h1 | h1
    ·exact h1
    ·exfalso
     apply hall
     intro p hp
     refine Decidable.byContradiction fun hnl => ?_
     have := c.tail j p.1 h1 hjs (hin p hp).2.1 hnl
     rw [unl p hp] at this; cases this
   obtain ⟨pre, post, hsp⟩ := List.append_of_mem (hun j oj hoj hjn hjun)
   obtain ⟨n1, n2, n3, n4, n5, n6, n7⟩ := next pre post j oj hsp hj
   rw [hsp] at h hord unl hin
   have hprelt : ∀ p ∈ pre, p.1 < j := fun p hp => (List.pairwise_append.1 hord).2.2 p hp (j, oj) List.mem_cons_self
   have hpre : ∀ p ∈ pre, p.2.apart ops oj = true /\ X j p.1 = false /\ X p.1 j = false /\ p.1 ≠ j /\ ∀ cs b, p.2.op ≠ .select cs b := by
    intro p hp
    have hpi := hin p (List.mem_append_left _ hp)
    have hx := unl p (List.mem_append_left _ hp)
    have hlt := hprelt p hp
    refine ⟨c.apart p.1 j p.2 oj hlt hjn hpi.1 hoj hx, hx, ?_, Nat.ne_of_lt hlt, fun cs b => c.sel p.1 p.2 cs b hpi.1⟩
    cases hx2 : X p.1 j with
    | false => rfl
    | true => have := c.lt _ _ hx2; omega
   have hg : GrowAt X W ω j w := ⟨hW, fun k _ => hω k⟩
   refine wpOp_of_left (X := X) (S := S) hoj hg (grow_now (fun cs b => c.sel j oj cs b hoj) hW pre a ω w (fun p hp => ⟨(hpre p hp).1, (hpre p hp).2.1⟩) hg hW hω h) fun v u w' hl hk hu => ?_
   refine ih (pre ++ post) _ _ (after ω j u) w' n1 n2 n3 n4 n5 n6 n7 (hW.then hk) (fun k => ?_) (grow_take (fun cs b => c.sel j oj cs b hoj) hW pre a ω hpre hl h)
   cases u with
   | none => exact (hω k).then hk
   | some x =>
    simp only [after]
    by_cases hkj : k = j
    ·rw [hkj, moment_self, hu x rfl]; exact Kept.refl _ _
    ·rw [moment_ne _ _ hkj]; exact (hω k).then hk
def number : Nat -> List Oper -> List (Nat × Oper)
 | _, [] => []
 | k, o :: l => (k, o) :: number (k + 1) l
theorem number_length : ∀ (k : Nat) (l : List Oper), (number k l).length = l.length
 | _, [] => rfl
 | k, o :: l => by simp [number, number_length (k + 1) l]
theorem mem_number : ∀ {k : Nat} {l : List Oper} {p : Nat × Oper}, p ∈ number k l ↔ k <= p.1 /\ l[p.1 - k]? = some p.2
 | k, [], p => by simp [number]
 | k, o :: l, p => by
  rw [number, List.mem_cons, mem_number]
  obtain ⟨i, q⟩ := p
  simp only [Prod.mk.injEq]
  constructor
  ·rintro (⟨rfl, rfl⟩ | ⟨h1, h2⟩)
   ·simp
   ·refine ⟨by omega, ?_⟩
    rw [show i - k = (i - (k + 1)) + 1 by omega, List.getElem?_cons_succ]; exact h2
  ·rintro ⟨h1, h2⟩
   by_cases hik : i = k
   ·subst hik; simp at h2; exact .inl ⟨rfl, h2.symm⟩
   ·refine .inr ⟨by omega, ?_⟩
    rw [show i - k = (i - (k + 1)) + 1 by omega, List.getElem?_cons_succ] at h2; exact h2
theorem number_sorted : ∀ (k : Nat) (l : List Oper), (number k l).Pairwise (fun p q => p.1 < q.1)
 | _, [] => List.Pairwise.nil
 | k, o :: l => by
  rw [number]
  refine List.pairwise_cons.2 ⟨fun p hp => ?_, number_sorted (k + 1) l⟩
  have := (mem_number.1 hp).1
  simp only; omega
theorem wp_region_grow {id : Nat} {Q' : Exit -> Act -> World -> Prop} {a : Act} {w : World} {l : List Oper} (ms : Array Nat) (n : Nat) (late : List Nat) (S : Nat -> Option (Value -> World -> Prop))
  (hm : P.follows .mixedOrders = true) (hms : ms.size = l.toArray.size) (hB : growB .any l.toArray (maskX ms) n late = true) (hlate : ∀ i ∈ late, S i = none) (hQ : ∀ t v c a w, Q' (.panic c) (Act.put a (some t) v) w -> Q' (.panic c) a w)
  (h : ∀ W, W = w.drew -> wpGrow P l.toArray (maskX ms) W S (fun a' ω => ∀ w', Kept (fun _ => False) W w' -> (∀ k, Kept (fun _ => False) (ω k) w') -> wpList P l.toArray Q' (l.drop n) a' w') (number 0 (l.take n)) a (fun _ => W)) : (Code.region id l.toArray true).wp P Q' a w := by
 have c := growChk (md := .any) hms hB
 refine wp_region_any hm ?_
 have hn : n <= l.length := by simpa using c.fits
 have := grow_any (md := .any) (Q' := Q') c hlate (fun d v c a w h => by cases d with | none => exact h | some t => exact hQ t v c a w h) (W := w.drew) (fun a' ω w' h1 h2 h3 => h3 w' h1 h2) n (number 0 (l.take n)) (Array.replicate l.toArray.size false) a (fun _ => w.drew) w.drew (by rw [number_length]; simp; omega) (by simp)
  (fun j oj _ hl => by rw [getD_replicate_false] at hl; cases hl)
  (fun p hp => by
   obtain ⟨-, h2⟩ := mem_number.1 hp
   rw [Nat.sub_zero, List.getElem?_take] at h2
   split at h2
   ·rename_i hlt
    refine ⟨by simpa using h2, hlt, getD_in (by simp; omega) (getD_replicate_false _ _)⟩
   ·cases h2)
  (fun i o ho hi _ => mem_number.2 ⟨Nat.zero_le _, by rw [Nat.sub_zero, List.getElem?_take, if_pos hi]; simpa using ho⟩)
  (fun t _ ht => getD_in (by simpa using ht) (getD_replicate_false _ _)) (number_sorted _ _) (Kept.refl _ _) (fun _ => Kept.refl _ _) (h _ rfl)
 rw [show n + (l.toArray.size - n) = l.toArray.size by simp; omega] at this
 exact this
end
end Go.Proofs.YtmplpcmcbliadaaGreatDoor
