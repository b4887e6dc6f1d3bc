/- Any bytes go to text and back, with = and without, cut anywhere: the law walked. -/
import Derived.Test.YtgmbjebighhgkaaTails
import Derived.Test.YtgmbjebighhgkaaEnc
import Derived.Deep.LoopGhost
namespace Go.Proofs.Ytgmbjebighhgkaa
open Go.RowKit
set_option linter.unusedVariables false
set_option linter.unusedSimpArgs false
theorem rem_cases (c m : Int) (hm : 0 < m) (hcl : -9223372036854775808 ≤ c) : ∃ n : Nat, (n : Int) < m ∧ ((0 ≤ c ∧ c % m = (n : Int)) ∨ (c < 0 ∧ 0 < n ∧ c.tmod m = -(n : Int)) ∨ (c < 0 ∧ c.tmod m = (n : Int))) := by
  by_cases hc : 0 ≤ c
  · exact ⟨(c % m).toNat, by have := Int.emod_nonneg c (Int.ne_of_gt hm); have := Int.emod_lt_of_pos c hm; omega, .inl ⟨hc, by have := Int.emod_nonneg c (Int.ne_of_gt hm); omega⟩⟩
  · have h1 : c.tmod m = -((-c) % m) := by rw [← Int.tmod_eq_emod_of_nonneg (by omega), Int.neg_tmod]; omega
    have h2 := Int.emod_nonneg (-c) (Int.ne_of_gt hm)
    have h3 := Int.emod_lt_of_pos (-c) hm
    refine ⟨((-c) % m).toNat, by omega, .inr ?_⟩
    by_cases h0 : (-c) % m = 0
    · exact .inr ⟨by omega, by omega⟩
    · exact .inl ⟨by omega, by omega, by omega⟩
theorem step_appW {P : Program} {w : World} {ops : Array Oper} {o : Oper} {a : Act} {K : Act → World → Prop} {Q : Exit → Act → World → Prop} {E : Prop} (s x : Operand) (t : TypeId)
    (ho : o.op = .call { callee := .builtin .append, args := #[s, x], argTypes := #[t, t] })
    (e : TypeId) (k : IntKind) (i : TypeInfo) (z : Value) (bytes : Nat) (ht : P.underlying t = some (.slice e)) (hi : P.info? e = some i) (hz : i.zero = some z)
    (hsize : i.size = 1) (hby : i.bytes = bytes) (hzs : z.cells.size = 1)
    (v : Value) (xs : List Int) (hs : a.eval s = v) (hown : Own k e w v xs)
    (ad : Option Addr) (m c : Nat) (ys : List Int) (hx : a.eval x = .slice ad m c) (hnil : ad = none → m = 0 ∧ c = 0) (hsl : SlAt k w ad m ys)
    (hbytes : (xs.length + m) * bytes ≤ 140737488355328) (h63 : xs.length + m ≤ maxLen)
    (hw : Region.wanted o (yielded ops a.tmps) = true)
    (h : ∀ v' w', Own k e w' v' (xs ++ ys) → Kept (fun k => v.ownBlock = some k) w w' → (v'.ownBlock = v.ownBlock ∨ v'.ownBlock = some w.heap.size) → K (a.put o.dst v') w') :
    if Region.wanted o (yielded ops a.tmps) = true then Oper.wp P o a w K Q else E := by
  rw [if_pos hw]
  obtain ⟨v', w', hrun, h1, h2, h3⟩ := run_appInts (ty := o.type) ht hi hz hsize hby hzs hown (c := c) hnil hsl hbytes h63
  unfold Oper.wp
  simp [execOp, ho, resolve, invoke, builtin, hs, hx, Result.andThen]
  rw [hrun]
  exact h v' w' h1 h2 h3
/-- What stands of the text between two pieces: the decoder, what came, the rest. -/
structure Mid (w wr : World) (p : Nat) (T : List Nat) (Q : Nat) (s : St) (x : List Nat) (ta : Option Addr) (tl tc : Nat) (ov : Value) : Prop where
  sl : SlAt .u8 wr ta tl (ints (T.drop Q))
  le : tl ≤ tc
  cm : tc ≤ 9223372036854775807
  nil : ta = none → tl = 0 ∧ tc = 0
  ok : ∀ b off, 0 < tl → ta = some ⟨b, off, none⟩ → w.heap.size ≤ b ∧ b < p
  d : DAt wr p s
  good : s.bad = false
  run : run fresh (T.take Q) = some (s, x)
  own : Own .u8 5 wr ov (ints x)
  fr : ∀ g, ov.ownBlock = some g → p < g
  kept : Kept (fun _ => False) w wr
  hp : w.heap.size ≤ p
  hl : tl + Q = T.length
theorem Mid.ne {w wr : World} {p : Nat} {T : List Nat} {Q : Nat} {s : St} {x : List Nat} {ta : Option Addr} {tl tc : Nat} {ov : Value} (h : Mid w wr p T Q s x ta tl tc ov) : ov.ownBlock ≠ some p := fun e => by have := h.fr p e; omega
theorem Mid.frw {w wr : World} {p : Nat} {T : List Nat} {Q : Nat} {s : St} {x : List Nat} {ta : Option Addr} {tl tc : Nat} {ov : Value} (h : Mid w wr p T Q s x ta tl tc ov) : Fresh w ov := by
  cases e : ov.ownBlock with
  | none => exact .inl e
  | some g => exact .inr ⟨g, e, by have := h.fr g e; have := h.hp; omega⟩
theorem Mid.tl_le {w wr : World} {p : Nat} {T : List Nat} {Q : Nat} {s : St} {x : List Nat} {ta : Option Addr} {tl tc : Nat} {ov : Value} (h : Mid w wr p T Q s x ta tl tc ov) : tl ≤ T.length := by have := h.hl; omega
theorem front_len (T : List Nat) (n : Nat) (h : n ≤ T.length) : (T.take n).length = n := by simp; omega
theorem gives_runT {T b : List Nat} (h : Gives T b) : ∃ s x, run fresh T = some (s, x) := by
  obtain ⟨s, x, y, h, -⟩ := h
  exact ⟨s, x, h⟩
theorem mid_start {w w1 wr w3 : World} {p m tc : Nat} {T : List Nat} {tb : Option Addr} (hl : T.length = m) (hs : SlAt .u8 wr tb m (ints T)) (hmc : m ≤ tc) (hcm : tc ≤ 9223372036854775807) (hn : tb = none → m = 0 ∧ tc = 0) (hk : ∀ b off, tb = some ⟨b, off, none⟩ → w1.heap.size ≤ b) (hz : w.heap.size ≤ w1.heap.size)
    (hkw : Kept (fun _ => False) w wr) (hk3 : Kept (fun _ => False) wr w3) (hp : wr.heap.size = p) (hd : DC w3 p 0 0 0 false false) : Mid w w3 p T 0 fresh [] tb m tc (.slice none 0 0) :=
  ⟨hs.up hk3, hmc, hcm, hn, fun b off h0 h => ⟨by have := hk b off h; omega, by
    rcases hs.2 with h1 | ⟨b', off', h1, hc⟩
    · omega
    · rw [h] at h1; cases h1; have := lt_of_cell (hc 0 h0); rw [← hp]; exact this⟩, fresh_dc hd, rfl, rfl, Own.nil _ _ _, (fun g h => by cases h), hkw.then hk3, by rw [← hp]; exact hkw.size, by omega⟩
end Go.Proofs.Ytgmbjebighhgkaa
