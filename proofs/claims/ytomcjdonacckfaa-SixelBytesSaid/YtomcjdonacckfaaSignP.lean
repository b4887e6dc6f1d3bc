/- What a decoder always is; what a sign makes of it. -/
import Derived.Test.YtomcjdonacckfaaDone
namespace Go.Proofs.Ytomcjdonacckfaa
open Go.RowKit
set_option linter.unusedVariables false
set_option linter.unusedSimpArgs false
structure DecOk (M : Nat) (d : Dec) : Prop where
  pic : PicOk d d.w.toNat d.h.toNat M
  num : NumOk d
  x : 0 ≤ d.x ∧ d.x ≤ 1048576
  y : 0 ≤ d.y ∧ d.y ≤ 1048576
  now : 0 ≤ d.now ∧ d.now < 256
  rep : 0 ≤ d.rep ∧ d.rep ≤ 65535
  cmd : d.cmd = 0 ∨ d.cmd = 33 ∨ d.cmd = 35 ∨ d.cmd = 34
theorem PicOk.cast {d : Dec} {W0 H0 M : Nat} (h : PicOk d W0 H0 M) : PicOk d d.w.toNat d.h.toNat M := by
  rw [h.w, h.h, Int.toNat_natCast, Int.toNat_natCast]; exact h
theorem cmdOff_ok {M : Nat} {d : Dec} (h : DecOk M d) : DecOk M d.cmdOff :=
  ⟨⟨h.pic.w, h.pic.h, h.pic.most, h.pic.M, h.pic.wb, h.pic.hb, h.pic.z, h.pic.p⟩, ⟨(push_num h.num).len, (push_num h.num).n, (push_num h.num).v⟩, h.x, h.y, h.now, h.rep, .inl rfl⟩
theorem push_ok {M : Nat} {d : Dec} (h : DecOk M d) : DecOk M d.push :=
  ⟨⟨h.pic.w, h.pic.h, h.pic.most, h.pic.M, h.pic.wb, h.pic.hb, h.pic.z, h.pic.p⟩, push_num h.num, h.x, h.y, h.now, h.rep, h.cmd⟩
theorem color_ok {M : Nat} {d : Dec} (h : DecOk M d) : DecOk M d.color := by
  unfold Dec.color
  split
  · exact h
  · rename_i h1
    have h2 := (h.num.n 0).1
    split
    · exact ⟨⟨h.pic.w, h.pic.h, h.pic.most, h.pic.M, h.pic.wb, h.pic.hb, h.pic.z, h.pic.p⟩, ⟨h.num.len, h.num.n, h.num.v⟩, h.x, h.y, ⟨h2, by show d.n.getD 0 0 < 256; omega⟩, h.rep, h.cmd⟩
    · exact ⟨⟨h.pic.w, h.pic.h, h.pic.most, h.pic.M, h.pic.wb, h.pic.hb, h.pic.z, h.pic.p⟩, ⟨h.num.len, h.num.n, h.num.v⟩, h.x, h.y, ⟨h2, by show d.n.getD 0 0 < 256; omega⟩, h.rep, h.cmd⟩
theorem grow_ok {M : Nat} {d : Dec} (h : DecOk M d) (hf : d.full = false) {w0 h0 : Nat} (hw0 : 1 ≤ w0 ∧ w0 ≤ 16384) (hh0 : 1 ≤ h0 ∧ h0 ≤ 16384) : DecOk M (d.grow d.w.toNat d.h.toNat (max w0 d.w.toNat) (max h0 d.h.toNat)) := by
  cases hok : growOk d d.w.toNat d.h.toNat (max w0 d.w.toNat) (max h0 d.h.toNat) with
  | true =>
    have hg := (grow_pic h.pic hf (picks_max w0 _) (picks_max h0 _) hw0 hh0 hok).1.cast
    have e : ∀ P : Dec → Prop, P d → (P { d with w := ((max w0 d.w.toNat : Nat) : Int), h := ((max h0 d.h.toNat : Nat) : Int), p := grown d.p d.w.toNat d.h.toNat (max w0 d.w.toNat) (max h0 d.h.toNat) }) → (P { d with full := true, p := [] }) → P (d.grow d.w.toNat d.h.toNat (max w0 d.w.toNat) (max h0 d.h.toNat)) := by
      intro P p1 p2 p3
      unfold Dec.grow
      split
      · exact p1
      · split
        · exact p3
        · exact p2
    exact ⟨hg, e NumOk h.num ⟨h.num.len, h.num.n, h.num.v⟩ ⟨h.num.len, h.num.n, h.num.v⟩, e (fun d => 0 ≤ d.x ∧ d.x ≤ 1048576) h.x h.x h.x, e (fun d => 0 ≤ d.y ∧ d.y ≤ 1048576) h.y h.y h.y, e (fun d => 0 ≤ d.now ∧ d.now < 256) h.now h.now h.now, e (fun d => 0 ≤ d.rep ∧ d.rep ≤ 65535) h.rep h.rep h.rep, e (fun d => d.cmd = 0 ∨ d.cmd = 33 ∨ d.cmd = 35 ∨ d.cmd = 34) h.cmd h.cmd h.cmd⟩
  | false =>
    have e : d.grow d.w.toNat d.h.toNat (max w0 d.w.toNat) (max h0 d.h.toNat) = { d with full := true, p := [] } := by
      unfold growOk at hok
      unfold Dec.grow
      split at hok
      · cases hok
      · rename_i hn
        rw [if_neg hn, if_pos (by have := of_decide_eq_false hok; omega)]
    rw [e]
    exact ⟨⟨h.pic.w, h.pic.h, h.pic.most, h.pic.M, h.pic.wb, h.pic.hb, h.pic.z, fun h => by cases h⟩, ⟨h.num.len, h.num.n, h.num.v⟩, h.x, h.y, h.now, h.rep, h.cmd⟩
theorem done_ok {M : Nat} {d : Dec} (h : DecOk M d) (hf : d.full = false) : DecOk M (d.done d.w.toNat d.h.toNat) := by
  have h2 := cmdOff_ok h
  unfold Dec.done
  split
  · exact h
  · split
    · exact ⟨⟨h2.pic.w, h2.pic.h, h2.pic.most, h2.pic.M, h2.pic.wb, h2.pic.hb, h2.pic.z, h2.pic.p⟩, ⟨h2.num.len, h2.num.n, h2.num.v⟩, h2.x, h2.y, h2.now, (by have := h2.num.n 0; show 0 ≤ max (d.cmdOff.n.getD 0 0) 1 ∧ max (d.cmdOff.n.getD 0 0) 1 ≤ 65535; omega), h2.cmd⟩
    · split
      · exact color_ok h2
      · split
        · split
          · rename_i hw
            obtain ⟨a1, a2, a3, a4, -⟩ := hw
            exact grow_ok h2 hf (by omega) (by omega)
          · exact h2
        · exact h2
/-- One sign, no command's numbers coming. -/
def Dec.plainSign (d : Dec) (c : Nat) : Dec :=
  if 63 ≤ c then ({ d with rep := 0 } : Dec).sixel (c - 63) (max d.rep 1).toNat d.x.toNat d.y.toNat d.w.toNat d.h.toNat d.now.toNat
  else if c = 33 ∨ c = 35 ∨ c = 34 then { d with rep := 0, cmd := (c : Int), n := [], v := 0 }
  else if c = 45 then { d with rep := 0, y := min (d.y + 6) 1048576, down := true, x := 0 }
  else if c = 36 then { d with rep := 0, x := 0 }
  else { d with rep := 0 }
/-- One sign. -/
def Dec.sig (d : Dec) (c : Nat) : Dec :=
  if d.cmd = 0 then d.plainSign c
  else if 48 ≤ c ∧ c ≤ 57 then { d with v := min (10 * d.v + ((c : Int) - 48)) 65535 }
  else if c = 59 then d.push
  else if (d.done d.w.toNat d.h.toNat).full = true then d.done d.w.toNat d.h.toNat
  else (d.done d.w.toNat d.h.toNat).plainSign c
theorem sixel_ok {M : Nat} {d : Dec} (h : DecOk M d) (hf : d.full = false) (v n : Nat) (hn : 1 ≤ n) : DecOk M (d.sixel v n d.x.toNat d.y.toNat d.w.toNat d.h.toNat d.now.toNat) := by
  have hx : ((min (d.x.toNat + n) 1048576 : Nat) : Int) ≤ 1048576 := by omega
  unfold Dec.sixel
  split
  · unfold Dec.sixelNew
    exact ⟨⟨h.pic.w, h.pic.h, h.pic.most, h.pic.M, h.pic.wb, h.pic.hb, h.pic.z, fun _ => paint_length _ _ _ _ _ _ _ _⟩, ⟨h.num.len, h.num.n, h.num.v⟩, ⟨Int.natCast_nonneg _, hx⟩, h.y, h.now, h.rep, h.cmd⟩
  · rename_i hh
    have h16 := hAt_le v d.y.toNat d.x.toNat 6 (by omega)
    have hw : 1 ≤ wAt v d.y.toNat d.x.toNat n 6 ∧ wAt v d.y.toNat d.x.toNat n 6 ≤ 16384 := by unfold wAt; rw [if_neg hh]; omega
    have hg := grow_ok h hf hw (⟨by omega, h16⟩ : 1 ≤ hAt v d.y.toNat d.x.toNat 6 ∧ hAt v d.y.toNat d.x.toNat 6 ≤ 16384)
    split
    · exact hg
    · rename_i hok
      have hok' : growOk d d.w.toNat d.h.toNat (max (wAt v d.y.toNat d.x.toNat n 6) d.w.toNat) (max (hAt v d.y.toNat d.x.toNat 6) d.h.toNat) = true := by simpa using hok
      have hp := (grow_pic h.pic hf (picks_max _ _) (picks_max _ _) hw (⟨by omega, h16⟩ : 1 ≤ hAt v d.y.toNat d.x.toNat 6 ∧ hAt v d.y.toNat d.x.toNat 6 ≤ 16384) hok').1
      unfold Dec.sixelNew
      refine ⟨PicOk.cast ⟨hp.w, hp.h, hp.most, hp.M, hp.wb, hp.hb, hp.z, fun _ => paint_length _ _ _ _ _ _ _ _⟩, ⟨hg.num.len, hg.num.n, hg.num.v⟩, ⟨Int.natCast_nonneg _, hx⟩, hg.y, hg.now, hg.rep, hg.cmd⟩
theorem plainSign_ok {M : Nat} {d : Dec} (h : DecOk M d) (hf : d.full = false) (c : Nat) : DecOk M (d.plainSign c) := by
  have h0 : DecOk M { d with rep := 0 } := ⟨⟨h.pic.w, h.pic.h, h.pic.most, h.pic.M, h.pic.wb, h.pic.hb, h.pic.z, h.pic.p⟩, ⟨h.num.len, h.num.n, h.num.v⟩, h.x, h.y, h.now, ⟨Int.le_refl _, by show (0 : Int) ≤ 65535; omega⟩, h.cmd⟩
  have hr := h.rep
  have hy := h.y
  unfold Dec.plainSign
  split
  · exact sixel_ok h0 hf _ _ (by omega)
  · split
    · rename_i hc
      exact ⟨⟨h.pic.w, h.pic.h, h.pic.most, h.pic.M, h.pic.wb, h.pic.hb, h.pic.z, h.pic.p⟩, ⟨Nat.zero_le _, fun i => by show 0 ≤ ([] : List Int).getD i 0 ∧ ([] : List Int).getD i 0 ≤ 65535; simp, by show (0 : Int) ≤ 0 ∧ (0 : Int) ≤ 65535; omega⟩, h.x, h.y, h.now, h0.rep, by show (c : Int) = 0 ∨ (c : Int) = 33 ∨ (c : Int) = 35 ∨ (c : Int) = 34; omega⟩
    · split
      · exact ⟨⟨h.pic.w, h.pic.h, h.pic.most, h.pic.M, h.pic.wb, h.pic.hb, h.pic.z, h.pic.p⟩, ⟨h.num.len, h.num.n, h.num.v⟩, by show (0 : Int) ≤ 0 ∧ (0 : Int) ≤ 1048576; omega, by show 0 ≤ min (d.y + 6) 1048576 ∧ min (d.y + 6) 1048576 ≤ 1048576; omega, h.now, h0.rep, h.cmd⟩
      · split
        · exact ⟨⟨h.pic.w, h.pic.h, h.pic.most, h.pic.M, h.pic.wb, h.pic.hb, h.pic.z, h.pic.p⟩, ⟨h.num.len, h.num.n, h.num.v⟩, by show (0 : Int) ≤ 0 ∧ (0 : Int) ≤ 1048576; omega, h.y, h.now, h0.rep, h.cmd⟩
        · exact h0
theorem sig_ok {M : Nat} {d : Dec} (h : DecOk M d) (hf : d.full = false) (c : Nat) : DecOk M (d.sig c) := by
  have hv := h.num.v
  unfold Dec.sig
  split
  · exact plainSign_ok h hf c
  · split
    · rename_i hc
      exact ⟨⟨h.pic.w, h.pic.h, h.pic.most, h.pic.M, h.pic.wb, h.pic.hb, h.pic.z, h.pic.p⟩, ⟨h.num.len, h.num.n, by show 0 ≤ min (10 * d.v + ((c : Int) - 48)) 65535 ∧ min (10 * d.v + ((c : Int) - 48)) 65535 ≤ 65535; omega⟩, h.x, h.y, h.now, h.rep, h.cmd⟩
    · split
      · exact push_ok h
      · split
        · exact done_ok h hf
        · rename_i hfu
          exact plainSign_ok (done_ok h hf) (by simpa using hfu) c
end Go.Proofs.Ytomcjdonacckfaa
