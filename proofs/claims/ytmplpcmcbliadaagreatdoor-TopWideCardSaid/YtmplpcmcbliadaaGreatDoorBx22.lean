/- strings.TrimRight, at a blank. -/
import Derived.Test.YtmplpcmcbliadaaGreatDoorBx18
import Derived.Deep.LoopGhost
import Derived.Lib.TrimByte
set_option linter.unusedVariables false
set_option linter.unusedSimpArgs false
namespace Go.Proofs.YtmplpcmcbliadaaGreatDoor
open Go.RowKit Go.Lib Pl
def trimI (xs : List Int) : List Int := (xs.reverse.dropWhile (· == 32)).reverse
theorem trimI_blank (zs : List Int) : trimI (zs ++ [32]) = trimI zs := by simp [trimI]
theorem trimI_other (zs : List Int) {y : Int} (h : y ≠ 32) : trimI (zs ++ [y]) = zs ++ [y] := by simp [trimI, List.dropWhile_cons, h]
theorem strOf_cut (zs : List Int) (y : Int) : (strOfNums (zs ++ [y])).extract 0 zs.length = strOfNums zs := by
 unfold strOfNums
 rw [Lib.extract_upto]
 simp
theorem strOf_last (zs : List Int) (y : Int) (h : zs.length < (strOfNums (zs ++ [y])).size) : (strOfNums (zs ++ [y]))[zs.length]'h = UInt8.ofNat y.toNat := by
 show (strOfNums (zs ++ [y])).data[zs.length] = _
 unfold strOfNums
 simp
set_option maxRecDepth 100000 in
set_option maxHeartbeats 4000000 in
theorem trimr_any (xs : List Int) (w : World) (hx : ∀ x ∈ xs, 0 <= x /\ x < 256) (hl : xs.length <= 1000000) : Calls Tryz.prog 108 #[.string (strOfNums xs), .int .u8 32] w fun e w' => e = .returned (.string (strOfNums (trimI xs))) /\ w = w' := by
 have HX := Lib.hid (And.intro hx hl)
 clear hx hl
 go_enter Tryz.func108, Tryz.ntmps108
 go_wp2
 go_loopg [0] (xs.length + 1) (fun gg sv wr => ∃ ys : List Int, ys.length < gg /\ sv = .string (strOfNums ys) /\ trimI ys = trimI xs /\ (∀ x ∈ ys, 0 <= x /\ x < 256) /\ ys.length <= 1000000 /\ w = wr)
 case atStart => exact ⟨xs, by omega, rfl, rfl, HX.out.1, HX.out.2, rfl⟩
 case round =>
  obtain ⟨ys, hgg, rfl, hty, hyb, hyl, rfl⟩ := hrel
  rcases List.eq_nil_or_concat ys with rfl | ⟨zs, y, rfl⟩
  ·have HT := Lib.hid hty
   clear hty hyb
   have hz : (strOfNums []).size = 0 := rfl
   go_wp2
   go_ret
   exact ⟨by rw [<- HT.out]; rfl, rfl⟩
  ·rw [List.concat_eq_append] at *
   obtain ⟨n, hn⟩ : ∃ n, zs.length = n := ⟨_, rfl⟩
   have hsz : (strOfNums (zs ++ [y])).size = n + 1 := by rw [strOf_size]; simp [hn]
   have hb : ∀ h, (strOfNums (zs ++ [y]))[n]'h = UInt8.ofNat y.toNat := fun h => by subst hn; exact strOf_last zs y h
   have hx : (strOfNums (zs ++ [y])).extract 0 n = strOfNums zs := by rw [<- hn]; exact strOf_cut zs y
   have hyy := hyb y (by simp)
   have hzb : ∀ x ∈ zs, 0 <= x /\ x < 256 := fun x hx => hyb x (by simp [hx])
   have hyn : ((UInt8.ofNat y.toNat).toNat : Int) = y := by simp [UInt8.toNat_ofNat']; omega
   simp only [List.length_append, List.length_cons, List.length_nil] at hgg hyl
   obtain ⟨S, hS⟩ : ∃ S, strOfNums (zs ++ [y]) = S := ⟨_, rfl⟩
   rw [hS] at hsz hb hx ⊢
   have wk : IntKind.i64.wrap ((n : Int) + 1 - 1) = (n : Int) := by rw [show (n : Int) + 1 - 1 = n by omega]; exact IntWalk.i64_in _ (by omega)
   have wk2 : IntKind.i64.wrap (n : Int) = (n : Int) := IntWalk.i64_in _ (by omega)
   have h1 : n < S.size := by omega
   have hb1 := hb h1
   clear hb
   have HT := Lib.hid (And.intro hty (And.intro hzb (And.intro hn (And.intro hyl hgg))))
   clear hty hyb hzb hn
   by_cases h32 : y = 32
   ·subst h32
    go_wp2
    go_roundg (gk - 1)
    case rel =>
     obtain ⟨hty, hzb, hn, hyl, hgg⟩ := HT.out
     exact ⟨zs, by omega, rfl, by rw [<- hty, trimI_blank], hzb, by omega, rfl⟩
    case measure => omega
   ·have g1 : decide (y = 32) = false := decide_eq_false h32
    go_wp2
    go_ret
    refine ⟨?_, rfl⟩
    rw [<- HT.out.1, trimI_other _ h32, hS]
    rfl
set_option maxRecDepth 100000 in
set_option maxHeartbeats 4000000 in
theorem trim_any (xs : List Int) (w : World) (hx : ∀ x ∈ xs, 0 <= x /\ x < 256) (h0 : 0 < xs.length) (hl : xs.length <= 1000000) : Calls Tryz.prog 67 #[.string (strOfNums xs), .string ⟨#[32]⟩] w fun e w' => e = .returned (.string (strOfNums (trimI xs))) /\ w = w' := by
 have HC := Lib.hid (trimr_any xs w hx hl)
 have hsz := strOf_size xs
 obtain ⟨S, hS⟩ : ∃ S, strOfNums xs = S := ⟨_, rfl⟩
 rw [hS] at hsz HC ⊢
 obtain ⟨T, hT⟩ : ∃ T, strOfNums (trimI xs) = T := ⟨_, rfl⟩
 rw [hT] at HC ⊢
 have hne : (S.toList == []) = false := by
  cases h : S.toList == [] with
  | false => rfl
  | true =>
   have h9 : S.toList = [] := by simpa using h
   have h8 : S.data.toList = [] := by rw [<- Lib.toList_data]; exact h9
   have h7 : S.size = 0 := by rw [Lib.size_eq, h8]; rfl
   omega
 obtain ⟨B, hB⟩ : ∃ B : ByteArray, ⟨#[32]⟩ = B := ⟨_, rfl⟩
 have h1 : B.size = 1 := by rw [<- hB]; rfl
 have h1' : 0 < B.size := by omega
 have hne2 : (B.toList == []) = false := by rw [<- hB]; kernel_rfl
 have hb : B[0]'h1' = 32 := by subst hB; rfl
 rw [hB]
 clear hS hT hsz hx hl hB
 go_enter Tryz.func67, Tryz.ntmps67
 go_wp2_with fail
 refine HC.out.mono ?_
 rintro e w1 ⟨rfl, rfl⟩
 go_wp2
 go_ret
 exact ⟨rfl, rfl⟩
end Go.Proofs.YtmplpcmcbliadaaGreatDoor
