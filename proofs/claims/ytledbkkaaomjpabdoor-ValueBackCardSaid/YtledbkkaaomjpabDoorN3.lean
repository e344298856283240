/- Numbers of a set width, 3: the other functions. -/
import Derived.Test.YtledbkkaaomjpabDoorN2
set_option linter.unusedVariables false
set_option linter.unusedSimpArgs false
namespace Go.Proofs.YtledbkkaaomjpabDoor.Ab
open Go
attribute [local irreducible] thn inb endR CJ LJ OpJ

/-! ### bytes.Clone -/
theorem p_clone (nl : Option Bool) (full : Bool) (l : List UInt8) (hl : l.length ≤ 140737488355328) : Pure Tryd.prog 44 [.sl nl full 1 (bys l)] (.sl none false 1 (bys l)) := by
  refine enterW Tryd.func44 rfl rfl rfl rfl (fun σ => ?_)
  repeat (first|(refine jl ?_;first|refine j1 ?_|refine j2 ?_|refine j3 ?_|refine j3f ?_|refine j4 ?_|refine j5 ?_|refine j6 ?_|refine j12 (fun id hid=>?_)|refine j13 (fun id hid=>?_)|refine j14 ?_|refine j15 ?_|refine j17 ?_)|(refine jc ?_;first|refine c1 ?_|refine c2 ?_|refine c3 ?_|refine c4 ?_|refine cj_yes rfl ?_|refine cj_no rfl ?_|refine c5 ?_|refine c6 ?_|refine c7 ?_|refine c8 ?_)|refine n1 ?_|refine n2 ?_|refine n3 ?_|refine n4 ?_|refine n5 ?_|refine n6 ?_|refine n7 ?_|refine n8 ?_|refine n9 ?_|refine n10 ?_|refine n13 ?_|refine n11 ?_|refine n12 ?_|refine n14 ?_|refine n15 ?_|refine n16 ?_)
  refine lj_v_any rfl (fun R hR => opj_isnil_sl rfl rfl rfl rfl hR) (fun b hb => ?_)
  repeat' (first | (first|(refine jl ?_;first|refine j1 ?_|refine j2 ?_|refine j3 ?_|refine j3f ?_|refine j4 ?_|refine j5 ?_|refine j6 ?_|refine j12 (fun id hid=>?_)|refine j13 (fun id hid=>?_)|refine j14 ?_|refine j15 ?_|refine j17 ?_)|(refine jc ?_;first|refine c1 ?_|refine c2 ?_|refine c3 ?_|refine c4 ?_|refine cj_yes rfl ?_|refine cj_no rfl ?_|refine c5 ?_|refine c6 ?_|refine c7 ?_|refine c8 ?_)|refine n1 ?_|refine n2 ?_|refine n3 ?_|refine n4 ?_|refine n5 ?_|refine n6 ?_|refine n7 ?_|refine n8 ?_|refine n9 ?_|refine n10 ?_|refine n13 ?_|refine n11 ?_|refine n12 ?_|refine n14 ?_|refine n15 ?_|refine n16 ?_) | ((fail_if_success refine lj_gt rfl rfl ?_); (fail_if_success refine lj_gf rfl rfl ?_); ((refine lj_gcase rfl rfl (fun h => ?_) (fun h => ?_)) <;> (try (exfalso; simp at h; done)))) | (refine c9 (fun h=>?_) (fun h=>?_) <;> (try (exfalso; simp at h; done))))
  · have h0 := hb h
    cases l with
    | nil => exact gives (St.le_refl _) (fin_one (.wk (Wk.sl _ _ _ _)))
    | cons a l => simp [bys] at h0
  · refine lj_v rfl (fun R hR => opj_lit (sz := 1) (zs := [.v (.int .u8 0)]) (out := []) rfl rfl rfl rfl rfl (by decide) (by decide) rfl rfl rfl hR) ?_
    repeat (first|(refine jl ?_;first|refine j1 ?_|refine j2 ?_|refine j3 ?_|refine j3f ?_|refine j4 ?_|refine j5 ?_|refine j6 ?_|refine j12 (fun id hid=>?_)|refine j13 (fun id hid=>?_)|refine j14 ?_|refine j15 ?_|refine j17 ?_)|(refine jc ?_;first|refine c1 ?_|refine c2 ?_|refine c3 ?_|refine c4 ?_|refine cj_yes rfl ?_|refine cj_no rfl ?_|refine c5 ?_|refine c6 ?_|refine c7 ?_|refine c8 ?_)|refine n1 ?_|refine n2 ?_|refine n3 ?_|refine n4 ?_|refine n5 ?_|refine n6 ?_|refine n7 ?_|refine n8 ?_|refine n9 ?_|refine n10 ?_|refine n13 ?_|refine n11 ?_|refine n12 ?_|refine n14 ?_|refine n15 ?_|refine n16 ?_)
    refine lj_ite rfl trivial (fun R hR0 hR1 => opj_append_sl (sz := 1) (by_ := 1) (news := bys l) rfl rfl ⟨rfl, rfl, rfl, by decide⟩ rfl rfl (.inl rfl) rfl rfl (by simp [length_bys, chunk]; omega) (by decide) hR0 hR1) (fun h0 => ?_) (fun h0 => ?_)
    · repeat (first|(refine jl ?_;first|refine j1 ?_|refine j2 ?_|refine j3 ?_|refine j3f ?_|refine j4 ?_|refine j5 ?_|refine j6 ?_|refine j12 (fun id hid=>?_)|refine j13 (fun id hid=>?_)|refine j14 ?_|refine j15 ?_|refine j17 ?_)|(refine jc ?_;first|refine c1 ?_|refine c2 ?_|refine c3 ?_|refine c4 ?_|refine cj_yes rfl ?_|refine cj_no rfl ?_|refine c5 ?_|refine c6 ?_|refine c7 ?_|refine c8 ?_)|refine n1 ?_|refine n2 ?_|refine n3 ?_|refine n4 ?_|refine n5 ?_|refine n6 ?_|refine n7 ?_|refine n8 ?_|refine n9 ?_|refine n10 ?_|refine n13 ?_|refine n11 ?_|refine n12 ?_|refine n14 ?_|refine n15 ?_|refine n16 ?_)
      rw [h0]
      exact gives (St.le_refl _) (fin_one (.wk (Wk.sl _ _ _ _)))
    · repeat (first|(refine jl ?_;first|refine j1 ?_|refine j2 ?_|refine j3 ?_|refine j3f ?_|refine j4 ?_|refine j5 ?_|refine j6 ?_|refine j12 (fun id hid=>?_)|refine j13 (fun id hid=>?_)|refine j14 ?_|refine j15 ?_|refine j17 ?_)|(refine jc ?_;first|refine c1 ?_|refine c2 ?_|refine c3 ?_|refine c4 ?_|refine cj_yes rfl ?_|refine cj_no rfl ?_|refine c5 ?_|refine c6 ?_|refine c7 ?_|refine c8 ?_)|refine n1 ?_|refine n2 ?_|refine n3 ?_|refine n4 ?_|refine n5 ?_|refine n6 ?_|refine n7 ?_|refine n8 ?_|refine n9 ?_|refine n10 ?_|refine n13 ?_|refine n11 ?_|refine n12 ?_|refine n14 ?_|refine n15 ?_|refine n16 ?_)
      exact gives (St.le_refl _) (fin_one (.wk (Wk.sl _ _ _ _)))

/-! ### Sign, Signed, Text -/
def signE (n : Int) : Int := if n < -1099511627776 ∨ 1099511627776 < n then 12 else 0
def signB (n : Int) : List UInt8 := if signE n = 0 then be 6 (n + 1099511627776).toNat else []
theorem putE6 {m : Int} (h0 : 0 ≤ m) (h1 : m < 281474976710656) : putE m 6 = 0 := by
  rw [putE, if_neg (by omega), if_neg (by
    have : (256 : Int) ^ (6 : Int).toNat = 281474976710656 := by decide
    omega)]
theorem p_sign (n : Int) (hn : -9223372036854775808 ≤ n ∧ n < 9223372036854775808) : Pure Tryd.prog 34 [.v (.int .i64 n)] (.tup [.sl none false 1 (bys (signB n)), .v (.int .i64 (signE n))]) := by
  refine enterW Tryd.func34 rfl rfl rfl rfl (fun σ => ?_)
  repeat' (first | (first|(refine jl ?_;first|refine j1 ?_|refine j2 ?_|refine j3 ?_|refine j3f ?_|refine j4 ?_|refine j5 ?_|refine j6 ?_|refine j12 (fun id hid=>?_)|refine j13 (fun id hid=>?_)|refine j14 ?_|refine j15 ?_|refine j17 ?_)|(refine jc ?_;first|refine c1 ?_|refine c2 ?_|refine c3 ?_|refine c4 ?_|refine cj_yes rfl ?_|refine cj_no rfl ?_|refine c5 ?_|refine c6 ?_|refine c7 ?_|refine c8 ?_)|refine n1 ?_|refine n2 ?_|refine n3 ?_|refine n4 ?_|refine n5 ?_|refine n6 ?_|refine n7 ?_|refine n8 ?_|refine n9 ?_|refine n10 ?_|refine n13 ?_|refine n11 ?_|refine n12 ?_|refine n14 ?_|refine n15 ?_|refine n16 ?_) | ((fail_if_success refine lj_gt rfl rfl ?_); (fail_if_success refine lj_gf rfl rfl ?_); ((refine lj_gcase rfl rfl (fun h => ?_) (fun h => ?_)) <;> (try (exfalso; simp at h; done)))) | (refine c9 (fun h=>?_) (fun h=>?_) <;> (try (exfalso; simp at h; done))))
  · simp only [decide_eq_true_eq] at h
    have he : signE n = 12 := by rw [signE, if_pos (by omega)]
    rw [signB, he, if_neg (by decide)]
    exact gives (St.le_refl _) (fin_two (.wk (Wk.sl _ _ _ _)) (Fin.refl _ _ _))
  · simp only [decide_eq_true_eq] at h
    have he : signE n = 12 := by rw [signE, if_pos (by omega)]
    rw [signB, he, if_neg (by decide)]
    exact gives (St.le_refl _) (fin_two (.wk (Wk.sl _ _ _ _)) (Fin.refl _ _ _))
  · rename_i h2
    simp only [decide_eq_false_iff_not] at h h2
    have hw : IntKind.i64.wrap (n + 1099511627776) = n + 1099511627776 := wrap64_in (by omega) (by omega)
    rw [hw]
    refine lj_pure rfl rfl rfl (p_put _ 6 (by omega)) ?_
    repeat (first|(refine jl ?_;first|refine j1 ?_|refine j2 ?_|refine j3 ?_|refine j3f ?_|refine j4 ?_|refine j5 ?_|refine j6 ?_|refine j12 (fun id hid=>?_)|refine j13 (fun id hid=>?_)|refine j14 ?_|refine j15 ?_|refine j17 ?_)|(refine jc ?_;first|refine c1 ?_|refine c2 ?_|refine c3 ?_|refine c4 ?_|refine cj_yes rfl ?_|refine cj_no rfl ?_|refine c5 ?_|refine c6 ?_|refine c7 ?_|refine c8 ?_)|refine n1 ?_|refine n2 ?_|refine n3 ?_|refine n4 ?_|refine n5 ?_|refine n6 ?_|refine n7 ?_|refine n8 ?_|refine n9 ?_|refine n10 ?_|refine n13 ?_|refine n11 ?_|refine n12 ?_|refine n14 ?_|refine n15 ?_|refine n16 ?_)
    have he : signE n = 0 := by rw [signE, if_neg (by omega)]
    have hp := putE6 (m := n + 1099511627776) (by omega) (by omega)
    rw [signB, he, if_pos rfl]
    refine gives (St.le_refl _) (fin_two (.wk (Wk.of_eq ?_)) (.wk (Wk.of_eq ?_)))
    · rw [putB, hp, if_pos rfl]; rfl
    · rw [hp]
def signedN (l : List UInt8) : Int × Int := if (l.length : Int) < 6 then (0, 3) else if 2199023255552 < (beNat (l.take 6) : Int) then (0, 12) else ((beNat (l.take 6) : Int) - 1099511627776, 0)
theorem getN6 (l : List UInt8) : getN l 6 = if (l.length : Int) < 6 then (0, 3) else ((beNat (l.take 6) : Int), 0) := by
  rw [getN, if_neg (by omega)]; rfl
theorem p_signed (nl : Option Bool) (full : Bool) (l : List UInt8) : Pure Tryd.prog 47 [.sl nl full 1 (bys l)] (.tup [.v (.int .i64 (signedN l).1), .v (.int .i64 (signedN l).2)]) := by
  refine enterW Tryd.func47 rfl rfl rfl rfl (fun σ => ?_)
  repeat (first|(refine jl ?_;first|refine j1 ?_|refine j2 ?_|refine j3 ?_|refine j3f ?_|refine j4 ?_|refine j5 ?_|refine j6 ?_|refine j12 (fun id hid=>?_)|refine j13 (fun id hid=>?_)|refine j14 ?_|refine j15 ?_|refine j17 ?_)|(refine jc ?_;first|refine c1 ?_|refine c2 ?_|refine c3 ?_|refine c4 ?_|refine cj_yes rfl ?_|refine cj_no rfl ?_|refine c5 ?_|refine c6 ?_|refine c7 ?_|refine c8 ?_)|refine n1 ?_|refine n2 ?_|refine n3 ?_|refine n4 ?_|refine n5 ?_|refine n6 ?_|refine n7 ?_|refine n8 ?_|refine n9 ?_|refine n10 ?_|refine n13 ?_|refine n11 ?_|refine n12 ?_|refine n14 ?_|refine n15 ?_|refine n16 ?_)
  refine lj_pure rfl rfl rfl (p_get _ _ _ 6) ?_
  rw [getN6]
  have hlt := beNat_lt (l.take 6)
  have hp : 256 ^ (l.take 6).length ≤ 256 ^ 6 := Nat.pow_le_pow_right (by omega) (by rw [List.length_take]; omega)
  by_cases h6 : (l.length : Int) < 6
  · rw [if_pos h6, signedN, if_pos h6]
    repeat (first|(refine jl ?_;first|refine j1 ?_|refine j2 ?_|refine j3 ?_|refine j3f ?_|refine j4 ?_|refine j5 ?_|refine j6 ?_|refine j12 (fun id hid=>?_)|refine j13 (fun id hid=>?_)|refine j14 ?_|refine j15 ?_|refine j17 ?_)|(refine jc ?_;first|refine c1 ?_|refine c2 ?_|refine c3 ?_|refine c4 ?_|refine cj_yes rfl ?_|refine cj_no rfl ?_|refine c5 ?_|refine c6 ?_|refine c7 ?_|refine c8 ?_)|refine n1 ?_|refine n2 ?_|refine n3 ?_|refine n4 ?_|refine n5 ?_|refine n6 ?_|refine n7 ?_|refine n8 ?_|refine n9 ?_|refine n10 ?_|refine n13 ?_|refine n11 ?_|refine n12 ?_|refine n14 ?_|refine n15 ?_|refine n16 ?_)
    exact gives (St.le_refl _) (Fin.refl _ _ _)
  · rw [if_neg h6, signedN, if_neg h6]
    repeat' (first | (first|(refine jl ?_;first|refine j1 ?_|refine j2 ?_|refine j3 ?_|refine j3f ?_|refine j4 ?_|refine j5 ?_|refine j6 ?_|refine j12 (fun id hid=>?_)|refine j13 (fun id hid=>?_)|refine j14 ?_|refine j15 ?_|refine j17 ?_)|(refine jc ?_;first|refine c1 ?_|refine c2 ?_|refine c3 ?_|refine c4 ?_|refine cj_yes rfl ?_|refine cj_no rfl ?_|refine c5 ?_|refine c6 ?_|refine c7 ?_|refine c8 ?_)|refine n1 ?_|refine n2 ?_|refine n3 ?_|refine n4 ?_|refine n5 ?_|refine n6 ?_|refine n7 ?_|refine n8 ?_|refine n9 ?_|refine n10 ?_|refine n13 ?_|refine n11 ?_|refine n12 ?_|refine n14 ?_|refine n15 ?_|refine n16 ?_) | ((fail_if_success refine lj_gt rfl rfl ?_); (fail_if_success refine lj_gf rfl rfl ?_); ((refine lj_gcase rfl rfl (fun h => ?_) (fun h => ?_)) <;> (try (exfalso; simp at h; done)))) | (refine c9 (fun h=>?_) (fun h=>?_) <;> (try (exfalso; simp at h; done))))
    · simp only [decide_eq_true_eq] at h
      rw [if_pos h]
      exact gives (St.le_refl _) (Fin.refl _ _ _)
    · simp only [decide_eq_false_iff_not] at h
      rw [if_neg h, wrap64_in (by omega) (by omega)]
      exact gives (St.le_refl _) (Fin.refl _ _ _)
def textE (s : ByteArray) : Int := if 255 < s.size then 5 else 0
def textB (s : ByteArray) : List UInt8 := if 255 < s.size then [] else UInt8.ofNat s.size :: s.data.toList
theorem size_toList (s : ByteArray) : s.data.toList.length = s.size := by rw [Array.length_toList]; rfl
theorem p_text (s : ByteArray) : Pure Tryd.prog 35 [.v (.string s)] (.tup [.sl none false 1 (bys (textB s)), .v (.int .i64 (textE s))]) := by
  refine enterW Tryd.func35 rfl rfl rfl rfl (fun σ => ?_)
  repeat' (first | (first|(refine jl ?_;first|refine j1 ?_|refine j2 ?_|refine j3 ?_|refine j3f ?_|refine j4 ?_|refine j5 ?_|refine j6 ?_|refine j12 (fun id hid=>?_)|refine j13 (fun id hid=>?_)|refine j14 ?_|refine j15 ?_|refine j17 ?_)|(refine jc ?_;first|refine c1 ?_|refine c2 ?_|refine c3 ?_|refine c4 ?_|refine cj_yes rfl ?_|refine cj_no rfl ?_|refine c5 ?_|refine c6 ?_|refine c7 ?_|refine c8 ?_)|refine n1 ?_|refine n2 ?_|refine n3 ?_|refine n4 ?_|refine n5 ?_|refine n6 ?_|refine n7 ?_|refine n8 ?_|refine n9 ?_|refine n10 ?_|refine n13 ?_|refine n11 ?_|refine n12 ?_|refine n14 ?_|refine n15 ?_|refine n16 ?_) | ((fail_if_success refine lj_gt rfl rfl ?_); (fail_if_success refine lj_gf rfl rfl ?_); ((refine lj_gcase rfl rfl (fun h => ?_) (fun h => ?_)) <;> (try (exfalso; simp at h; done)))) | (refine c9 (fun h=>?_) (fun h=>?_) <;> (try (exfalso; simp at h; done))))
  · simp only [decide_eq_true_eq] at h
    rw [textB, textE, if_pos (by omega), if_pos (by omega)]
    exact gives (St.le_refl _) (fin_two (.wk (Wk.sl _ _ _ _)) (Fin.refl _ _ _))
  · simp only [decide_eq_false_iff_not] at h
    rw [textB, textE, if_neg (by omega), if_neg (by omega)]
    refine lj_v rfl (fun R hR => opj_lit (sz := 1) (zs := [.v (.int .u8 0)]) (out := [.v (.int .u8 (IntKind.u8.wrap (s.size : Int)))]) rfl rfl rfl rfl rfl (by decide) (by decide) rfl rfl rfl hR) ?_
    repeat (first|(refine jl ?_;first|refine j1 ?_|refine j2 ?_|refine j3 ?_|refine j3f ?_|refine j4 ?_|refine j5 ?_|refine j6 ?_|refine j12 (fun id hid=>?_)|refine j13 (fun id hid=>?_)|refine j14 ?_|refine j15 ?_|refine j17 ?_)|(refine jc ?_;first|refine c1 ?_|refine c2 ?_|refine c3 ?_|refine c4 ?_|refine cj_yes rfl ?_|refine cj_no rfl ?_|refine c5 ?_|refine c6 ?_|refine c7 ?_|refine c8 ?_)|refine n1 ?_|refine n2 ?_|refine n3 ?_|refine n4 ?_|refine n5 ?_|refine n6 ?_|refine n7 ?_|refine n8 ?_|refine n9 ?_|refine n10 ?_|refine n13 ?_|refine n11 ?_|refine n12 ?_|refine n14 ?_|refine n15 ?_|refine n16 ?_)
    have hb : (AV.v (.int .u8 (IntKind.u8.wrap (s.size : Int)))) = .v (.int .u8 ((UInt8.ofNat s.size).toNat : Int)) := by
      rw [wrap8]
      have : (UInt8.ofNat s.size).toNat = s.size := by simp; omega
      rw [this]
      congr 2
      omega
    refine lj_ite rfl trivial (fun R hR0 hR1 => opj_append_str rfl rfl ⟨rfl, rfl, rfl, by decide⟩ rfl rfl rfl (.inl rfl) rfl (by simp [chunk]; omega) hR0 hR1) (fun h0 => ?_) (fun h0 => ?_)
    · repeat (first|(refine jl ?_;first|refine j1 ?_|refine j2 ?_|refine j3 ?_|refine j3f ?_|refine j4 ?_|refine j5 ?_|refine j6 ?_|refine j12 (fun id hid=>?_)|refine j13 (fun id hid=>?_)|refine j14 ?_|refine j15 ?_|refine j17 ?_)|(refine jc ?_;first|refine c1 ?_|refine c2 ?_|refine c3 ?_|refine c4 ?_|refine cj_yes rfl ?_|refine cj_no rfl ?_|refine c5 ?_|refine c6 ?_|refine c7 ?_|refine c8 ?_)|refine n1 ?_|refine n2 ?_|refine n3 ?_|refine n4 ?_|refine n5 ?_|refine n6 ?_|refine n7 ?_|refine n8 ?_|refine n9 ?_|refine n10 ?_|refine n13 ?_|refine n11 ?_|refine n12 ?_|refine n14 ?_|refine n15 ?_|refine n16 ?_)
      have h1 : s.data.toList = [] := List.eq_nil_of_length_eq_zero (by rw [size_toList]; exact h0)
      refine gives (St.le_refl _) (fin_two ?_ (Fin.refl _ _ _))
      rw [h1]
      refine .wk ?_
      have := Wk.sl (some false) true 1 [[AV.v (.int .u8 (IntKind.u8.wrap (s.size : Int)))]]
      rw [hb] at this
      show Wk (.sl (some false) true 1 [[AV.v (.int .u8 (IntKind.u8.wrap (s.size : Int)))]]) _
      rw [hb]
      exact this
    · repeat (first|(refine jl ?_;first|refine j1 ?_|refine j2 ?_|refine j3 ?_|refine j3f ?_|refine j4 ?_|refine j5 ?_|refine j6 ?_|refine j12 (fun id hid=>?_)|refine j13 (fun id hid=>?_)|refine j14 ?_|refine j15 ?_|refine j17 ?_)|(refine jc ?_;first|refine c1 ?_|refine c2 ?_|refine c3 ?_|refine c4 ?_|refine cj_yes rfl ?_|refine cj_no rfl ?_|refine c5 ?_|refine c6 ?_|refine c7 ?_|refine c8 ?_)|refine n1 ?_|refine n2 ?_|refine n3 ?_|refine n4 ?_|refine n5 ?_|refine n6 ?_|refine n7 ?_|refine n8 ?_|refine n9 ?_|refine n10 ?_|refine n13 ?_|refine n11 ?_|refine n12 ?_|refine n14 ?_|refine n15 ?_|refine n16 ?_)
      refine gives (St.le_refl _) (fin_two ?_ (Fin.refl _ _ _))
      refine .wk ?_
      show Wk (.sl (some false) false 1 ([AV.v (.int .u8 (IntKind.u8.wrap (s.size : Int)))] :: bys s.data.toList)) _
      rw [hb]
      exact Wk.sl _ _ _ _
end Go.Proofs.YtledbkkaaomjpabDoor.Ab
