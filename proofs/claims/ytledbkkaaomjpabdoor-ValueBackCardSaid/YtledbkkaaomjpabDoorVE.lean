/- Values: what is put is got; texts and bytes tell values apart. -/
import Derived.Test.YtledbkkaaomjpabDoorVC
set_option linter.unusedVariables false
set_option linter.unusedSimpArgs false
namespace Go.Proofs.YtledbkkaaomjpabDoor.Ab
open Go

/-! ### Bytes -/
theorem rnum1 (b : UInt8) (l : List UInt8) : rnum (b :: l) 0 1 = ((b.toNat : Int), l, 0) := by
  have h : getN (b :: l) 1 = ((beNat [b] : Int), 0) := by
    unfold getN
    rw [if_neg (by omega), if_neg (by simp; omega)]
    rfl
  unfold rnum
  rw [if_neg (by decide), h, if_neg (by simp)]
  simp [beNat]
theorem rnum0 : rnum [] 0 1 = (0, [], 3) := by decide
theorem beNat_signB (n : Int) (hn : -1099511627776 ≤ n ∧ n ≤ 1099511627776) : signB n = be 6 (n + 1099511627776).toNat ∧ beNat (be 6 (n + 1099511627776).toNat) = (n + 1099511627776).toNat := by
  have he : signE n = 0 := by rw [signE, if_neg (by omega)]
  refine ⟨by rw [signB, he, if_pos rfl], ?_⟩
  rw [beNat_be]
  exact Nat.mod_eq_of_lt (by have : (256 : Nat) ^ 6 = 281474976710656 := by decide
                             omega)
theorem rsigned_signB (n : Int) (hn : -1099511627776 ≤ n ∧ n ≤ 1099511627776) (r : List UInt8) : rsigned (signB n ++ r) 0 = (n, r, 0) := by
  obtain ⟨h1, h2⟩ := beNat_signB n hn
  have hl : (be 6 (n + 1099511627776).toNat).length = 6 := length_be _ _
  have ht : (signB n ++ r).take 6 = be 6 (n + 1099511627776).toNat := by rw [h1]; exact List.take_left' hl
  have hd : (signB n ++ r).drop 6 = r := by rw [h1]; exact List.drop_left' hl
  have hs : signedN (signB n ++ r) = (n, 0) := by
    unfold signedN
    rw [ht, h2, if_neg (by rw [List.length_append, h1, hl]; omega), if_neg (by omega)]
    congr 1
    omega
  unfold rsigned
  rw [if_neg (by decide), hs, if_neg (by simp), hd]
theorem rtext_textB (s : ByteArray) (hs : s.size ≤ 255) (r : List UInt8) : rtext (textB s ++ r) 0 = (s, r, 0) := by
  have hb : (UInt8.ofNat s.size).toNat = s.size := by rw [UInt8.toNat_ofNat']; omega
  unfold rtext textB
  rw [if_neg (by decide), if_neg (by omega)]
  show rtextOk (UInt8.ofNat s.size :: (s.data.toList ++ r)) = _
  show (if (s.data.toList ++ r).length < (UInt8.ofNat s.size).toNat then _ else _) = _
  rw [hb, if_neg (by rw [List.length_append, bl_len]; omega), List.take_left' (bl_len s), List.drop_left' (bl_len s)]
theorem kind_wrap {k : Int} (h : 0 ≤ k ∧ k ≤ 2) : IntKind.u8.wrap k = k := wu8 (by omega) (by omega)
theorem check_zero {k n : Int} {s : ByteArray} (h : checkE k n s = 0) (hk : k = 0) : n = 0 ∧ s = ⟨#[]⟩ := by unfold checkE at h; grind
theorem check_one {k n : Int} {s : ByteArray} (h : checkE k n s = 0) (hk : k = 1) : s = ⟨#[]⟩ := by unfold checkE at h; grind
theorem check_two {k n : Int} {s : ByteArray} (h : checkE k n s = 0) (hk : k = 2) : n = 0 ∧ wordB s = true ∧ isNumB s = false ∧ s ≠ nilS := by unfold checkE at h; grind
/-- What is put is got, whatever stands behind. -/
theorem get_put {k n : Int} {s : ByteArray} (h0 : 0 ≤ k) (h : checkE k n s = 0) (r : List UInt8) : getV (putV k n s ++ r) = (k, n, s, ((putV k n s).length : Int), 0) := by
  have hk := checkE_kind h
  have hn := checkE_ok h
  have hput : putV k n s = UInt8.ofNat k.toNat :: (if k = 1 then signB n else if k = 2 then textB s else []) := by
    unfold putV
    rw [if_neg (by omega)]
    by_cases h1 : k = 1
    · subst h1; rfl
    · by_cases h2 : k = 2
      · subst h2; rfl
      · have : k = 0 := by omega
        subst this; rfl
  have hkb : ((UInt8.ofNat k.toNat).toNat : Int) = k := by rw [UInt8.toNat_ofNat']; omega
  unfold getV
  rw [hput, List.cons_append, rnum1]
  dsimp only
  rw [hkb, kind_wrap ⟨h0, hk⟩]
  by_cases h1 : k = 1
  · rw [if_pos h1]
    unfold getB
    rw [if_pos h1, rsigned_signB n hn]
    unfold getF
    dsimp only
    have hs := check_one h h1
    rw [if_neg (by decide), if_neg (by rw [hs] at h; simp [h]), hs]
    simp only [List.length_cons, List.length_append]
    congr 4
    omega
  · rw [if_neg h1]
    by_cases h2 : k = 2
    · rw [if_pos h2]
      unfold getB
      rw [if_neg h1, if_pos h2, rtext_textB s (by have := checkE_size h h2; omega)]
      unfold getF
      dsimp only
      obtain ⟨hz, _⟩ := check_two h h2
      rw [if_neg (by decide), if_neg (by rw [hz] at h; simp [h]), hz]
      simp only [List.length_cons, List.length_append]
      congr 4
      omega
    · have h3 : k = 0 := by omega
      rw [if_neg h2]
      unfold getB
      rw [if_neg h1, if_neg h2]
      unfold getF
      dsimp only
      obtain ⟨hz, hs⟩ := check_zero h h3
      rw [if_neg (by decide), if_neg (by rw [hz, hs] at h; simp [h]), hz, hs]
      simp only [List.length_cons, List.length_append, List.length_nil, List.nil_append]
      congr 4
      omega
/-- One byte fewer is too few. -/
theorem get_cut {k n : Int} {s : ByteArray} (h0 : 0 ≤ k) (h : checkE k n s = 0) : (getV ((putV k n s).take ((putV k n s).length - 1))).2.2.2.2 = 3 := by
  have hk := checkE_kind h
  have hn := checkE_ok h
  by_cases h1 : k = 1
  · subst h1
    have hput : putV 1 n s = 1 :: signB n := by unfold putV; rw [if_neg (by omega)]; rfl
    have hl : (signB n).length = 6 := by rw [(beNat_signB n hn).1, length_be]
    rw [hput, List.length_cons, hl]
    show (getV (1 :: (signB n).take 5)).2.2.2.2 = 3
    unfold getV
    rw [rnum1]
    have hw : IntKind.u8.wrap (((1 : UInt8).toNat : Int)) = 1 := by decide
    dsimp only
    rw [hw]
    unfold getB
    rw [if_pos rfl]
    have hs : signedN ((signB n).take 5) = (0, 3) := by
      unfold signedN
      rw [if_pos (by rw [List.length_take, hl]; decide)]
    have hr : rsigned ((signB n).take 5) 0 = (0, (signB n).take 5, 3) := by
      unfold rsigned
      rw [if_neg (by decide), hs, if_pos (by decide)]
    rw [hr]
    rfl
  · by_cases h2 : k = 2
    · subst h2
      obtain ⟨_, hw, _, _⟩ := check_two h rfl
      have hz := wordB_size hw
      have hpos : 0 < s.size := by
        unfold wordB at hw
        simp only [Bool.and_eq_true, decide_eq_true_eq] at hw
        exact hw.1
      have hput : putV 2 n s = 2 :: textB s := by unfold putV; rw [if_neg (by omega)]; rfl
      have ht : textB s = UInt8.ofNat s.size :: s.data.toList := by unfold textB; rw [if_neg (by omega)]
      have hb : (UInt8.ofNat s.size).toNat = s.size := by rw [UInt8.toNat_ofNat']; omega
      rw [hput, ht]
      have e1 : (2 :: UInt8.ofNat s.size :: s.data.toList).take ((2 :: UInt8.ofNat s.size :: s.data.toList).length - 1) = 2 :: UInt8.ofNat s.size :: s.data.toList.take (s.size - 1) := by
        simp only [List.length_cons, bl_len]
        rw [show s.size + 1 + 1 - 1 = (s.size - 1) + 1 + 1 by omega]
        rfl
      rw [e1]
      unfold getV
      rw [rnum1]
      have hwk : IntKind.u8.wrap (((2 : UInt8).toNat : Int)) = 2 := by decide
      dsimp only
      rw [hwk]
      unfold getB
      rw [if_neg (by decide), if_pos rfl]
      have hr : rtext (UInt8.ofNat s.size :: s.data.toList.take (s.size - 1)) 0 = (⟨#[]⟩, UInt8.ofNat s.size :: s.data.toList.take (s.size - 1), 3) := by
        unfold rtext
        rw [if_neg (by decide)]
        show (if (s.data.toList.take (s.size - 1)).length < (UInt8.ofNat s.size).toNat then _ else _) = _
        rw [if_pos (by rw [hb, List.length_take, bl_len]; omega)]
      rw [hr]
      rfl
    · have h3 : k = 0 := by omega
      subst h3
      have hput : putV 0 n s = [0] := by unfold putV; rw [if_neg (by omega)]; rfl
      rw [hput]
      decide
end Go.Proofs.YtledbkkaaomjpabDoor.Ab
