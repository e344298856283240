/- Numbers of a set width: what the program's and the document's functions answer. -/
import Derived.Test.YtledbkkaaomjpabDoorAbY
import Derived.Test.YtledbkkaaomjpabDoorProg
set_option linter.unusedVariables false
set_option linter.unusedSimpArgs false
namespace Go.Proofs.YtledbkkaaomjpabDoor.Ab
open Go
attribute [local irreducible] thn inb endR CJ LJ OpJ

/-! ### Plain numbers -/
def beNat (l : List UInt8) : Nat := l.foldl (fun a b => a * 256 + b.toNat) 0
theorem beNat_snoc (l : List UInt8) (b : UInt8) : beNat (l ++ [b]) = beNat l * 256 + b.toNat := by simp [beNat, List.foldl_append]
theorem beNat_lt' : ∀ (l : List UInt8) (a : Nat), l.foldl (fun a b => a * 256 + b.toNat) a < (a + 1) * 256 ^ l.length
  | [], a => by simp
  | b :: l, a => by
    have h1 := beNat_lt' l (a * 256 + b.toNat)
    have h2 := b.toNat_lt
    have h3 : (a * 256 + b.toNat + 1) * 256 ^ l.length ≤ ((a + 1) * 256) * 256 ^ l.length := Nat.mul_le_mul_right _ (by omega)
    simp only [List.foldl_cons, List.length_cons, Nat.pow_succ]
    rw [Nat.mul_assoc, Nat.mul_comm 256] at h3
    omega
theorem beNat_lt (l : List UInt8) : beNat l < 256 ^ l.length := by
  have := beNat_lt' l 0
  simpa [beNat] using this
theorem wrap64_in {n : Int} (h0 : -9223372036854775808 ≤ n) (h1 : n < 9223372036854775808) : IntKind.i64.wrap n = n := by
  rw [IntKind.wrap_i64]; omega
theorem wrapNat (n : Nat) (h : n < 9223372036854775808) : IntKind.i64.wrap (n : Int) = n := wrap64_in (by omega) (by omega)
theorem wrapNat1 (n : Nat) (h : n < 9223372036854775807) : IntKind.i64.wrap ((n : Int) + 1) = ((n + 1 : Nat) : Int) := by
  rw [wrap64_in (by omega) (by omega)]; rfl
theorem or_add (a b : Int) (ha : 0 ≤ a) (ha2 : a < 36028797018963968) (hb : 0 ≤ b) (hb2 : b < 256) : IntKind.i64.wrap (BitVec.ofInt IntKind.i64.bits (a * 256) ||| BitVec.ofInt IntKind.i64.bits b).toNat = a * 256 + b := by
  obtain ⟨n, rfl⟩ := Int.eq_ofNat_of_zero_le ha
  obtain ⟨m, rfl⟩ := Int.eq_ofNat_of_zero_le hb
  have hm : m < 256 := by omega
  have e1 : (BitVec.ofInt IntKind.i64.bits ((n : Int) * 256)).toNat = n * 256 := by
    show (BitVec.ofInt 64 ((n : Int) * 256)).toNat = _
    rw [BitVec.toNat_ofInt]; omega
  have e2 : (BitVec.ofInt IntKind.i64.bits (m : Int)).toNat = m := by
    show (BitVec.ofInt 64 (m : Int)).toNat = _
    rw [BitVec.toNat_ofInt]; omega
  have e3 : (BitVec.ofInt IntKind.i64.bits ((n : Int) * 256) ||| BitVec.ofInt IntKind.i64.bits (m : Int)).toNat = n * 256 + m := by
    rw [BitVec.toNat_or, e1, e2]
    have := Nat.shiftLeft_add_eq_or_of_lt (i := 8) (b := m) (by omega) n
    rw [Nat.shiftLeft_eq, show (2 : Nat) ^ 8 = 256 from rfl] at this
    omega
  rw [e3, wrap64_in (by omega) (by omega)]
  omega

/-! ### The program -/
theorem p_may (n : Int) : Pure Tryd.prog 48 [.v (.int .i64 n)] (.v (.bool (decide (1 ≤ n) && decide (n ≤ 6)))) := by
  refine enterP Tryd.func48 rfl rfl rfl rfl (fun σ => ?_)
  repeat' (first | (first|(refine jl ?_;first|refine j1 ?_|refine j2 ?_|refine j3 ?_|refine j3f ?_|refine j4 ?_|refine j5 ?_|refine j6 ?_|refine j12 (fun id hid=>?_)|refine j13 (fun id hid=>?_)|refine j14 ?_|refine j15 ?_|refine j17 ?_)|(refine jc ?_;first|refine c1 ?_|refine c2 ?_|refine c3 ?_|refine c4 ?_|refine cj_yes rfl ?_|refine cj_no rfl ?_|refine c5 ?_|refine c6 ?_|refine c7 ?_|refine c8 ?_)|refine n1 ?_|refine n2 ?_|refine n3 ?_|refine n4 ?_|refine n5 ?_|refine n6 ?_|refine n7 ?_|refine n8 ?_|refine n9 ?_|refine n10 ?_|refine n13 ?_|refine n11 ?_|refine n12 ?_|refine n14 ?_|refine n15 ?_|refine n16 ?_) | ((fail_if_success refine lj_gt rfl rfl ?_); (fail_if_success refine lj_gf rfl rfl ?_); ((refine lj_gcase rfl rfl (fun h => ?_) (fun h => ?_)) <;> (try (exfalso; simp at h; done)))) | (refine c9 (fun h=>?_) (fun h=>?_) <;> (try (exfalso; simp at h; done))))
  · exact endP (by simp_all [packed]) (St.le_refl _)
  · exact endP (by simp_all [packed, ofLeaf]; omega) (St.le_refl _)
/-- What Get tells. -/
def getN (l : List UInt8) (w : Int) : Int × Int := if w < 1 ∨ 6 < w then (0, 2) else if (l.length : Int) < w then (0, 3) else ((beNat (l.take w.toNat) : Int), 0)
theorem p_get (nl : Option Bool) (full : Bool) (l : List UInt8) (w : Int) : Pure Tryd.prog 45 [.sl nl full 1 (bys l), .v (.int .i64 w)] (.tup [.v (.int .i64 (getN l w).1), .v (.int .i64 (getN l w).2)]) := by
  refine enterP Tryd.func45 rfl rfl rfl rfl (fun σ => ?_)
  repeat' (first | (first|(refine jl ?_;first|refine j1 ?_|refine j2 ?_|refine j3 ?_|refine j3f ?_|refine j4 ?_|refine j5 ?_|refine j6 ?_|refine j12 (fun id hid=>?_)|refine j13 (fun id hid=>?_)|refine j14 ?_|refine j15 ?_|refine j17 ?_)|(refine jc ?_;first|refine c1 ?_|refine c2 ?_|refine c3 ?_|refine c4 ?_|refine cj_yes rfl ?_|refine cj_no rfl ?_|refine c5 ?_|refine c6 ?_|refine c7 ?_|refine c8 ?_)|refine n1 ?_|refine n2 ?_|refine n3 ?_|refine n4 ?_|refine n5 ?_|refine n6 ?_|refine n7 ?_|refine n8 ?_|refine n9 ?_|refine n10 ?_|refine n13 ?_|refine n11 ?_|refine n12 ?_|refine n14 ?_|refine n15 ?_|refine n16 ?_) | ((fail_if_success refine lj_gt rfl rfl ?_); (fail_if_success refine lj_gf rfl rfl ?_); ((refine lj_gcase rfl rfl (fun h => ?_) (fun h => ?_)) <;> (try (exfalso; simp at h; done)))) | (refine c9 (fun h=>?_) (fun h=>?_) <;> (try (exfalso; simp at h; done))))
  refine lj_pure rfl rfl rfl (p_may _) ?_
  repeat' (first | (first|(refine jl ?_;first|refine j1 ?_|refine j2 ?_|refine j3 ?_|refine j3f ?_|refine j4 ?_|refine j5 ?_|refine j6 ?_|refine j12 (fun id hid=>?_)|refine j13 (fun id hid=>?_)|refine j14 ?_|refine j15 ?_|refine j17 ?_)|(refine jc ?_;first|refine c1 ?_|refine c2 ?_|refine c3 ?_|refine c4 ?_|refine cj_yes rfl ?_|refine cj_no rfl ?_|refine c5 ?_|refine c6 ?_|refine c7 ?_|refine c8 ?_)|refine n1 ?_|refine n2 ?_|refine n3 ?_|refine n4 ?_|refine n5 ?_|refine n6 ?_|refine n7 ?_|refine n8 ?_|refine n9 ?_|refine n10 ?_|refine n13 ?_|refine n11 ?_|refine n12 ?_|refine n14 ?_|refine n15 ?_|refine n16 ?_) | ((fail_if_success refine lj_gt rfl rfl ?_); (fail_if_success refine lj_gf rfl rfl ?_); ((refine lj_gcase rfl rfl (fun h => ?_) (fun h => ?_)) <;> (try (exfalso; simp at h; done)))) | (refine c9 (fun h=>?_) (fun h=>?_) <;> (try (exfalso; simp at h; done))))
  · refine endP ?_ (St.le_refl _)
    simp only [Bool.not_eq_true', Bool.and_eq_false_iff, decide_eq_false_iff_not] at h
    rw [getN, if_pos (by omega)]; rfl
  · rename_i h2
    refine endP ?_ (St.le_refl _)
    simp only [Bool.not_eq_false', Bool.and_eq_true, decide_eq_true_eq, length_bys] at h h2
    rw [getN, if_neg (by omega), if_pos h]; rfl
  · rename_i h2
    simp only [Bool.not_eq_false', Bool.and_eq_true, decide_eq_true_eq, length_bys, decide_eq_false_iff_not] at h h2
    obtain ⟨k, rfl⟩ := Int.eq_ofNat_of_zero_le (show 0 ≤ w by omega)
    refine cj_head (fun i : Nat => i ≤ k) (fun i => [(6, .v (.int .i64 (beNat (l.take i)))), (17, .v (.int .i64 k)), (18, .v (.int .i64 i)), (0, .sl nl full 1 (bys l))]) (fun _ => σ) (fun i => k - i) 0 (Nat.zero_le _) ⟨rfl, rfl, rfl, rfl, trivial⟩ (St.le_refl _) (fun i hi => ?_)
    have hlt := beNat_lt (l.take i)
    have hp : 256 ^ (l.take i).length ≤ 256 ^ 6 := Nat.pow_le_pow_right (by omega) (by rw [List.length_take]; omega)
    repeat (first|(refine jl ?_;first|refine j1 ?_|refine j2 ?_|refine j3 ?_|refine j3f ?_|refine j4 ?_|refine j5 ?_|refine j6 ?_|refine j12 (fun id hid=>?_)|refine j13 (fun id hid=>?_)|refine j14 ?_|refine j15 ?_|refine j17 ?_)|(refine jc ?_;first|refine c1 ?_|refine c2 ?_|refine c3 ?_|refine c4 ?_|refine cj_yes rfl ?_|refine cj_no rfl ?_|refine c5 ?_|refine c6 ?_|refine c7 ?_|refine c8 ?_)|refine n1 ?_|refine n2 ?_|refine n3 ?_|refine n4 ?_|refine n5 ?_|refine n6 ?_|refine n7 ?_|refine n8 ?_|refine n9 ?_|refine n10 ?_|refine n13 ?_|refine n11 ?_|refine n12 ?_|refine n14 ?_|refine n15 ?_|refine n16 ?_)
    refine cj_if rfl (fun h3 => ?_) (fun h3 => ?_)
    · simp only [decide_eq_true_eq] at h3
      have hil : i < l.length := by omega
      repeat (first|(refine jl ?_;first|refine j1 ?_|refine j2 ?_|refine j3 ?_|refine j3f ?_|refine j4 ?_|refine j5 ?_|refine j6 ?_|refine j12 (fun id hid=>?_)|refine j13 (fun id hid=>?_)|refine j14 ?_|refine j15 ?_|refine j17 ?_)|(refine jc ?_;first|refine c1 ?_|refine c2 ?_|refine c3 ?_|refine c4 ?_|refine cj_yes rfl ?_|refine cj_no rfl ?_|refine c5 ?_|refine c6 ?_|refine c7 ?_|refine c8 ?_)|refine n1 ?_|refine n2 ?_|refine n3 ?_|refine n4 ?_|refine n5 ?_|refine n6 ?_|refine n7 ?_|refine n8 ?_|refine n9 ?_|refine n10 ?_|refine n13 ?_|refine n11 ?_|refine n12 ?_|refine n14 ?_|refine n15 ?_|refine n16 ?_)
      refine lj_v rfl (fun R hR => opj_indexAddr_sl rfl rfl rfl rfl rfl (by omega) (bys_get l i hil) hR) ?_
      repeat (first|(refine jl ?_;first|refine j1 ?_|refine j2 ?_|refine j3 ?_|refine j3f ?_|refine j4 ?_|refine j5 ?_|refine j6 ?_|refine j12 (fun id hid=>?_)|refine j13 (fun id hid=>?_)|refine j14 ?_|refine j15 ?_|refine j17 ?_)|(refine jc ?_;first|refine c1 ?_|refine c2 ?_|refine c3 ?_|refine c4 ?_|refine cj_yes rfl ?_|refine cj_no rfl ?_|refine c5 ?_|refine c6 ?_|refine c7 ?_|refine c8 ?_)|refine n1 ?_|refine n2 ?_|refine n3 ?_|refine n4 ?_|refine n5 ?_|refine n6 ?_|refine n7 ?_|refine n8 ?_|refine n9 ?_|refine n10 ?_|refine n13 ?_|refine n11 ?_|refine n12 ?_|refine n14 ?_|refine n15 ?_|refine n16 ?_)
      refine nx_thn ?_
      refine ⟨i + 1, by omega, by omega, ⟨?_, rfl, ?_, rfl, trivial⟩, St.le_refl _⟩
      · have hs : l.take (i + 1) = l.take i ++ [l[i]] := by rw [List.take_succ_eq_append_getElem hil]
        have hb := (l[i]).toNat_lt
        show some (AV.v (.int .i64 (IntKind.i64.wrap (BitVec.ofInt IntKind.i64.bits (IntKind.i64.wrap ((beNat (l.take i) : Int) * 2 ^ (min (8 : Int).toNat IntKind.i64.bits))) ||| BitVec.ofInt IntKind.i64.bits (IntKind.i64.wrap (l[i].toNat : Int))).toNat))) = _
        have e0 : (min (8 : Int).toNat IntKind.i64.bits) = 8 := rfl
        rw [hs, beNat_snoc, e0, wrap64_in (n := (l[i].toNat : Int)) (by omega) (by omega)]
        have e1 : (2 : Int) ^ 8 = 256 := rfl
        rw [e1, wrap64_in (n := (beNat (l.take i) : Int) * 256) (by omega) (by omega), or_add _ _ (by omega) (by omega) (by omega) (by omega)]
        simp
      · show some (AV.v (.int .i64 (IntKind.i64.wrap ((i : Int) + 1)))) = _
        rw [wrap64_in (by omega) (by omega)]
        rfl
    · simp only [decide_eq_false_iff_not] at h3
      repeat (first|(refine jl ?_;first|refine j1 ?_|refine j2 ?_|refine j3 ?_|refine j3f ?_|refine j4 ?_|refine j5 ?_|refine j6 ?_|refine j12 (fun id hid=>?_)|refine j13 (fun id hid=>?_)|refine j14 ?_|refine j15 ?_|refine j17 ?_)|(refine jc ?_;first|refine c1 ?_|refine c2 ?_|refine c3 ?_|refine c4 ?_|refine cj_yes rfl ?_|refine cj_no rfl ?_|refine c5 ?_|refine c6 ?_|refine c7 ?_|refine c8 ?_)|refine n1 ?_|refine n2 ?_|refine n3 ?_|refine n4 ?_|refine n5 ?_|refine n6 ?_|refine n7 ?_|refine n8 ?_|refine n9 ?_|refine n10 ?_|refine n13 ?_|refine n11 ?_|refine n12 ?_|refine n14 ?_|refine n15 ?_|refine n16 ?_)
      refine endP ?_ (St.le_refl _)
      have : i = k := by omega
      subst this
      rw [getN, if_neg (by omega), if_neg (by omega)]
      rfl
end Go.Proofs.YtledbkkaaomjpabDoor.Ab
