/- The texts N1, N2, N3, N6, N7, VB, VC, VE, N4, N5, F1, one behind the other. -/
import Derived.Test.YtddljegbggncdaaDoorM1
import Derived.Test.YtddljegbggncdaaDoorM2
import Derived.Test.YtddljegbggncdaaDoorM3
import Derived.Test.YtddljegbggncdaaDoorM4
import Derived.Test.YtddljegbggncdaaDoorM5
import Derived.Test.YtddljegbggncdaaDoorM6
import Derived.Test.YtddljegbggncdaaDoorM7
import Derived.Test.YtddljegbggncdaaDoorProg
/- Numbers of a set width: what the program's and the document's functions answer. -/
set_option linter.unusedVariables false
set_option linter.unusedSimpArgs false
set_option maxRecDepth 20000
namespace Go.Proofs.YtddljegbggncdaaDoor.Ab
open Go
attribute [local irreducible] thn inb endR CJ LJ OpJ

/-! ### Plain numbers -/
def beNat (l : List UInt8) : Nat := l.foldl (fun a b => a * 256 + b.toNat) 0
theorem beNat_snoc (l : List UInt8) (b : UInt8) : beNat (l ++ [b]) = beNat l * 256 + b.toNat := by simp [beNat, List.foldl_append]
theorem beNat_lt' : ∀ (l : List UInt8) (a : Nat), l.foldl (fun a b => a * 256 + b.toNat) a < (a + 1) * 256 ^ l.length
  | [], a => by simp
  | b :: l, a => by
    have h1 := beNat_lt' l (a * 256 + b.toNat)
    have h2 := b.toNat_lt
    have h3 : (a * 256 + b.toNat + 1) * 256 ^ l.length ≤ ((a + 1) * 256) * 256 ^ l.length := Nat.mul_le_mul_right _ (by omega)
    simp only [List.foldl_cons, List.length_cons, Nat.pow_succ]
    rw [Nat.mul_assoc, Nat.mul_comm 256] at h3
    omega
theorem beNat_lt (l : List UInt8) : beNat l < 256 ^ l.length := by
  have := beNat_lt' l 0
  simpa [beNat] using this
theorem wrap64_in {n : Int} (h0 : -9223372036854775808 ≤ n) (h1 : n < 9223372036854775808) : IntKind.i64.wrap n = n := by
  rw [IntKind.wrap_i64]; omega
theorem wrapNat (n : Nat) (h : n < 9223372036854775808) : IntKind.i64.wrap (n : Int) = n := wrap64_in (by omega) (by omega)
theorem wrapNat1 (n : Nat) (h : n < 9223372036854775807) : IntKind.i64.wrap ((n : Int) + 1) = ((n + 1 : Nat) : Int) := by
  rw [wrap64_in (by omega) (by omega)]; rfl
theorem or_add (a b : Int) (ha : 0 ≤ a) (ha2 : a < 36028797018963968) (hb : 0 ≤ b) (hb2 : b < 256) : IntKind.i64.wrap (BitVec.ofInt IntKind.i64.bits (a * 256) ||| BitVec.ofInt IntKind.i64.bits b).toNat = a * 256 + b := by
  obtain ⟨n, rfl⟩ := Int.eq_ofNat_of_zero_le ha
  obtain ⟨m, rfl⟩ := Int.eq_ofNat_of_zero_le hb
  have hm : m < 256 := by omega
  have e1 : (BitVec.ofInt IntKind.i64.bits ((n : Int) * 256)).toNat = n * 256 := by
    show (BitVec.ofInt 64 ((n : Int) * 256)).toNat = _
    rw [BitVec.toNat_ofInt]; omega
  have e2 : (BitVec.ofInt IntKind.i64.bits (m : Int)).toNat = m := by
    show (BitVec.ofInt 64 (m : Int)).toNat = _
    rw [BitVec.toNat_ofInt]; omega
  have e3 : (BitVec.ofInt IntKind.i64.bits ((n : Int) * 256) ||| BitVec.ofInt IntKind.i64.bits (m : Int)).toNat = n * 256 + m := by
    rw [BitVec.toNat_or, e1, e2]
    have := Nat.shiftLeft_add_eq_or_of_lt (i := 8) (b := m) (by omega) n
    rw [Nat.shiftLeft_eq, show (2 : Nat) ^ 8 = 256 from rfl] at this
    omega
  rw [e3, wrap64_in (by omega) (by omega)]
  omega

/-! ### The program -/
theorem p_may (n : Int) : Pure Tryd.prog 100 [.v (.int .i64 n)] (.v (.bool (decide (1 ≤ n) && decide (n ≤ 6)))) := by
  refine enterP Tryd.func100 rfl rfl rfl rfl (fun σ => ?_)
  repeat' (first |(first|(refine jl ?_;first|refine j1 ?_|refine j2 ?_|refine j3 ?_|refine j4 ?_)|(refine jc ?_;first|refine c1 ?_|refine c2 ?_|refine c7 ?_)|refine n11 ?_)|((fail_if_success refine lj_gt rfl rfl ?_); (fail_if_success refine lj_gf rfl rfl ?_); ((refine lj_gcase rfl rfl (fun h => ?_) (fun h => ?_)) <;> (try (exfalso; simp at h; done)))))
  · exact endP (by simp_all [packed]) (St.le_refl _)
  · exact endP (by simp_all [packed, ofLeaf]; omega) (St.le_refl _)
/-- What Get tells. -/
def getN (l : List UInt8) (w : Int) : Int × Int := if w < 1 ∨ 6 < w then (0, 2) else if (l.length : Int) < w then (0, 3) else ((beNat (l.take w.toNat) : Int), 0)
theorem p_get (nl : Option Bool) (full : Bool) (l : List UInt8) (w : Int) : Pure Tryd.prog 75 [.sl nl full 1 (bys l), .v (.int .i64 w)] (.tup [.v (.int .i64 (getN l w).1), .v (.int .i64 (getN l w).2)]) := by
  refine enterP Tryd.func75 rfl rfl rfl rfl (fun σ => ?_)
  repeat' (first |(first|(refine jl ?_;first|refine j1 ?_|refine j4 ?_)|(refine jc ?_;first|refine c1 ?_|refine c2 ?_|refine c5 ?_)))
  refine lj_pure rfl rfl rfl (p_may _) ?_
  repeat' (first |(first|(refine jl ?_;first|refine j1 ?_|refine j4 ?_)|(refine jc ?_;first|refine c1 ?_|refine c2 ?_|refine c5 ?_|refine c6 ?_|refine c7 ?_)|refine n1 ?_|refine n2 ?_|refine n6 ?_|refine n10 ?_|refine n11 ?_)|(refine c9 (fun h=>?_) (fun h=>?_) <;> (try (exfalso; simp at h; done))))
  · refine endP ?_ (St.le_refl _)
    simp only [Bool.not_eq_true', Bool.and_eq_false_iff, decide_eq_false_iff_not] at h
    rw [getN, if_pos (by omega)]; rfl
  · rename_i h2
    refine endP ?_ (St.le_refl _)
    simp only [Bool.not_eq_false', Bool.and_eq_true, decide_eq_true_eq, length_bys] at h h2
    rw [getN, if_neg (by omega), if_pos h]; rfl
  · rename_i h2
    simp only [Bool.not_eq_false', Bool.and_eq_true, decide_eq_true_eq, length_bys, decide_eq_false_iff_not] at h h2
    obtain ⟨k, rfl⟩ := Int.eq_ofNat_of_zero_le (show 0 ≤ w by omega)
    refine cj_head (fun i : Nat => i ≤ k) (fun i => [(6, .v (.int .i64 (beNat (l.take i)))), (17, .v (.int .i64 k)), (18, .v (.int .i64 i)), (0, .sl nl full 1 (bys l))]) (fun _ => σ) (fun i => k - i) 0 (Nat.zero_le _) ⟨rfl, rfl, rfl, rfl, trivial⟩ (St.le_refl _) (fun i hi => ?_)
    have hlt := beNat_lt (l.take i)
    have hp : 256 ^ (l.take i).length ≤ 256 ^ 6 := Nat.pow_le_pow_right (by omega) (by rw [List.length_take]; omega)
    repeat (first|(refine jl ?_;first|refine j1 ?_|refine j4 ?_)|(refine jc ?_;first|refine c1 ?_|refine c2 ?_))
    refine cj_if rfl (fun h3 => ?_) (fun h3 => ?_)
    · simp only [decide_eq_true_eq] at h3
      have hil : i < l.length := by omega
      repeat (first|(refine jl ?_;first|refine j1 ?_|refine j4 ?_)|(refine jc ?_;first|refine c1 ?_|refine c2 ?_|refine c5 ?_|refine c6 ?_)|refine n1 ?_)
      refine lj_v rfl (fun R hR => opj_indexAddr_sl rfl rfl rfl rfl rfl (by omega) (bys_get l i hil) hR) ?_
      repeat (first|(refine jl ?_;first|refine jbl ?_|refine j1 ?_|refine j6 ?_)|(refine jc ?_;first|refine c2 ?_)|refine n1 ?_|refine n10 ?_)
      refine nx_thn ?_
      refine ⟨i + 1, by omega, by omega, ⟨?_, rfl, ?_, rfl, trivial⟩, St.le_refl _⟩
      · have hs : l.take (i + 1) = l.take i ++ [l[i]] := by rw [List.take_succ_eq_append_getElem hil]
        have hb := (l[i]).toNat_lt
        show some (AV.v (.int .i64 (IntKind.i64.wrap (BitVec.ofInt IntKind.i64.bits (IntKind.i64.wrap ((beNat (l.take i) : Int) * 2 ^ (min (8 : Int).toNat IntKind.i64.bits))) ||| BitVec.ofInt IntKind.i64.bits (IntKind.i64.wrap (l[i].toNat : Int))).toNat))) = _
        have e0 : (min (8 : Int).toNat IntKind.i64.bits) = 8 := rfl
        rw [hs, beNat_snoc, e0, wrap64_in (n := (l[i].toNat : Int)) (by omega) (by omega)]
        have e1 : (2 : Int) ^ 8 = 256 := rfl
        rw [e1, wrap64_in (n := (beNat (l.take i) : Int) * 256) (by omega) (by omega), or_add _ _ (by omega) (by omega) (by omega) (by omega)]
        simp
      · show some (AV.v (.int .i64 (IntKind.i64.wrap ((i : Int) + 1)))) = _
        rw [wrap64_in (by omega) (by omega)]
        rfl
    · simp only [decide_eq_false_iff_not] at h3
      repeat (first|(refine jl ?_;first|refine j1 ?_|refine j4 ?_)|(refine jc ?_;first|refine c1 ?_|refine c2 ?_|refine c7 ?_|refine c8 ?_)|refine n1 ?_|refine n3 ?_|refine n7 ?_|refine n8 ?_|refine n11 ?_)
      refine endP ?_ (St.le_refl _)
      have : i = k := by omega
      subst this
      rw [getN, if_neg (by omega), if_neg (by omega)]
      rfl
end Go.Proofs.YtddljegbggncdaaDoor.Ab

/- Numbers of a set width, 2: Put. -/
set_option linter.unusedVariables false
set_option linter.unusedSimpArgs false
set_option maxRecDepth 20000
namespace Go.Proofs.YtddljegbggncdaaDoor.Ab
open Go
attribute [local irreducible] thn inb endR CJ LJ OpJ

def be : Nat → Nat → List UInt8
  | 0, _ => []
  | w + 1, n => be w (n / 256) ++ [UInt8.ofNat (n % 256)]
theorem length_be (w n : Nat) : (be w n).length = w := by
  induction w generalizing n with
  | zero => rfl
  | succ w ih => simp [be, ih]
theorem be_cons (w n : Nat) : be (w + 1) n = UInt8.ofNat (n / 256 ^ w % 256) :: be w n := by
  induction w generalizing n with
  | zero => simp [be]
  | succ w ih =>
    rw [be, ih (n / 256), Nat.div_div_eq_div_mul, ← Nat.pow_succ']
    rw [be]
    rfl
theorem beNat_be (w n : Nat) : beNat (be w n) = n % 256 ^ w := by
  induction w generalizing n with
  | zero => simp [be, beNat, Nat.mod_one]
  | succ w ih =>
    rw [be, beNat_snoc, ih, Nat.pow_succ']
    have h1 : (UInt8.ofNat (n % 256)).toNat = n % 256 := by simp
    rw [h1, Nat.mod_mul, Nat.mul_comm, Nat.add_comm]
theorem bys_append (a b : List UInt8) : bys (a ++ b) = bys a ++ bys b := by simp [bys]
def putE (n w : Int) : Int := if w < 1 ∨ 6 < w then 2 else if n < 0 ∨ (256 ^ w.toNat : Int) ≤ n then 12 else 0
def putB (n w : Int) : List UInt8 := if putE n w = 0 then be w.toNat n.toNat else []
theorem wrap8 (n : Int) : IntKind.u8.wrap n = n % 256 := by
  rw [IntKind.wrap_u8]
theorem shr_pow (n : Int) (w : Nat) (hw : w ≤ 6) : n.fdiv (2 ^ (min (8 * (w : Int)).toNat IntKind.i64.bits)) = n / 256 ^ w := by
  have e1 : min (8 * (w : Int)).toNat IntKind.i64.bits = 8 * w := by
    show min (8 * (w : Int)).toNat 64 = _
    omega
  rw [e1, Int.pow_mul]
  rw [Int.fdiv_eq_ediv_of_nonneg _ (by
    have : (0 : Int) < (2 ^ 8) ^ w := Int.pow_pos (by decide)
    omega)]
  rfl
theorem p_put (n w : Int) (hn : -9223372036854775808 ≤ n ∧ n < 9223372036854775808) : Pure Tryd.prog 73 [.v (.int .i64 n), .v (.int .i64 w)] (.tup [.sl none false 1 (bys (putB n w)), .v (.int .i64 (putE n w))]) := by
  refine enterW Tryd.func73 rfl rfl rfl rfl (fun σ => ?_)
  repeat (first|(refine jl ?_;first|refine j1 ?_|refine j4 ?_)|(refine jc ?_;first|refine c1 ?_|refine c2 ?_|refine c5 ?_))
  refine lj_pure rfl rfl rfl (p_may _) ?_
  repeat' (first |(first|(refine jl ?_;first|refine j1 ?_|refine j2 ?_|refine j3f ?_|refine j4 ?_)|(refine jc ?_;first|refine c1 ?_|refine c2 ?_|refine c3 ?_|refine c7 ?_)|refine n2 ?_|refine n6 ?_|refine n11 ?_)|((fail_if_success refine lj_gt rfl rfl ?_); (fail_if_success refine lj_gf rfl rfl ?_); ((refine lj_gcase rfl rfl (fun h => ?_) (fun h => ?_)) <;> (try (exfalso; simp at h; done))))|(refine c9 (fun h=>?_) (fun h=>?_) <;> (try (exfalso; simp at h; done))))
  · have he : putE n w = 2 := by
      simp only [Bool.not_eq_true', Bool.and_eq_false_iff, decide_eq_false_iff_not] at h
      rw [putE, if_pos (by omega)]
    rw [putB, he, if_neg (by decide)]
    exact gives (St.le_refl _) (fin_two (.wk (Wk.sl _ _ _ _)) (Fin.refl _ _ _))
  · rename_i h2
    simp only [Bool.not_eq_false', Bool.and_eq_true, decide_eq_true_eq] at h h2
    have he : putE n w = 12 := by rw [putE, if_neg (by omega), if_pos (.inl h)]
    rw [putB, he, if_neg (by decide)]
    exact gives (St.le_refl _) (fin_two (.wk (Wk.sl _ _ _ _)) (Fin.refl _ _ _))
  · rename_i h2
    simp only [Bool.not_eq_false', Bool.and_eq_true, decide_eq_true_eq, decide_eq_false_iff_not] at h h2
    obtain ⟨k, rfl⟩ := Int.eq_ofNat_of_zero_le (show 0 ≤ w by omega)
    obtain ⟨m, rfl⟩ := Int.eq_ofNat_of_zero_le (show 0 ≤ n by omega)
    have hw8 : IntKind.i64.wrap (8 * (k : Int)) = 8 * k := wrap64_in (by omega) (by omega)
    refine lj_vy rfl rfl rfl (fun R hR => opj_shr rfl rfl rfl (by rw [hw8]; omega) hR) ?_
    rw [hw8, shr_pow _ k (by omega)]
    repeat' (first |(first|(refine jl ?_;first|refine j1 ?_|refine j2 ?_|refine j4 ?_)|(refine jc ?_;first|refine c1 ?_|refine c2 ?_|refine c6 ?_|refine c7 ?_)|refine n1 ?_|refine n2 ?_|refine n6 ?_|refine n10 ?_|refine n11 ?_)|(refine c9 (fun h=>?_) (fun h=>?_) <;> (try (exfalso; simp at h; done))))
    · simp only [Bool.not_eq_true', decide_eq_false_iff_not] at h
      have hp : (0 : Int) < 256 ^ k := Int.pow_pos (by decide)
      have he : putE (m : Int) (k : Int) = 12 := by
        have hge : (256 ^ ((k : Int)).toNat : Int) ≤ m := by
          rw [Int.toNat_natCast]
          by_cases h3 : (m : Int) < 256 ^ k
          · exact absurd (Int.ediv_eq_zero_of_lt (by omega) h3) h
          · omega
        rw [putE, if_neg (by omega), if_pos (.inr hge)]
      rw [putB, he, if_neg (by decide)]
      exact gives (St.le_refl _) (fin_two (.wk (Wk.sl _ _ _ _)) (Fin.refl _ _ _))
    · simp only [Bool.not_eq_false', decide_eq_true_eq] at h
      have hlt : (m : Int) < 256 ^ k := by
        have hp : (0 : Int) < 256 ^ k := Int.pow_pos (by decide)
        have := Int.lt_ediv_add_one_mul_self (m : Int) hp
        rw [h] at this
        omega
      have he : putE (m : Int) (k : Int) = 0 := by
        rw [putE, if_neg (by omega), if_neg (by rw [Int.toNat_natCast]; omega)]
      rw [putB, he, if_pos rfl, Int.toNat_natCast, Int.toNat_natCast]
      refine lj_f rfl (fun R hR => opj_make (sz := 1) (by_ := 1) (zs := [.v (.int .u8 0)]) rfl ⟨rfl, rfl, rfl, by decide⟩ rfl rfl rfl rfl (by omega) (by omega) (by omega) (by decide) hR) (fun id hid => ?_)
      repeat (first|(refine jl ?_;first|refine j1 ?_|refine j4 ?_)|(refine jc ?_;first|refine c1 ?_|refine c2 ?_|refine c5 ?_))
      let H : Nat → Fr := fun i => [(6, .osl id 1 0 k), (24, .v (.int .i64 k)), (25, .v (.int .i64 i)), (0, .v (.int .i64 m)), (1, .v (.int .i64 k))]
      let S : Nat → St := fun i => σ.set id (.row 1 5 (List.replicate (k - i) [.v (.int .u8 0)] ++ bys (be i m)))
      refine cj_head (fun i : Nat => i ≤ k) H S (fun i => k - i) 0 (Nat.zero_le _) ⟨rfl, rfl, rfl, rfl, rfl, trivial⟩ (by simp [S, be, bys]; exact St.le_refl _) (fun i hi => ?_)
      repeat (first|(refine jl ?_;first|refine j1 ?_|refine j4 ?_)|(refine jc ?_;first|refine c1 ?_|refine c2 ?_))
      refine cj_if rfl (fun h3 => ?_) (fun h3 => ?_)
      · simp only [decide_eq_true_eq] at h3
        repeat (first|(refine jl ?_;first|refine j1 ?_|refine j4 ?_)|(refine jc ?_;first|refine c1 ?_|refine c2 ?_|refine c5 ?_|refine c6 ?_)|refine n1 ?_)
        have hw8i : IntKind.i64.wrap (8 * (i : Int)) = 8 * i := wrap64_in (by omega) (by omega)
        have hix : IntKind.i64.wrap (IntKind.i64.wrap ((k : Int) - 1) - (i : Int)) = ((k - 1 - i : Nat) : Int) := by
          rw [wrap64_in (n := (k : Int) - 1) (by omega) (by omega), wrap64_in (by omega) (by omega)]; omega
        refine lj_v rfl (fun R hR => opj_shr rfl rfl rfl (by rw [hw8i]; omega) hR) ?_
        rw [hw8i, shr_pow _ i (by omega), hix]
        repeat (first|(refine jl ?_;first|refine j1 ?_))
        refine lj_v rfl (fun R hR => opj_indexAddr_osl (sz := 1) rfl rfl rfl rfl rfl (by omega) (by omega) hR) ?_
        have hrep : (List.replicate (k - i) [AV.v (.int .u8 0)])[k - 1 - i]? = some [AV.v (.int .u8 0)] := by
          rw [List.getElem?_replicate, if_pos (by omega)]
        refine lj_s (fun R hR => opj_store (m := 1) rfl rfl rfl rfl (St.set_same _ _ _) (i := 0 + ((k - 1 - i : Nat) : Int).toNat) (el := [AV.v (.int .u8 0)]) (by
          rw [List.getElem?_append_left (by simp; omega)]; simpa using hrep) rfl rfl (Nat.le_refl _) hR) ?_
        repeat (first|(refine jl ?_;first|refine j1 ?_|refine j6 ?_)|(refine jc ?_;first|refine c2 ?_)|refine n1 ?_|refine n10 ?_)
        refine nx_thn ?_
        refine ⟨i + 1, by omega, by omega, ⟨rfl, rfl, ?_, rfl, rfl, trivial⟩, ?_⟩
        · show some (AV.v (.int .i64 (IntKind.i64.wrap ((i : Int) + 1)))) = _
          rw [wrap64_in (by omega) (by omega)]
          rfl
        · have hels : (List.replicate (k - i) [AV.v (.int .u8 0)] ++ bys (be i m)).set (0 + ((k - 1 - i : Nat) : Int).toNat) [AV.v (.int .u8 (IntKind.u8.wrap ((m : Int) / 256 ^ i)))] = List.replicate (k - (i + 1)) [AV.v (.int .u8 0)] ++ bys (be (i + 1) m) := by
            have e1 : 0 + ((k - 1 - i : Nat) : Int).toNat = k - 1 - i := by omega
            have e2 : k - i = (k - (i + 1)) + 1 := by omega
            have e3 : k - 1 - i = k - (i + 1) := by omega
            rw [e1, e2, e3, be_cons, List.replicate_succ', List.append_assoc, List.set_append]
            rw [if_neg (by simp)]
            simp only [List.length_replicate, Nat.sub_self, List.singleton_append, List.set_cons_zero]
            congr 2
            have h9 : (UInt8.ofNat (m / 256 ^ i % 256)).toNat = m / 256 ^ i % 256 := by simp
            show [AV.v (.int .u8 (IntKind.u8.wrap ((m : Int) / 256 ^ i)))] = [AV.v (.int .u8 ((UInt8.ofNat (m / 256 ^ i % 256)).toNat : Int))]
            rw [wrap8, h9, Int.natCast_emod, Int.natCast_ediv, Int.natCast_pow]
            rfl
          show St.le (σ.set id _) ((σ.set id _).set id _)
          rw [St.set_set]
          have : (σ.set id (.row 1 5 (List.replicate (k - (i + 1)) [AV.v (.int .u8 0)] ++ bys (be (i + 1) m)))) = σ.set id (.row 1 5 ((List.replicate (k - i) [AV.v (.int .u8 0)] ++ bys (be i m)).set (0 + ((k - 1 - i : Nat) : Int).toNat) ([] ++ [AV.v (.int .u8 (IntKind.u8.wrap ((m : Int) / 256 ^ i)))] ++ []))) := by
            rw [List.nil_append, List.append_nil, hels]
          exact this ▸ St.le_refl _
      · simp only [decide_eq_false_iff_not] at h3
        have hik : i = k := by omega
        subst hik
        repeat (first|(refine jl ?_;first|refine j1 ?_|refine j4 ?_)|(refine jc ?_;first|refine c1 ?_|refine c2 ?_|refine c7 ?_|refine c8 ?_)|refine n1 ?_|refine n3 ?_|refine n7 ?_|refine n8 ?_|refine n11 ?_)
        refine gives (St.le_set _ hid) (fin_two ?_ (Fin.refl _ _ _))
        have hl : (bys (be i m)).length = i := by rw [length_bys, length_be]
        have hf := Fin.fz0 (σ := σ) (σ' := S i) (id := id) (sz := 1) (off := 0) (len := i) (et := 5) (els := bys (be i m)) (by simp [S, St.set_same]) hid (by rw [hl]; omega) (by decide) (fun j e h => by
          simp only [bys, List.getElem?_map, Option.map_eq_some_iff] at h
          obtain ⟨_, _, rfl⟩ := h
          rfl)
        rw [List.drop_zero, List.take_of_length_le (by rw [hl]; exact Nat.le_refl _)] at hf
        exact hf
end Go.Proofs.YtddljegbggncdaaDoor.Ab

/- Numbers of a set width, 3: the other functions. -/
set_option linter.unusedVariables false
set_option linter.unusedSimpArgs false
set_option maxRecDepth 20000
namespace Go.Proofs.YtddljegbggncdaaDoor.Ab
open Go
attribute [local irreducible] thn inb endR CJ LJ OpJ

/-! ### bytes.Clone -/
theorem p_clone (nl : Option Bool) (full : Bool) (l : List UInt8) (hl : l.length ≤ 140737488355328) : Pure Tryd.prog 131 [.sl nl full 1 (bys l)] (.sl none false 1 (bys l)) := by
  refine enterW Tryd.func131 rfl rfl rfl rfl (fun σ => ?_)
  repeat (first|(refine jl ?_;first|refine j1 ?_|refine j4 ?_)|(refine jc ?_;first|refine c1 ?_|refine c2 ?_))
  refine lj_v_any rfl (fun R hR => opj_isnil_sl rfl rfl rfl rfl hR) (fun b hb => ?_)
  repeat' (first |(first|(refine jl ?_;first|refine j1 ?_|refine j4 ?_)|(refine jc ?_;first|refine c1 ?_|refine c2 ?_|refine c6 ?_|refine c7 ?_)|refine n1 ?_|refine n2 ?_|refine n11 ?_)|(refine c9 (fun h=>?_) (fun h=>?_) <;> (try (exfalso; simp at h; done))))
  · have h0 := hb h
    cases l with
    | nil => exact gives (St.le_refl _) (fin_one (.wk (Wk.sl _ _ _ _)))
    | cons a l => simp [bys] at h0
  · refine lj_v rfl (fun R hR => opj_lit (sz := 1) (zs := [.v (.int .u8 0)]) (out := []) rfl rfl rfl rfl rfl (by decide) (by decide) rfl rfl rfl hR) ?_
    repeat (first|(refine jl ?_;first|refine j1 ?_))
    refine lj_ite rfl trivial (fun R hR0 hR1 => opj_append_sl (sz := 1) (by_ := 1) (news := bys l) rfl rfl ⟨rfl, rfl, rfl, by decide⟩ rfl rfl (.inl rfl) rfl rfl (by simp [length_bys, chunk]; omega) (by decide) hR0 hR1) (fun h0 => ?_) (fun h0 => ?_)
    · repeat (first|(refine jl ?_;first|refine j1 ?_|refine j4 ?_)|(refine jc ?_;first|refine c7 ?_)|refine n11 ?_)
      rw [h0]
      exact gives (St.le_refl _) (fin_one (.wk (Wk.sl _ _ _ _)))
    · repeat (first|(refine jl ?_;first|refine j1 ?_|refine j4 ?_)|(refine jc ?_;first|refine c7 ?_)|refine n11 ?_)
      exact gives (St.le_refl _) (fin_one (.wk (Wk.sl _ _ _ _)))

/-! ### Sign, Signed, Text -/
def signE (n : Int) : Int := if n < -1099511627776 ∨ 1099511627776 < n then 12 else 0
def signB (n : Int) : List UInt8 := if signE n = 0 then be 6 (n + 1099511627776).toNat else []
theorem putE6 {m : Int} (h0 : 0 ≤ m) (h1 : m < 281474976710656) : putE m 6 = 0 := by
  rw [putE, if_neg (by omega), if_neg (by
    have : (256 : Int) ^ (6 : Int).toNat = 281474976710656 := by decide
    omega)]
theorem p_sign (n : Int) (hn : -9223372036854775808 ≤ n ∧ n < 9223372036854775808) : Pure Tryd.prog 129 [.v (.int .i64 n)] (.tup [.sl none false 1 (bys (signB n)), .v (.int .i64 (signE n))]) := by
  refine enterW Tryd.func129 rfl rfl rfl rfl (fun σ => ?_)
  repeat' (first |(first|(refine jl ?_;first|refine j1 ?_|refine j2 ?_|refine j3f ?_|refine j4 ?_)|(refine jc ?_;first|refine c1 ?_|refine c2 ?_|refine c3 ?_|refine c6 ?_|refine c7 ?_)|refine n1 ?_|refine n2 ?_|refine n11 ?_)|((fail_if_success refine lj_gt rfl rfl ?_); (fail_if_success refine lj_gf rfl rfl ?_); ((refine lj_gcase rfl rfl (fun h => ?_) (fun h => ?_)) <;> (try (exfalso; simp at h; done))))|(refine c9 (fun h=>?_) (fun h=>?_) <;> (try (exfalso; simp at h; done))))
  · simp only [decide_eq_true_eq] at h
    have he : signE n = 12 := by rw [signE, if_pos (by omega)]
    rw [signB, he, if_neg (by decide)]
    exact gives (St.le_refl _) (fin_two (.wk (Wk.sl _ _ _ _)) (Fin.refl _ _ _))
  · simp only [decide_eq_true_eq] at h
    have he : signE n = 12 := by rw [signE, if_pos (by omega)]
    rw [signB, he, if_neg (by decide)]
    exact gives (St.le_refl _) (fin_two (.wk (Wk.sl _ _ _ _)) (Fin.refl _ _ _))
  · rename_i h2
    simp only [decide_eq_false_iff_not] at h h2
    have hw : IntKind.i64.wrap (n + 1099511627776) = n + 1099511627776 := wrap64_in (by omega) (by omega)
    rw [hw]
    refine lj_pure rfl rfl rfl (p_put _ 6 (by omega)) ?_
    repeat (first|(refine jl ?_;first|refine j1 ?_|refine j4 ?_)|(refine jc ?_;first|refine c7 ?_)|refine n11 ?_)
    have he : signE n = 0 := by rw [signE, if_neg (by omega)]
    have hp := putE6 (m := n + 1099511627776) (by omega) (by omega)
    rw [signB, he, if_pos rfl]
    refine gives (St.le_refl _) (fin_two (.wk (Wk.of_eq ?_)) (.wk (Wk.of_eq ?_)))
    · rw [putB, hp, if_pos rfl]; rfl
    · rw [hp]
def signedN (l : List UInt8) : Int × Int := if (l.length : Int) < 6 then (0, 3) else if 2199023255552 < (beNat (l.take 6) : Int) then (0, 12) else ((beNat (l.take 6) : Int) - 1099511627776, 0)
theorem getN6 (l : List UInt8) : getN l 6 = if (l.length : Int) < 6 then (0, 3) else ((beNat (l.take 6) : Int), 0) := by
  rw [getN, if_neg (by omega)]; rfl
theorem p_signed (nl : Option Bool) (full : Bool) (l : List UInt8) : Pure Tryd.prog 133 [.sl nl full 1 (bys l)] (.tup [.v (.int .i64 (signedN l).1), .v (.int .i64 (signedN l).2)]) := by
  refine enterW Tryd.func133 rfl rfl rfl rfl (fun σ => ?_)
  repeat (first|(refine jl ?_;first|refine j1 ?_|refine j4 ?_)|(refine jc ?_;first|refine c1 ?_|refine c2 ?_))
  refine lj_pure rfl rfl rfl (p_get _ _ _ 6) ?_
  rw [getN6]
  have hlt := beNat_lt (l.take 6)
  have hp : 256 ^ (l.take 6).length ≤ 256 ^ 6 := Nat.pow_le_pow_right (by omega) (by rw [List.length_take]; omega)
  by_cases h6 : (l.length : Int) < 6
  · rw [if_pos h6, signedN, if_pos h6]
    repeat (first|(refine jl ?_;first|refine j1 ?_|refine j4 ?_)|(refine jc ?_;first|refine c1 ?_|refine c2 ?_|refine cj_yes rfl ?_|refine c7 ?_)|refine n2 ?_|refine n11 ?_)
    exact gives (St.le_refl _) (Fin.refl _ _ _)
  · rw [if_neg h6, signedN, if_neg h6]
    repeat' (first |(first|(refine jl ?_;first|refine j1 ?_|refine j4 ?_)|(refine jc ?_;first|refine c1 ?_|refine c2 ?_|refine cj_no rfl ?_|refine c6 ?_|refine c7 ?_)|refine n1 ?_|refine n2 ?_|refine n11 ?_)|(refine c9 (fun h=>?_) (fun h=>?_) <;> (try (exfalso; simp at h; done))))
    · simp only [decide_eq_true_eq] at h
      rw [if_pos h]
      exact gives (St.le_refl _) (Fin.refl _ _ _)
    · simp only [decide_eq_false_iff_not] at h
      rw [if_neg h, wrap64_in (by omega) (by omega)]
      exact gives (St.le_refl _) (Fin.refl _ _ _)
def textE (s : ByteArray) : Int := if 255 < s.size then 5 else 0
def textB (s : ByteArray) : List UInt8 := if 255 < s.size then [] else UInt8.ofNat s.size :: s.data.toList
theorem size_toList (s : ByteArray) : s.data.toList.length = s.size := by rw [Array.length_toList]; rfl
theorem p_text (s : ByteArray) : Pure Tryd.prog 130 [.v (.string s)] (.tup [.sl none false 1 (bys (textB s)), .v (.int .i64 (textE s))]) := by
  refine enterW Tryd.func130 rfl rfl rfl rfl (fun σ => ?_)
  repeat' (first |(first|(refine jl ?_;first|refine j1 ?_|refine j4 ?_)|(refine jc ?_;first|refine c1 ?_|refine c2 ?_|refine c6 ?_|refine c7 ?_)|refine n1 ?_|refine n2 ?_|refine n11 ?_)|(refine c9 (fun h=>?_) (fun h=>?_) <;> (try (exfalso; simp at h; done))))
  · simp only [decide_eq_true_eq] at h
    rw [textB, textE, if_pos (by omega), if_pos (by omega)]
    exact gives (St.le_refl _) (fin_two (.wk (Wk.sl _ _ _ _)) (Fin.refl _ _ _))
  · simp only [decide_eq_false_iff_not] at h
    rw [textB, textE, if_neg (by omega), if_neg (by omega)]
    refine lj_v rfl (fun R hR => opj_lit (sz := 1) (zs := [.v (.int .u8 0)]) (out := [.v (.int .u8 (IntKind.u8.wrap (s.size : Int)))]) rfl rfl rfl rfl rfl (by decide) (by decide) rfl rfl rfl hR) ?_
    repeat (first|(refine jl ?_;first|refine j1 ?_))
    have hb : (AV.v (.int .u8 (IntKind.u8.wrap (s.size : Int)))) = .v (.int .u8 ((UInt8.ofNat s.size).toNat : Int)) := by
      rw [wrap8]
      have : (UInt8.ofNat s.size).toNat = s.size := by simp; omega
      rw [this]
      congr 2
      omega
    refine lj_ite rfl trivial (fun R hR0 hR1 => opj_append_str rfl rfl ⟨rfl, rfl, rfl, by decide⟩ rfl rfl rfl (.inl rfl) rfl (by simp [chunk]; omega) hR0 hR1) (fun h0 => ?_) (fun h0 => ?_)
    · repeat (first|(refine jl ?_;first|refine j1 ?_|refine j4 ?_)|(refine jc ?_;first|refine c7 ?_)|refine n11 ?_)
      have h1 : s.data.toList = [] := List.eq_nil_of_length_eq_zero (by rw [size_toList]; exact h0)
      refine gives (St.le_refl _) (fin_two ?_ (Fin.refl _ _ _))
      rw [h1]
      refine .wk ?_
      have := Wk.sl (some false) true 1 [[AV.v (.int .u8 (IntKind.u8.wrap (s.size : Int)))]]
      rw [hb] at this
      show Wk (.sl (some false) true 1 [[AV.v (.int .u8 (IntKind.u8.wrap (s.size : Int)))]]) _
      rw [hb]
      exact this
    · repeat (first|(refine jl ?_;first|refine j1 ?_|refine j4 ?_)|(refine jc ?_;first|refine c7 ?_)|refine n11 ?_)
      refine gives (St.le_refl _) (fin_two ?_ (Fin.refl _ _ _))
      refine .wk ?_
      show Wk (.sl (some false) false 1 ([AV.v (.int .u8 (IntKind.u8.wrap (s.size : Int)))] :: bys s.data.toList)) _
      rw [hb]
      exact Wk.sl _ _ _ _
end Go.Proofs.YtddljegbggncdaaDoor.Ab

/- Numbers of a set width, 6: the program's reader. -/
set_option linter.unusedVariables false
set_option linter.unusedSimpArgs false
set_option maxRecDepth 20000
namespace Go.Proofs.YtddljegbggncdaaDoor.Ab
open Go
attribute [local irreducible] thn inb endR CJ LJ OpJ DJ

theorem St.set_id {σ : St} {id : Nat} {o : AObj} (h : σ id = some o) : σ.set id o = σ := by
  funext x
  by_cases hx : x = id
  · subst hx; rw [St.set_same, h]
  · rw [St.set_ne _ _ _ hx]
abbrev rd (l : List UInt8) (e : Int) : AObj := .row 2 175 [[.sl none false 1 (bys l), .v (.int .i64 e)]]
abbrev Leaves (σ1 : St) (r : AV) : AEnd → St → Prop := fun e σ' => e = .ret r ∧ σ' = σ1

theorem p_err {σ : St} {id : Nat} {l : List UInt8} {e : Int} (hid : σ id = some (rd l e)) : ACalls Tryd.prog 109 [.ptr id 2 0 0] σ (Leaves σ (.v (.int .i64 e))) := by
  refine enterS Tryd.func109 rfl rfl rfl rfl ?_
  repeat (first|(refine jl ?_;first|refine j1 ?_|refine j4 ?_|refine j14 ?_)|(refine jc ?_;first|refine c1 ?_|refine c2 ?_|refine c4 ?_|refine c6 ?_|refine c7 ?_)|refine n1 ?_|refine n11 ?_)
  exact gives (St.le_refl _) (Fin.refl _ _ _)
theorem p_err0 : Pure Tryd.prog 109 [.v (.pointer none)] (.v (.int .i64 1)) := by
  refine enterW Tryd.func109 rfl rfl rfl rfl (fun σ => ?_)
  repeat (first|(refine jl ?_;first|refine j1 ?_|refine j4 ?_)|(refine jc ?_;first|refine c1 ?_|refine c2 ?_|refine c3 ?_|refine c7 ?_)|refine n2 ?_|refine n11 ?_)
  exact gives (St.le_refl _) (Fin.refl _ _ _)
theorem p_left {σ : St} {id : Nat} {l : List UInt8} {e : Int} (hid : σ id = some (rd l e)) : ACalls Tryd.prog 111 [.ptr id 2 0 0] σ (Leaves σ (.v (.int .i64 l.length))) := by
  refine enterS Tryd.func111 rfl rfl rfl rfl ?_
  repeat (first|(refine jl ?_;first|refine j1 ?_|refine j4 ?_|refine j14 ?_)|(refine jc ?_;first|refine c1 ?_|refine c2 ?_|refine c4 ?_|refine c6 ?_|refine c7 ?_)|refine n1 ?_|refine n11 ?_)
  exact gives (St.le_refl _) (fin_one (.wk (Wk.of_eq (by rw [length_bys]))))
theorem p_left0 : Pure Tryd.prog 111 [.v (.pointer none)] (.v (.int .i64 0)) := by
  refine enterW Tryd.func111 rfl rfl rfl rfl (fun σ => ?_)
  repeat (first|(refine jl ?_;first|refine j1 ?_|refine j4 ?_)|(refine jc ?_;first|refine c1 ?_|refine c2 ?_|refine c3 ?_|refine c7 ?_)|refine n2 ?_|refine n11 ?_)
  exact gives (St.le_refl _) (Fin.refl _ _ _)
theorem p_took_bad {σ : St} {id : Nat} {l : List UInt8} {e0 n u e : Int} (hid : σ id = some (rd l e0)) (he : e ≠ 0) : ACalls Tryd.prog 132 [.ptr id 2 0 0, .v (.int .i64 n), .v (.int .i64 u), .v (.int .i64 e)] σ (Leaves (σ.set id (rd l e)) (.v (.int .i64 0))) := by
  refine enterS Tryd.func132 rfl rfl rfl rfl ?_
  repeat' (first |(first|(refine jl ?_;first|refine j1 ?_|refine j4 ?_|refine j14 ?_|refine j17 ?_)|(refine jc ?_;first|refine c1 ?_|refine c2 ?_|refine c6 ?_|refine c7 ?_)|refine n1 ?_|refine n2 ?_|refine n11 ?_)|(refine c9 (fun h=>?_) (fun h=>?_) <;> (try (exfalso; simp at h; done))))
  · exact gives (St.le_refl _) (Fin.refl _ _ _)
  · simp [he] at h
theorem bys_drop (l : List UInt8) (n : Nat) : (bys l).drop n = bys (l.drop n) := by simp [bys]
theorem bys_take (l : List UInt8) (n : Nat) : (bys l).take n = bys (l.take n) := by simp [bys]
theorem p_took {σ : St} {id : Nat} {l : List UInt8} {e0 n : Int} {u : Nat} (hid : σ id = some (rd l e0)) (hu : u ≤ l.length) : ACalls Tryd.prog 132 [.ptr id 2 0 0, .v (.int .i64 n), .v (.int .i64 u), .v (.int .i64 0)] σ (Leaves (σ.set id (rd (l.drop u) e0)) (.v (.int .i64 n))) := by
  refine enterS Tryd.func132 rfl rfl rfl rfl ?_
  repeat (first|(refine jl ?_;first|refine j1 ?_|refine j4 ?_|refine j14 ?_)|(refine jc ?_;first|refine c1 ?_|refine c2 ?_|refine cj_no rfl ?_|refine c6 ?_)|refine n1 ?_)
  refine lj_v rfl (fun R hR => opj_cut_sl rfl rfl rfl rfl rfl rfl (by omega) (by rw [length_bys]; omega) (by omega) hR) ?_
  rw [show (((bys l).length : Int)).toNat = (bys l).length from rfl, List.take_length, bys_drop, Int.toNat_natCast]
  repeat (first|(refine jl ?_;first|refine j1 ?_|refine j4 ?_|refine j17 ?_)|(refine jc ?_;first|refine c1 ?_|refine c2 ?_|refine c7 ?_)|refine n11 ?_)
  exact gives (St.le_refl _) (Fin.refl _ _ _)
/-- Number, what is left, error. -/
def rnum (l : List UInt8) (e w : Int) : Int × List UInt8 × Int := if e ≠ 0 then (0, l, e) else if (getN l w).2 ≠ 0 then (0, l, (getN l w).2) else ((getN l w).1, l.drop w.toNat, 0)
theorem getN_ok {l : List UInt8} {w : Int} (h : (getN l w).2 = 0) : 1 ≤ w ∧ w ≤ 6 ∧ w ≤ l.length ∧ getN l w = ((beNat (l.take w.toNat) : Int), 0) := by
  unfold getN at h ⊢
  split at h
  · simp at h
  · split at h
    · simp at h
    · refine ⟨by omega, by omega, by omega, ?_⟩
      rw [if_neg (by assumption), if_neg (by assumption)]
theorem p_num {σ : St} {id : Nat} {l : List UInt8} {e : Int} (w : Int) (hid : σ id = some (rd l e)) : ACalls Tryd.prog 106 [.ptr id 2 0 0, .v (.int .i64 w)] σ (Leaves (σ.set id (rd (rnum l e w).2.1 (rnum l e w).2.2)) (.v (.int .i64 (rnum l e w).1))) := by
  refine enterS Tryd.func106 rfl rfl rfl rfl ?_
  repeat (first|(refine jl ?_;first|refine j1 ?_|refine j4 ?_)|(refine jc ?_;first|refine c1 ?_|refine c2 ?_))
  refine lj_to rfl rfl rfl (p_err hid) ?_
  repeat' (first |(first|(refine jl ?_;first|refine j1 ?_|refine j4 ?_|refine j14 ?_)|(refine jc ?_;first|refine c1 ?_|refine c2 ?_|refine c6 ?_|refine c7 ?_)|refine n1 ?_|refine n2 ?_|refine n11 ?_)|(refine c9 (fun h=>?_) (fun h=>?_) <;> (try (exfalso; simp at h; done))))
  · have he : e ≠ 0 := by simpa using h
    rw [rnum, if_pos he, St.set_id hid]
    exact gives (St.le_refl _) (Fin.refl _ _ _)
  · have he : e = 0 := by simpa using h
    subst he
    refine lj_pure rfl rfl rfl (p_get _ _ _ _) ?_
    repeat (first|(refine jl ?_;first|refine j1 ?_|refine j4 ?_)|(refine jc ?_;first|refine c1 ?_|refine c2 ?_))
    rw [rnum, if_neg (by decide)]
    by_cases hf : (getN l w).2 = 0
    · obtain ⟨h1, h2, h3, h4⟩ := getN_ok hf
      obtain ⟨k, rfl⟩ := Int.eq_ofNat_of_zero_le (show 0 ≤ w by omega)
      rw [if_neg (by simpa using hf), hf]
      refine lj_to rfl rfl rfl (p_took (u := k) hid (by omega)) ?_
      repeat (first|(refine jl ?_;first|refine j1 ?_|refine j4 ?_)|(refine jc ?_;first|refine c7 ?_)|refine n11 ?_)
      exact gives (St.le_refl _) (Fin.refl _ _ _)
    · rw [if_pos hf]
      refine lj_to rfl rfl rfl (p_took_bad hid hf) ?_
      repeat (first|(refine jl ?_;first|refine j1 ?_|refine j4 ?_)|(refine jc ?_;first|refine c7 ?_)|refine n11 ?_)
      exact gives (St.le_refl _) (Fin.refl _ _ _)
theorem p_num0 (w : Int) : Pure Tryd.prog 106 [.v (.pointer none), .v (.int .i64 w)] (.v (.int .i64 0)) := by
  refine enterW Tryd.func106 rfl rfl rfl rfl (fun σ => ?_)
  repeat (first|(refine jl ?_;first|refine j1 ?_|refine j4 ?_)|(refine jc ?_;first|refine c1 ?_|refine c2 ?_))
  refine lj_pure rfl rfl rfl p_err0 ?_
  repeat (first|(refine jl ?_;first|refine j1 ?_|refine j4 ?_)|(refine jc ?_;first|refine c1 ?_|refine c2 ?_|refine cj_yes rfl ?_|refine c7 ?_)|refine n2 ?_|refine n11 ?_)
  exact gives (St.le_refl _) (Fin.refl _ _ _)
def rsigned (l : List UInt8) (e : Int) : Int × List UInt8 × Int := if e ≠ 0 then (0, l, e) else if (signedN l).2 ≠ 0 then (0, l, (signedN l).2) else ((signedN l).1, l.drop 6, 0)
theorem signedN_ok {l : List UInt8} (h : (signedN l).2 = 0) : 6 ≤ l.length := by
  unfold signedN at h
  split at h
  · simp at h
  · omega
theorem p_rdsigned {σ : St} {id : Nat} {l : List UInt8} {e : Int} (hid : σ id = some (rd l e)) : ACalls Tryd.prog 107 [.ptr id 2 0 0] σ (Leaves (σ.set id (rd (rsigned l e).2.1 (rsigned l e).2.2)) (.v (.int .i64 (rsigned l e).1))) := by
  refine enterS Tryd.func107 rfl rfl rfl rfl ?_
  repeat (first|(refine jl ?_;first|refine j1 ?_|refine j4 ?_)|(refine jc ?_;first|refine c1 ?_|refine c2 ?_))
  refine lj_to rfl rfl rfl (p_err hid) ?_
  repeat' (first |(first|(refine jl ?_;first|refine j1 ?_|refine j4 ?_|refine j14 ?_)|(refine jc ?_;first|refine c1 ?_|refine c2 ?_|refine c6 ?_|refine c7 ?_)|refine n1 ?_|refine n2 ?_|refine n11 ?_)|(refine c9 (fun h=>?_) (fun h=>?_) <;> (try (exfalso; simp at h; done))))
  · have he : e ≠ 0 := by simpa using h
    rw [rsigned, if_pos he, St.set_id hid]
    exact gives (St.le_refl _) (Fin.refl _ _ _)
  · have he : e = 0 := by simpa using h
    subst he
    refine lj_pure rfl rfl rfl (p_signed _ _ _) ?_
    repeat (first|(refine jl ?_;first|refine j1 ?_|refine j4 ?_)|(refine jc ?_;first|refine c1 ?_|refine c2 ?_))
    rw [rsigned, if_neg (by decide)]
    by_cases hf : (signedN l).2 = 0
    · rw [if_neg (by simpa using hf), hf]
      refine lj_to rfl rfl rfl (p_took (u := 6) hid (signedN_ok hf)) ?_
      repeat (first|(refine jl ?_;first|refine j1 ?_|refine j4 ?_)|(refine jc ?_;first|refine c7 ?_)|refine n11 ?_)
      exact gives (St.le_refl _) (Fin.refl _ _ _)
    · rw [if_pos hf]
      refine lj_to rfl rfl rfl (p_took_bad hid hf) ?_
      repeat (first|(refine jl ?_;first|refine j1 ?_|refine j4 ?_)|(refine jc ?_;first|refine c7 ?_)|refine n11 ?_)
      exact gives (St.le_refl _) (Fin.refl _ _ _)
theorem p_rdsigned0 : Pure Tryd.prog 107 [.v (.pointer none)] (.v (.int .i64 0)) := by
  refine enterW Tryd.func107 rfl rfl rfl rfl (fun σ => ?_)
  repeat (first|(refine jl ?_;first|refine j1 ?_|refine j4 ?_)|(refine jc ?_;first|refine c1 ?_|refine c2 ?_))
  refine lj_pure rfl rfl rfl p_err0 ?_
  repeat (first|(refine jl ?_;first|refine j1 ?_|refine j4 ?_)|(refine jc ?_;first|refine c1 ?_|refine c2 ?_|refine cj_yes rfl ?_|refine c7 ?_)|refine n2 ?_|refine n11 ?_)
  exact gives (St.le_refl _) (Fin.refl _ _ _)
def rdone (l : List UInt8) (e : Int) : Int := if e ≠ 0 then e else if l = [] then 0 else 4
end Go.Proofs.YtddljegbggncdaaDoor.Ab

/- Numbers of a set width, 7: the program's reader of texts, and its making. -/
set_option linter.unusedVariables false
set_option linter.unusedSimpArgs false
set_option maxRecDepth 20000
namespace Go.Proofs.YtddljegbggncdaaDoor.Ab
open Go
attribute [local irreducible] thn inb endR CJ LJ OpJ DJ

def rtextOk : List UInt8 → ByteArray × List UInt8 × Int
  | [] => (⟨#[]⟩, [], 3)
  | b :: r => if r.length < b.toNat then (⟨#[]⟩, b :: r, 3) else (⟨(r.take b.toNat).toArray⟩, r.drop b.toNat, 0)
def rtext (l : List UInt8) (e : Int) : ByteArray × List UInt8 × Int := if e ≠ 0 then (⟨#[]⟩, l, e) else rtextOk l
theorem wrap8in (b : UInt8) : IntKind.i64.wrap ((b.toNat : Int)) = b.toNat := wrapNat _ (by have := b.toNat_lt; omega)
theorem p_rdtext {σ : St} {id : Nat} {l : List UInt8} {e : Int} (hl : l.length < 9223372036854775807) (hid : σ id = some (rd l e)) : ACalls Tryd.prog 108 [.ptr id 2 0 0] σ (Leaves (σ.set id (rd (rtext l e).2.1 (rtext l e).2.2)) (.v (.string (rtext l e).1))) := by
  refine enterS Tryd.func108 rfl rfl rfl rfl ?_
  repeat (first|(refine jl ?_;first|refine j1 ?_|refine j4 ?_)|(refine jc ?_;first|refine c1 ?_|refine c2 ?_))
  refine lj_to rfl rfl rfl (p_err hid) ?_
  repeat' (first |(first|(refine jl ?_;first|refine j1 ?_|refine j4 ?_)|(refine jc ?_;first|refine c1 ?_|refine c2 ?_|refine c6 ?_|refine c7 ?_)|refine n1 ?_|refine n2 ?_|refine n11 ?_)|(refine c9 (fun h=>?_) (fun h=>?_) <;> (try (exfalso; simp at h; done))))
  · have he : e ≠ 0 := by simpa using h
    rw [rtext, if_pos he, St.set_id hid]
    exact gives (St.le_refl _) (Fin.refl _ _ _)
  · have he : e = 0 := by simpa using h
    subst he
    clear h
    rw [rtext, if_neg (by decide)]
    refine cj_drawn (by kernel_rfl) 999 _ rfl (by kernel_rfl) (.inr rfl) ?_
    repeat' (first | (first | refine dj_auto rfl rfl ?_ | refine dj_autoy rfl rfl rfl rfl ?_ | refine dj_n rfl rfl rfl rfl ?_ | refine dj_nil rfl ?_ | refine dj_v rfl (fun R hR => opj_load_ptr rfl rfl rfl (by first | exact St.set_same _ _ _ | assumption | exact St.set_keep (by assumption) (St.set_same _ _ _) | exact St.set_keep (by assumption) (by assumption) | exact St.set_keep (by assumption) (St.set_keep (by assumption) (St.set_same _ _ _)) | exact St.set_keep (by assumption) (St.set_keep (by assumption) (by assumption))) rfl rfl hR) (fun R hR => opj_load_ptr rfl rfl rfl (by first | exact St.set_same _ _ _ | assumption | exact St.set_keep (by assumption) (St.set_same _ _ _) | exact St.set_keep (by assumption) (by assumption) | exact St.set_keep (by assumption) (St.set_keep (by assumption) (St.set_same _ _ _)) | exact St.set_keep (by assumption) (St.set_keep (by assumption) (by assumption))) rfl rfl hR) ?_ | refine dj_vy rfl rfl rfl (fun R hR => opj_load_ptr rfl rfl rfl (by first | exact St.set_same _ _ _ | assumption | exact St.set_keep (by assumption) (St.set_same _ _ _) | exact St.set_keep (by assumption) (by assumption) | exact St.set_keep (by assumption) (St.set_keep (by assumption) (St.set_same _ _ _)) | exact St.set_keep (by assumption) (St.set_keep (by assumption) (by assumption))) rfl rfl hR) (fun R hR => opj_load_ptr rfl rfl rfl (by first | exact St.set_same _ _ _ | assumption | exact St.set_keep (by assumption) (St.set_same _ _ _) | exact St.set_keep (by assumption) (by assumption) | exact St.set_keep (by assumption) (St.set_keep (by assumption) (St.set_same _ _ _)) | exact St.set_keep (by assumption) (St.set_keep (by assumption) (by assumption))) rfl rfl hR) ?_) | ((fail_if_success refine dj_gt rfl rfl ?_); (fail_if_success refine dj_gf rfl rfl ?_); ((refine dj_gcase rfl rfl (fun h => ?_) (fun h => ?_)) <;> (try (exfalso; simp at h; done)))))
    · have h0 : l = [] := by simpa [length_bys] using h
      subst h0
      repeat (first|(refine jl ?_;first|refine j1 ?_|refine j4 ?_|refine j17 ?_)|(refine jc ?_;first|refine c1 ?_|refine c2 ?_|refine c3 ?_|refine c7 ?_)|refine n1 ?_|refine n2 ?_|refine n11 ?_)
      exact gives (St.le_refl _) (Fin.refl _ _ _)
    · cases l with
      | nil => simp [bys] at h
      | cons b r =>
        have hb := b.toNat_lt
        simp only [List.length_cons] at hl
        refine dj_vy rfl rfl rfl (fun R hR => opj_indexAddr_sl rfl rfl rfl rfl rfl (by decide) (el := [.v (.int .u8 b.toNat)]) rfl hR) (fun R hR => opj_indexAddr_sl rfl rfl rfl rfl rfl (by decide) (el := [.v (.int .u8 b.toNat)]) rfl hR) ?_
        repeat (first | refine dj_auto rfl rfl ?_ | refine dj_autoy rfl rfl rfl rfl ?_ | refine dj_n rfl rfl rfl rfl ?_ | refine dj_nil rfl ?_ | refine dj_v rfl (fun R hR => opj_load_ptr rfl rfl rfl (by first | exact St.set_same _ _ _ | assumption | exact St.set_keep (by assumption) (St.set_same _ _ _) | exact St.set_keep (by assumption) (by assumption) | exact St.set_keep (by assumption) (St.set_keep (by assumption) (St.set_same _ _ _)) | exact St.set_keep (by assumption) (St.set_keep (by assumption) (by assumption))) rfl rfl hR) (fun R hR => opj_load_ptr rfl rfl rfl (by first | exact St.set_same _ _ _ | assumption | exact St.set_keep (by assumption) (St.set_same _ _ _) | exact St.set_keep (by assumption) (by assumption) | exact St.set_keep (by assumption) (St.set_keep (by assumption) (St.set_same _ _ _)) | exact St.set_keep (by assumption) (St.set_keep (by assumption) (by assumption))) rfl rfl hR) ?_ | refine dj_vy rfl rfl rfl (fun R hR => opj_load_ptr rfl rfl rfl (by first | exact St.set_same _ _ _ | assumption | exact St.set_keep (by assumption) (St.set_same _ _ _) | exact St.set_keep (by assumption) (by assumption) | exact St.set_keep (by assumption) (St.set_keep (by assumption) (St.set_same _ _ _)) | exact St.set_keep (by assumption) (St.set_keep (by assumption) (by assumption))) rfl rfl hR) (fun R hR => opj_load_ptr rfl rfl rfl (by first | exact St.set_same _ _ _ | assumption | exact St.set_keep (by assumption) (St.set_same _ _ _) | exact St.set_keep (by assumption) (by assumption) | exact St.set_keep (by assumption) (St.set_keep (by assumption) (St.set_same _ _ _)) | exact St.set_keep (by assumption) (St.set_keep (by assumption) (by assumption))) rfl rfl hR) ?_)
        have hlen : IntKind.i64.wrap (((bys (b :: r)).length : Int) - 1) = r.length := by
          rw [length_bys, List.length_cons]
          have e1 : ((r.length + 1 : Nat) : Int) - 1 = r.length := by omega
          rw [e1, wrapNat _ (by omega)]
        rw [hlen, wrap8in]
        repeat' (first |(first|(refine jl ?_;first|refine j1 ?_|refine j4 ?_|refine j14 ?_|refine j17 ?_)|(refine jc ?_;first|refine c1 ?_|refine c2 ?_|refine c6 ?_|refine c7 ?_)|refine n1 ?_|refine n2 ?_|refine n11 ?_)|(refine c9 (fun h=>?_) (fun h=>?_) <;> (try (exfalso; simp at h; done))))
        · have hlt : r.length < b.toNat := by simpa using h
          simp only [rtextOk, if_pos hlt]
          exact gives (St.le_refl _) (Fin.refl _ _ _)
        · have hlt : ¬ r.length < b.toNat := by simpa using h
          simp only [rtextOk, if_neg hlt]
          refine lj_v rfl (fun R hR => opj_indexAddr_sl rfl rfl rfl rfl rfl (by decide) (el := [.v (.int .u8 b.toNat)]) rfl hR) ?_
          repeat (first|(refine jl ?_;first|refine jbl ?_|refine j1 ?_|refine j4 ?_|refine j14 ?_)|(refine jc ?_;first|refine c1 ?_|refine c2 ?_))
          rw [wrap8in, show (1 : Int) + (b.toNat : Int) = ((1 + b.toNat : Nat) : Int) from by omega, wrapNat (1 + b.toNat) (by omega)]
          refine lj_v rfl (fun R hR => opj_cut_sl rfl rfl rfl rfl rfl rfl (by omega) (by omega) (by rw [length_bys, List.length_cons]; omega) hR) ?_
          rw [show (((1 + b.toNat : Nat) : Int)).toNat = 1 + b.toNat from rfl, bys_take, show (Int.toNat 1) = 1 from rfl, bys_drop]
          repeat (first|fail)
          refine lj_v rfl (fun R hR => opj_conv_bytes rfl rfl rfl rfl rfl rfl hR) ?_
          repeat (first|(refine jl ?_;first|refine j1 ?_|refine j4 ?_|refine j14 ?_)|(refine jc ?_;first|refine c1 ?_|refine c2 ?_))
          refine lj_v rfl (fun R hR => opj_cut_sl rfl rfl rfl rfl rfl rfl (by omega) (by rw [length_bys, List.length_cons]; omega) (by omega) hR) ?_
          rw [show (((bys (b :: r)).length : Int)).toNat = (bys (b :: r)).length from rfl, List.take_length, show (((1 + b.toNat : Nat) : Int)).toNat = 1 + b.toNat from rfl, bys_drop]
          repeat (first|(refine jl ?_;first|refine j1 ?_|refine j4 ?_|refine j17 ?_)|(refine jc ?_;first|refine c1 ?_|refine c2 ?_|refine c7 ?_)|refine n11 ?_)
          have e1 : (b :: r).drop (1 + b.toNat) = r.drop b.toNat := by rw [Nat.add_comm]; rfl
          have e2 : ((b :: r).take (1 + b.toNat)).drop 1 = r.take b.toNat := by rw [Nat.add_comm]; rfl
          rw [e1, e2]
          exact gives (St.le_refl _) (Fin.refl _ _ _)
theorem p_rdtext0 : Pure Tryd.prog 108 [.v (.pointer none)] (.v (.string ⟨#[]⟩)) := by
  refine enterW Tryd.func108 rfl rfl rfl rfl (fun σ => ?_)
  repeat (first|(refine jl ?_;first|refine j1 ?_|refine j4 ?_)|(refine jc ?_;first|refine c1 ?_|refine c2 ?_))
  refine lj_pure rfl rfl rfl p_err0 ?_
  repeat (first|(refine jl ?_;first|refine j1 ?_|refine j4 ?_)|(refine jc ?_;first|refine c1 ?_|refine c2 ?_|refine cj_yes rfl ?_|refine c7 ?_)|refine n2 ?_|refine n11 ?_)
  exact gives (St.le_refl _) (Fin.refl _ _ _)
theorem p_new (nl : Option Bool) (full : Bool) (l : List UInt8) (hl : l.length ≤ 140737488355328) (σ : St) : ACalls Tryd.prog 105 [.sl nl full 1 (bys l)] σ (fun e σ' => ∃ id, σ id = none ∧ e = .ret (.ptr id 2 0 0) ∧ σ' = σ.set id (rd l 0)) := by
  refine enter Tryd.func105 rfl rfl rfl rfl ?_
  repeat (first|(refine jl ?_;first|refine j1 ?_|refine j4 ?_)|(refine jc ?_;first|refine c1 ?_|refine c2 ?_))
  refine lj_pure rfl rfl rfl (p_clone _ _ l hl) ?_
  repeat (first|(refine jl ?_;first|refine jb ?_|refine j1 ?_|refine j4 ?_|refine j12 (fun id hid=>?_))|(refine jc ?_;first|refine c7 ?_)|refine n11 ?_)
  exact ⟨_, by assumption, rfl, rfl⟩
theorem rnum_le (l : List UInt8) (e w : Int) : (rnum l e w).2.1.length ≤ l.length := by
  unfold rnum
  split
  · exact Nat.le_refl _
  · split
    · exact Nat.le_refl _
    · simp
theorem rsigned_le (l : List UInt8) (e : Int) : (rsigned l e).2.1.length ≤ l.length := by
  unfold rsigned
  split
  · exact Nat.le_refl _
  · split
    · exact Nat.le_refl _
    · simp
theorem rtext_le (l : List UInt8) (e : Int) : (rtext l e).2.1.length ≤ l.length := by
  unfold rtext
  split
  · exact Nat.le_refl _
  · unfold rtextOk
    split
    · exact Nat.le_refl _
    · split
      · exact Nat.le_refl _
      · simp; omega
end Go.Proofs.YtddljegbggncdaaDoor.Ab

/- Values: their bytes. -/
set_option linter.unusedVariables false
set_option linter.unusedSimpArgs false
set_option maxRecDepth 20000
namespace Go.Proofs.YtddljegbggncdaaDoor.Ab
open Go
attribute [local irreducible] thn inb endR CJ LJ OpJ DJ

def putV (k n : Int) (s : ByteArray) : List UInt8 := if ¬ checkE k n s = 0 then [] else if k = 1 then 1 :: signB n else if k = 2 then 2 :: textB s else [0]
theorem checkE_kind {k n : Int} {s : ByteArray} (h : checkE k n s = 0) : k ≤ 2 := by
  unfold checkE at h
  grind
theorem checkE_size {k n : Int} {s : ByteArray} (h : checkE k n s = 0) (hk : k = 2) : s.size ≤ 24 := by
  refine wordB_size ?_
  unfold checkE at h
  grind
theorem p_putv (k n : Int) (s : ByteArray) (hk : 0 ≤ k) : Pure Tryd.prog 102 [vv k n s] (.tup [.sl none false 1 (bys (putV k n s)), .v (.int .i64 (checkE k n s))]) := by
  refine enterW Tryd.func102 rfl rfl rfl rfl (fun σ => ?_)
  have hl1 : (signB n).length ≤ 6 := by unfold signB; split <;> simp [length_be]
  have hl2 : (textB s).length ≤ 256 := by
    unfold textB; split
    · simp
    · rw [List.length_cons, bl_len]; omega
  repeat' (first|(first|(refine jl ?_;first|refine j1 ?_|refine j4 ?_|refine j6 ?_|refine j12 (fun id hid=>?_)|refine j14 ?_|refine jp (p_check _ _ _) ?_|refine jp (p_sign n (by have := checkE_ok ‹checkE k n s = 0›; omega)) ?_|refine jp (p_text _) ?_)|(refine jc ?_;first|refine c1 ?_|refine c2 ?_|refine c5 ?_|refine c6 ?_|refine c7 ?_)|refine n1 ?_|refine n2 ?_|refine n10 ?_|refine n11 ?_)|(refine c9 (fun h=>?_) (fun h=>?_)<;>(try simp only [Bool.or_eq_true, Bool.and_eq_true, Bool.or_eq_false_iff, Bool.and_eq_false_iff, Bool.not_eq_true', Bool.not_eq_false', decide_eq_true_eq, decide_eq_false_iff_not, Bool.false_eq_true, Bool.true_eq_false, reduceCtorEq] at h)))
  · rw [putV, if_pos h]
    exact gvs (fin_two (.wk (Wk.sl _ _ _ _)) (Fin.refl _ _ _))
  all_goals
    have hc : checkE k n s = 0 := by assumption
    refine jlit ?_
    repeat (first|(refine jl ?_;first|refine j1 ?_))
    refine japp 1 ?_
    repeat (first|(refine jl ?_;first|refine j1 ?_|refine j4 ?_)|(refine jc ?_;first|refine c7 ?_)|refine n11 ?_)
    rw [putV, if_neg (by omega), hc]
  · rw [if_pos h]
    have he : signE n = 0 := by have := checkE_ok hc; rw [signE, if_neg (by omega)]
    rw [he]
    subst h
    exact gvs (fin_two (Fin.refl _ _ _) (Fin.refl _ _ _))
  · rename_i h1
    rw [if_neg h1, if_pos h]
    have he : textE s = 0 := by have := checkE_size hc h; rw [textE, if_neg (by omega)]
    rw [he]
    subst h
    exact gvs (fin_two (Fin.refl _ _ _) (Fin.refl _ _ _))
  · rename_i h1
    rw [if_neg h1, if_neg h]
    have h0 : k = 0 := by have := checkE_kind hc; omega
    subst h0
    exact gvs (fin_two (Fin.refl _ _ _) (Fin.refl _ _ _))
/-- What stands behind the kind. -/
def getB (k : Int) (l : List UInt8) (e : Int) : Int × ByteArray × List UInt8 × Int :=
  if k = 1 then ((rsigned l e).1, ⟨#[]⟩, (rsigned l e).2.1, (rsigned l e).2.2) else if k = 2 then (0, (rtext l e).1, (rtext l e).2.1, (rtext l e).2.2) else (0, ⟨#[]⟩, l, e)
def getF (k : Int) (r : Int × ByteArray × List UInt8 × Int) (len : Nat) : Int × Int × ByteArray × Int × Int :=
  if r.2.2.2 = 3 then (0, 0, ⟨#[]⟩, 0, 3) else if ¬ r.2.2.2 = 0 ∨ ¬ checkE k r.1 r.2.1 = 0 then (0, 0, ⟨#[]⟩, 0, 4) else (k, r.1, r.2.1, len - r.2.2.1.length, 0)
def getV (l : List UInt8) : Int × Int × ByteArray × Int × Int :=
  getF (IntKind.u8.wrap (rnum l 0 1).1) (getB (IntKind.u8.wrap (rnum l 0 1).1) (rnum l 0 1).2.1 (rnum l 0 1).2.2) l.length
theorem p_getv (nl : Option Bool) (full : Bool) (l : List UInt8) (hl : l.length ≤ 140737488355328) : Pure Tryd.prog 82 [.sl nl full 1 (bys l)] (.tup [vv (getV l).1 (getV l).2.1 (getV l).2.2.1, .v (.int .i64 (getV l).2.2.2.1), .v (.int .i64 (getV l).2.2.2.2)]) := by
  refine enterW Tryd.func82 rfl rfl rfl rfl (fun σ => ?_)
  repeat (first|(refine jl ?_;first|refine j1 ?_|refine j4 ?_|refine j13 (fun id hid=>?_))|(refine jc ?_;first|refine c1 ?_|refine c2 ?_))
  refine lj_calls rfl rfl rfl (p_new _ _ l hl _) (fun r σ' hr => ?_) (fun x σ' ⟨_, _, h, _⟩ => by cases h)
  obtain ⟨ir, hir, hr1, rfl⟩ := hr
  cases hr1
  repeat (first|(refine jl ?_;first|refine j1 ?_|refine j4 ?_)|(refine jc ?_;first|refine c1 ?_|refine c2 ?_))
  have hai : id ≠ ir := St.ne_of_none hir
  refine lj_to rfl rfl rfl (p_num 1 (St.set_same _ _ _)) ?_
  have hl1 : (rnum l 0 1).2.1.length ≤ l.length := rnum_le _ _ _
  unfold getV
  generalize rnum l 0 1 = q at *
  obtain ⟨k0, l1, e1⟩ := q
  dsimp only at hl1 ⊢
  generalize hk : IntKind.u8.wrap k0 = k
  repeat (first|(refine jl ?_;first|refine jb ?_|refine j1 ?_|refine j4 ?_|refine j13 (fun id hid=>?_)|refine j14 ?_|refine j17t ?_)|(refine jc ?_;first|refine c1 ?_|refine c2 ?_|refine c5 ?_))
  rename_i ia hia
  rw [hk]
  rw [St.set_set]
  have hri : ir ≠ id := by
    rw [St.set_set] at hid
    exact St.ne_of_none hid
  have hav := St.ne_of_none (St.none_set (St.none_set hid))
  have hrn := rsigned_le l1 e1
  have htn := rtext_le l1 e1
  repeat' (first|(first|(refine jl ?_;first|refine jb ?_|refine j1 ?_|refine j4 ?_|refine j6 ?_|refine j14 ?_|refine j17 ?_|refine lj_to rfl rfl rfl (p_rdsigned lkp) ?_|refine lj_to rfl rfl rfl (p_rdtext (l := l1) (e := e1) (by omega) lkp) ?_|refine lj_to rfl rfl rfl (p_err lkp) ?_|refine jp (p_check _ _ _) ?_)|(refine jc ?_;first|refine c1 ?_|refine c2 ?_|refine c3 ?_|refine c5 ?_|refine c6 ?_|refine c7 ?_)|refine n1 ?_|refine n2 ?_|refine n6 ?_|refine n10 ?_|refine n16 ?_)|(refine c9 (fun h=>?_) (fun h=>?_)<;>(try simp only [Bool.or_eq_true, Bool.and_eq_true, Bool.or_eq_false_iff, Bool.and_eq_false_iff, Bool.not_eq_true', Bool.not_eq_false', decide_eq_true_eq, decide_eq_false_iff_not, Bool.false_eq_true, Bool.true_eq_false, reduceCtorEq] at h)))
  all_goals unfold getB
  all_goals repeat (first | rw [if_pos (by assumption)] | rw [if_neg (by assumption)])
  all_goals unfold getF
  all_goals dsimp only
  all_goals repeat (first | rw [if_pos (by first | assumption | exact .inl (by assumption) | exact .inr (by assumption))] | rw [if_neg (by first | assumption | (rintro (h | h) <;> contradiction))])
  all_goals try exact gvs (fin_three (Fin.refl _ _ _) (Fin.refl _ _ _) (Fin.refl _ _ _))
  all_goals first
    | (refine cqs 6 ia (.row 3 37 [[.v (.int .u8 k), .v (.int .i64 (rsigned l1 e1).1), .v (.string ⟨#[]⟩)]]) ?_
       repeat (first|(refine dl ?_;first|refine d1 ?_|refine d4 ?_|refine d14 ?_|refine d17 ?_|refine dka (hp := p_left lkp) ?_)|(refine jc ?_;first|refine c7 ?_)|refine n1 ?_|refine n16 ?_)
       rw [length_bys, w64 (by omega) (by omega)]
       exact gvs (fin_three (Fin.refl _ _ _) (Fin.refl _ _ _) (Fin.refl _ _ _)))
    | (refine cqs 6 ia (.row 3 37 [[.v (.int .u8 k), .v (.int .i64 0), .v (.string (rtext l1 e1).1)]]) ?_
       repeat (first|(refine dl ?_;first|refine d1 ?_|refine d4 ?_|refine d14 ?_|refine d17 ?_|refine dka (hp := p_left lkp) ?_)|(refine jc ?_;first|refine c7 ?_)|refine n1 ?_|refine n16 ?_)
       rw [length_bys, w64 (by omega) (by omega)]
       exact gvs (fin_three (Fin.refl _ _ _) (Fin.refl _ _ _) (Fin.refl _ _ _)))
    | (refine cqs 6 ia (.row 3 37 [[.v (.int .u8 k), .v (.int .i64 0), .v (.string ⟨#[]⟩)]]) ?_
       repeat (first|(refine dl ?_;first|refine d1 ?_|refine d4 ?_|refine d14 ?_|refine d17 ?_|refine dka (hp := p_left lkp) ?_)|(refine jc ?_;first|refine c7 ?_)|refine n1 ?_|refine n16 ?_)
       rw [length_bys, w64 (by omega) (by omega)]
       exact gvs (fin_three (Fin.refl _ _ _) (Fin.refl _ _ _) (Fin.refl _ _ _)))
    | trace_state
end Go.Proofs.YtddljegbggncdaaDoor.Ab

/- Values: awake. -/
set_option linter.unusedVariables false
set_option linter.unusedSimpArgs false
set_option maxRecDepth 20000
namespace Go.Proofs.YtddljegbggncdaaDoor.Ab
open Go
attribute [local irreducible] thn inb endR CJ LJ OpJ DJ

def sM12 : ByteArray := ⟨#[45, 49, 50]⟩
def sAB : ByteArray := ⟨#[97, 45, 98]⟩
theorem e_p1 : parseV ⟨#[45, 49, 50]⟩ = (1, -12, ⟨#[]⟩, 0) := by decide +kernel
theorem e_p2 : parseV ⟨#[97, 45, 98]⟩ = (2, 0, ⟨#[97, 45, 98]⟩, 0) := by decide +kernel
theorem e_p3 : parseV ⟨#[110, 105, 108]⟩ = (0, 0, ⟨#[]⟩, 0) := by decide +kernel
theorem e_c2 : checkE 2 0 ⟨#[97, 45, 98]⟩ = 0 := by decide +kernel
theorem e_u2 : putV 2 0 ⟨#[97, 45, 98]⟩ = [2, 3, 97, 45, 98] := by decide +kernel
theorem e_t1 : textV 1 (-12) ⟨#[]⟩ = ⟨#[45, 49, 50]⟩ := by decide +kernel
theorem q_p1 : Pure Tryd.prog 141 [.v (.string ⟨#[45, 49, 50]⟩)] (.tup [vv 1 (-12) ⟨#[]⟩, .v (.int .i64 0)]) := by have := p_parse ⟨#[45, 49, 50]⟩; rw [e_p1] at this; exact this
theorem q_p2 : Pure Tryd.prog 141 [.v (.string ⟨#[97, 45, 98]⟩)] (.tup [vv 2 0 ⟨#[97, 45, 98]⟩, .v (.int .i64 0)]) := by have := p_parse ⟨#[97, 45, 98]⟩; rw [e_p2] at this; exact this
theorem q_p3 : Pure Tryd.prog 141 [.v (.string ⟨#[110, 105, 108]⟩)] (.tup [vv 0 0 ⟨#[]⟩, .v (.int .i64 0)]) := by have := p_parse ⟨#[110, 105, 108]⟩; rw [e_p3] at this; exact this
theorem q_u2 : Pure Tryd.prog 102 [vv 2 0 ⟨#[97, 45, 98]⟩] (.tup [.sl none false 1 (bys [2, 3, 97, 45, 98]), .v (.int .i64 0)]) := by have := p_putv 2 0 ⟨#[97, 45, 98]⟩ (by decide); rw [e_u2, e_c2] at this; exact this
theorem q_c2 : Pure Tryd.prog 110 [vv 2 0 ⟨#[97, 45, 98]⟩] (.v (.int .i64 0)) := by have := p_check 2 0 ⟨#[97, 45, 98]⟩; rw [e_c2] at this; exact this
theorem q_t1 : Pure Tryd.prog 91 [vv 1 (-12) ⟨#[]⟩] (.v (.string ⟨#[45, 49, 50]⟩)) := by have := p_textv 1 (-12) ⟨#[]⟩; rw [e_t1] at this; exact this
end Go.Proofs.YtddljegbggncdaaDoor.Ab

/- Values: what is put is got; texts and bytes tell values apart. -/
set_option linter.unusedVariables false
set_option linter.unusedSimpArgs false
set_option maxRecDepth 20000
namespace Go.Proofs.YtddljegbggncdaaDoor.Ab
open Go

/-! ### Bytes -/
theorem rnum1 (b : UInt8) (l : List UInt8) : rnum (b :: l) 0 1 = ((b.toNat : Int), l, 0) := by
  have h : getN (b :: l) 1 = ((beNat [b] : Int), 0) := by
    unfold getN
    rw [if_neg (by omega), if_neg (by simp; omega)]
    rfl
  unfold rnum
  rw [if_neg (by decide), h, if_neg (by simp)]
  simp [beNat]
theorem rnum0 : rnum [] 0 1 = (0, [], 3) := by decide
theorem beNat_signB (n : Int) (hn : -1099511627776 ≤ n ∧ n ≤ 1099511627776) : signB n = be 6 (n + 1099511627776).toNat ∧ beNat (be 6 (n + 1099511627776).toNat) = (n + 1099511627776).toNat := by
  have he : signE n = 0 := by rw [signE, if_neg (by omega)]
  refine ⟨by rw [signB, he, if_pos rfl], ?_⟩
  rw [beNat_be]
  exact Nat.mod_eq_of_lt (by have : (256 : Nat) ^ 6 = 281474976710656 := by decide
                             omega)
theorem rsigned_signB (n : Int) (hn : -1099511627776 ≤ n ∧ n ≤ 1099511627776) (r : List UInt8) : rsigned (signB n ++ r) 0 = (n, r, 0) := by
  obtain ⟨h1, h2⟩ := beNat_signB n hn
  have hl : (be 6 (n + 1099511627776).toNat).length = 6 := length_be _ _
  have ht : (signB n ++ r).take 6 = be 6 (n + 1099511627776).toNat := by rw [h1]; exact List.take_left' hl
  have hd : (signB n ++ r).drop 6 = r := by rw [h1]; exact List.drop_left' hl
  have hs : signedN (signB n ++ r) = (n, 0) := by
    unfold signedN
    rw [ht, h2, if_neg (by rw [List.length_append, h1, hl]; omega), if_neg (by omega)]
    congr 1
    omega
  unfold rsigned
  rw [if_neg (by decide), hs, if_neg (by simp), hd]
theorem rtext_textB (s : ByteArray) (hs : s.size ≤ 255) (r : List UInt8) : rtext (textB s ++ r) 0 = (s, r, 0) := by
  have hb : (UInt8.ofNat s.size).toNat = s.size := by rw [UInt8.toNat_ofNat']; omega
  unfold rtext textB
  rw [if_neg (by decide), if_neg (by omega)]
  show rtextOk (UInt8.ofNat s.size :: (s.data.toList ++ r)) = _
  show (if (s.data.toList ++ r).length < (UInt8.ofNat s.size).toNat then _ else _) = _
  rw [hb, if_neg (by rw [List.length_append, bl_len]; omega), List.take_left' (bl_len s), List.drop_left' (bl_len s)]
theorem kind_wrap {k : Int} (h : 0 ≤ k ∧ k ≤ 2) : IntKind.u8.wrap k = k := wu8 (by omega) (by omega)
theorem check_zero {k n : Int} {s : ByteArray} (h : checkE k n s = 0) (hk : k = 0) : n = 0 ∧ s = ⟨#[]⟩ := by unfold checkE at h; grind
theorem check_one {k n : Int} {s : ByteArray} (h : checkE k n s = 0) (hk : k = 1) : s = ⟨#[]⟩ := by unfold checkE at h; grind
theorem check_two {k n : Int} {s : ByteArray} (h : checkE k n s = 0) (hk : k = 2) : n = 0 ∧ wordB s = true ∧ isNumB s = false ∧ s ≠ nilS := by unfold checkE at h; grind
/-- What is put is got, whatever stands behind. -/
theorem get_put {k n : Int} {s : ByteArray} (h0 : 0 ≤ k) (h : checkE k n s = 0) (r : List UInt8) : getV (putV k n s ++ r) = (k, n, s, ((putV k n s).length : Int), 0) := by
  have hk := checkE_kind h
  have hn := checkE_ok h
  have hput : putV k n s = UInt8.ofNat k.toNat :: (if k = 1 then signB n else if k = 2 then textB s else []) := by
    unfold putV
    rw [if_neg (by omega)]
    by_cases h1 : k = 1
    · subst h1; rfl
    · by_cases h2 : k = 2
      · subst h2; rfl
      · have : k = 0 := by omega
        subst this; rfl
  have hkb : ((UInt8.ofNat k.toNat).toNat : Int) = k := by rw [UInt8.toNat_ofNat']; omega
  unfold getV
  rw [hput, List.cons_append, rnum1]
  dsimp only
  rw [hkb, kind_wrap ⟨h0, hk⟩]
  by_cases h1 : k = 1
  · rw [if_pos h1]
    unfold getB
    rw [if_pos h1, rsigned_signB n hn]
    unfold getF
    dsimp only
    have hs := check_one h h1
    rw [if_neg (by decide), if_neg (by rw [hs] at h; simp [h]), hs]
    simp only [List.length_cons, List.length_append]
    congr 4
    omega
  · rw [if_neg h1]
    by_cases h2 : k = 2
    · rw [if_pos h2]
      unfold getB
      rw [if_neg h1, if_pos h2, rtext_textB s (by have := checkE_size h h2; omega)]
      unfold getF
      dsimp only
      obtain ⟨hz, _⟩ := check_two h h2
      rw [if_neg (by decide), if_neg (by rw [hz] at h; simp [h]), hz]
      simp only [List.length_cons, List.length_append]
      congr 4
      omega
    · have h3 : k = 0 := by omega
      rw [if_neg h2]
      unfold getB
      rw [if_neg h1, if_neg h2]
      unfold getF
      dsimp only
      obtain ⟨hz, hs⟩ := check_zero h h3
      rw [if_neg (by decide), if_neg (by rw [hz, hs] at h; simp [h]), hz, hs]
      simp only [List.length_cons, List.length_append, List.length_nil, List.nil_append]
      congr 4
      omega
/-- One byte fewer is too few. -/
theorem get_cut {k n : Int} {s : ByteArray} (h0 : 0 ≤ k) (h : checkE k n s = 0) : (getV ((putV k n s).take ((putV k n s).length - 1))).2.2.2.2 = 3 := by
  have hk := checkE_kind h
  have hn := checkE_ok h
  by_cases h1 : k = 1
  · subst h1
    have hput : putV 1 n s = 1 :: signB n := by unfold putV; rw [if_neg (by omega)]; rfl
    have hl : (signB n).length = 6 := by rw [(beNat_signB n hn).1, length_be]
    rw [hput, List.length_cons, hl]
    show (getV (1 :: (signB n).take 5)).2.2.2.2 = 3
    unfold getV
    rw [rnum1]
    have hw : IntKind.u8.wrap (((1 : UInt8).toNat : Int)) = 1 := by decide
    dsimp only
    rw [hw]
    unfold getB
    rw [if_pos rfl]
    have hs : signedN ((signB n).take 5) = (0, 3) := by
      unfold signedN
      rw [if_pos (by rw [List.length_take, hl]; decide)]
    have hr : rsigned ((signB n).take 5) 0 = (0, (signB n).take 5, 3) := by
      unfold rsigned
      rw [if_neg (by decide), hs, if_pos (by decide)]
    rw [hr]
    rfl
  · by_cases h2 : k = 2
    · subst h2
      obtain ⟨_, hw, _, _⟩ := check_two h rfl
      have hz := wordB_size hw
      have hpos : 0 < s.size := by
        unfold wordB at hw
        simp only [Bool.and_eq_true, decide_eq_true_eq] at hw
        exact hw.1
      have hput : putV 2 n s = 2 :: textB s := by unfold putV; rw [if_neg (by omega)]; rfl
      have ht : textB s = UInt8.ofNat s.size :: s.data.toList := by unfold textB; rw [if_neg (by omega)]
      have hb : (UInt8.ofNat s.size).toNat = s.size := by rw [UInt8.toNat_ofNat']; omega
      rw [hput, ht]
      have e1 : (2 :: UInt8.ofNat s.size :: s.data.toList).take ((2 :: UInt8.ofNat s.size :: s.data.toList).length - 1) = 2 :: UInt8.ofNat s.size :: s.data.toList.take (s.size - 1) := by
        simp only [List.length_cons, bl_len]
        rw [show s.size + 1 + 1 - 1 = (s.size - 1) + 1 + 1 by omega]
        rfl
      rw [e1]
      unfold getV
      rw [rnum1]
      have hwk : IntKind.u8.wrap (((2 : UInt8).toNat : Int)) = 2 := by decide
      dsimp only
      rw [hwk]
      unfold getB
      rw [if_neg (by decide), if_pos rfl]
      have hr : rtext (UInt8.ofNat s.size :: s.data.toList.take (s.size - 1)) 0 = (⟨#[]⟩, UInt8.ofNat s.size :: s.data.toList.take (s.size - 1), 3) := by
        unfold rtext
        rw [if_neg (by decide)]
        show (if (s.data.toList.take (s.size - 1)).length < (UInt8.ofNat s.size).toNat then _ else _) = _
        rw [if_pos (by rw [hb, List.length_take, bl_len]; omega)]
      rw [hr]
      rfl
    · have h3 : k = 0 := by omega
      subst h3
      have hput : putV 0 n s = [0] := by unfold putV; rw [if_neg (by omega)]; rfl
      rw [hput]
      decide
end Go.Proofs.YtddljegbggncdaaDoor.Ab

/- Numbers of a set width, 4: the document's functions. -/
set_option linter.unusedVariables false
set_option linter.unusedSimpArgs false
set_option maxRecDepth 20000
namespace Go.Proofs.YtddljegbggncdaaDoor.Ab
open Go
attribute [local irreducible] thn inb endR CJ LJ OpJ DJ

def topN (w : Int) : Nat := 256 ^ (min w 6).toNat
theorem p_top (w : Int) : Pure Tryd.prog 101 [.v (.int .i64 w)] (.v (.int .i64 (topN w))) := by
  refine enterW Tryd.func101 rfl rfl rfl rfl (fun σ => ?_)
  repeat (first|(refine jl ?_;first|refine j1 ?_|refine j4 ?_)|(refine jc ?_;first|refine c1 ?_|refine c2 ?_|refine c5 ?_))
  refine cj_head (fun i : Nat => i ≤ (min w 6).toNat) (fun i => [(3, .v (.int .i64 ((256 ^ i : Nat) : Int))), (4, .v (.int .i64 i)), (0, .v (.int .i64 w))]) (fun _ => σ) (fun i => (min w 6).toNat - i) 0 (Nat.zero_le _) ⟨rfl, rfl, rfl, trivial⟩ (St.le_refl _) (fun i hi => ?_)
  have hp : 256 ^ i ≤ 256 ^ 6 := Nat.pow_le_pow_right (by omega) (by omega)
  repeat' (first |(first|(refine jl ?_;first|refine j1 ?_|refine j2 ?_|refine j3 ?_|refine j4 ?_|refine j6 ?_)|(refine jc ?_;first|refine c1 ?_|refine c2 ?_|refine c4 ?_|refine c5 ?_|refine c6 ?_|refine c7 ?_|refine c8 ?_)|refine n1 ?_|refine n3 ?_|refine n7 ?_|refine n8 ?_|refine n10 ?_|refine n11 ?_)|((fail_if_success refine lj_gt rfl rfl ?_); (fail_if_success refine lj_gf rfl rfl ?_); ((refine lj_gcase rfl rfl (fun h => ?_) (fun h => ?_)) <;> (try (exfalso; simp at h; done))))|(refine c9 (fun h=>?_) (fun h=>?_) <;> (try (exfalso; simp at h; done))))
  · rename_i h2
    simp only [decide_eq_true_eq] at h h2
    refine nx_thn ?_
    refine ⟨i + 1, by omega, by omega, ⟨?_, ?_, rfl, trivial⟩, St.le_refl _⟩
    · have hp5 : 256 ^ i ≤ 256 ^ 5 := Nat.pow_le_pow_right (by omega) (by omega)
      show some (AV.v (.int .i64 (IntKind.i64.wrap (256 * ((256 ^ i : Nat) : Int))))) = _
      have e : 256 * ((256 ^ i : Nat) : Int) = ((256 ^ (i + 1) : Nat) : Int) := by rw [Nat.pow_succ, Nat.mul_comm]; rfl
      rw [e, wrapNat _ (by rw [Nat.pow_succ]; omega)]
    · show some (AV.v (.int .i64 (IntKind.i64.wrap ((i : Int) + 1)))) = _
      rw [wrap64_in (by omega) (by omega)]; rfl
  · rename_i h2
    simp only [decide_eq_true_eq, decide_eq_false_iff_not] at h h2
    have : i = (min w 6).toNat := by omega
    subst this
    exact gives (St.le_refl _) (Fin.refl _ _ _)
  · simp only [decide_eq_false_iff_not] at h
    have : i = (min w 6).toNat := by omega
    subst this
    exact gives (St.le_refl _) (Fin.refl _ _ _)
theorem rem256 (m : Nat) : ((m : Int)).tmod 256 = ((m % 256 : Nat) : Int) := by
  rw [Int.tmod_eq_emod_of_nonneg (by omega)]; omega
theorem quo256 (m : Nat) : ((m : Int)).tdiv 256 = ((m / 256 : Nat) : Int) := by
  rw [Int.tdiv_eq_ediv_of_nonneg (by omega)]; omega
theorem div_pow_succ (m i : Nat) : m / 256 ^ i / 256 = m / 256 ^ (i + 1) := by rw [Nat.div_div_eq_div_mul, Nat.pow_succ]
theorem p_rput (n w : Int) (hn : -9223372036854775808 ≤ n ∧ n < 9223372036854775808) : Pure Tryd.prog 74 [.v (.int .i64 n), .v (.int .i64 w)] (.tup [.sl none false 1 (bys (putB n w)), .v (.int .i64 (putE n w))]) := by
  refine enterW Tryd.func74 rfl rfl rfl rfl (fun σ => ?_)
  repeat' (first |(first|(refine jl ?_;first|refine j1 ?_|refine j2 ?_|refine j3f ?_|refine j4 ?_)|(refine jc ?_;first|refine c1 ?_|refine c2 ?_|refine c3 ?_|refine c5 ?_|refine c7 ?_)|refine n2 ?_|refine n6 ?_|refine n11 ?_)|((fail_if_success refine lj_gt rfl rfl ?_); (fail_if_success refine lj_gf rfl rfl ?_); ((refine lj_gcase rfl rfl (fun h => ?_) (fun h => ?_)) <;> (try (exfalso; simp at h; done))))|(refine c9 (fun h=>?_) (fun h=>?_) <;> (try (exfalso; simp at h; done))))
  · have he : putE n w = 2 := by
      simp only [decide_eq_true_eq] at h
      rw [putE, if_pos (by omega)]
    rw [putB, he, if_neg (by decide)]
    exact gives (St.le_refl _) (fin_two (.wk (Wk.sl _ _ _ _)) (Fin.refl _ _ _))
  · have he : putE n w = 2 := by
      simp only [decide_eq_true_eq] at h
      rw [putE, if_pos (by omega)]
    rw [putB, he, if_neg (by decide)]
    exact gives (St.le_refl _) (fin_two (.wk (Wk.sl _ _ _ _)) (Fin.refl _ _ _))
  · rename_i h1 h2
    simp only [decide_eq_true_eq, decide_eq_false_iff_not] at h h1 h2
    have he : putE n w = 12 := by rw [putE, if_neg (by omega), if_pos (.inl h)]
    rw [putB, he, if_neg (by decide)]
    exact gives (St.le_refl _) (fin_two (.wk (Wk.sl _ _ _ _)) (Fin.refl _ _ _))
  · rename_i h1 h2
    simp only [decide_eq_false_iff_not] at h h1 h2
    obtain ⟨k, rfl⟩ := Int.eq_ofNat_of_zero_le (show 0 ≤ w by omega)
    obtain ⟨m, rfl⟩ := Int.eq_ofNat_of_zero_le (show 0 ≤ n by omega)
    refine lj_purey rfl rfl rfl rfl rfl (p_top _) ?_
    have ht : topN (k : Int) = 256 ^ k := by
      have : (min (k : Int) 6).toNat = k := by omega
      rw [topN, this]
    rw [ht]
    repeat' (first |(first|(refine jl ?_;first|refine j1 ?_|refine j2 ?_|refine j4 ?_)|(refine jc ?_;first|refine c1 ?_|refine c2 ?_|refine c5 ?_|refine c6 ?_|refine c7 ?_)|refine n1 ?_|refine n2 ?_|refine n6 ?_|refine n10 ?_|refine n11 ?_)|(refine c9 (fun h=>?_) (fun h=>?_) <;> (try (exfalso; simp at h; done))))
    · simp only [decide_eq_true_eq] at h
      have he : putE (m : Int) (k : Int) = 12 := by
        rw [putE, if_neg (by omega), if_pos (.inr (by rw [Int.toNat_natCast]; simpa using h))]
      rw [putB, he, if_neg (by decide)]
      exact gives (St.le_refl _) (fin_two (.wk (Wk.sl _ _ _ _)) (Fin.refl _ _ _))
    · simp only [decide_eq_false_iff_not] at h
      have he : putE (m : Int) (k : Int) = 0 := by
        rw [putE, if_neg (by omega), if_neg (by rw [Int.toNat_natCast]; intro hh; apply h; rcases hh with hh | hh; omega; simpa using hh)]
      rw [putB, he, if_pos rfl, Int.toNat_natCast, Int.toNat_natCast]
      refine cj_headW (fun i : Nat => i ≤ k) (fun i => [(0, .v (.int .i64 ((m / 256 ^ i : Nat) : Int))), (6, .sl none false 1 (bys (be i m))), (7, .v (.int .i64 i)), (1, .v (.int .i64 k))]) (fun _ => σ) (fun i => k - i) 0 (Nat.zero_le _) ⟨⟨_, rfl, Wk.of_eq (by simp)⟩, ⟨_, rfl, Wk.sl _ _ _ _⟩, ⟨_, rfl, Wk.refl _⟩, ⟨_, rfl, Wk.refl _⟩, trivial⟩ (St.le_refl _) (fun i hi => ?_)
      have hbe : bys (be (i + 1) m) = [AV.v (.int .u8 (IntKind.u8.wrap (((m / 256 ^ i : Nat) : Int).tmod 256)))] :: bys (be i m) := by
        rw [be_cons, rem256, wrap8]
        show [AV.v (.int .u8 _)] :: _ = _
        have h9 : (UInt8.ofNat (m / 256 ^ i % 256)).toNat = m / 256 ^ i % 256 := by simp
        rw [h9]
        congr 4
        omega
      repeat' (first |(first|(refine jl ?_;first|refine j1 ?_|refine j4 ?_)|(refine jc ?_;first|refine c1 ?_|refine c2 ?_|refine c5 ?_|refine c6 ?_|refine c7 ?_|refine c8 ?_)|refine n1 ?_|refine n3 ?_|refine n7 ?_|refine n8 ?_|refine n11 ?_)|(refine c9 (fun h=>?_) (fun h=>?_) <;> (try (exfalso; simp at h; done))))
      · simp only [decide_eq_true_eq] at h
        refine lj_v rfl (fun R hR => opj_lit (sz := 1) (zs := [.v (.int .u8 0)]) rfl rfl rfl rfl rfl (by decide) (by decide) rfl rfl rfl hR) ?_
        repeat (first|(refine jl ?_;first|refine j1 ?_))
        refine lj_ite rfl trivial (fun R hR0 hR1 => opj_append_sl (sz := 1) (by_ := 1) (news := bys (be i m)) rfl rfl ⟨rfl, rfl, rfl, by decide⟩ rfl rfl (.inl rfl) rfl rfl (by simp [length_bys, length_be, chunk]; omega) (by decide) hR0 hR1) (fun h0 => ?_) (fun h0 => ?_)
        · repeat (first|(refine jl ?_;first|refine j1 ?_|refine j4 ?_|refine j6 ?_)|(refine jc ?_;first|refine c2 ?_)|refine n1 ?_|refine n10 ?_)
          refine nx_thn ?_
          refine ⟨i + 1, by omega, by omega, ⟨⟨_, rfl, Wk.of_eq ?_⟩, ⟨_, rfl, ?_⟩, ⟨_, rfl, Wk.of_eq ?_⟩, ⟨_, rfl, Wk.refl _⟩, trivial⟩, St.le_refl _⟩
          · rw [← div_pow_succ, quo256, wrapNat _ (Nat.lt_of_le_of_lt (Nat.le_trans (Nat.div_le_self _ _) (Nat.div_le_self _ _)) (by omega : m < 9223372036854775808))]
          · rw [hbe, h0]; exact Wk.sl _ _ _ _
          · rw [wrap64_in (by omega) (by omega)]; rfl
        · repeat (first|(refine jl ?_;first|refine j1 ?_|refine j4 ?_|refine j6 ?_)|(refine jc ?_;first|refine c2 ?_)|refine n1 ?_|refine n10 ?_)
          refine nx_thn ?_
          refine ⟨i + 1, by omega, by omega, ⟨⟨_, rfl, Wk.of_eq ?_⟩, ⟨_, rfl, ?_⟩, ⟨_, rfl, Wk.of_eq ?_⟩, ⟨_, rfl, Wk.refl _⟩, trivial⟩, St.le_refl _⟩
          · rw [← div_pow_succ, quo256, wrapNat _ (Nat.lt_of_le_of_lt (Nat.le_trans (Nat.div_le_self _ _) (Nat.div_le_self _ _)) (by omega : m < 9223372036854775808))]
          · rw [hbe]; exact Wk.sl _ _ _ _
          · rw [wrap64_in (by omega) (by omega)]; rfl
      · simp only [decide_eq_false_iff_not] at h
        have : i = k := by omega
        subst this
        exact gives (St.le_refl _) (fin_two (Fin.refl _ _ _) (Fin.refl _ _ _))
theorem p_rget (nl : Option Bool) (full : Bool) (l : List UInt8) (w : Int) : Pure Tryd.prog 76 [.sl nl full 1 (bys l), .v (.int .i64 w)] (.tup [.v (.int .i64 (getN l w).1), .v (.int .i64 (getN l w).2)]) := by
  refine enterW Tryd.func76 rfl rfl rfl rfl (fun σ => ?_)
  repeat' (first |(first|(refine jl ?_;first|refine j1 ?_|refine j2 ?_|refine j3f ?_|refine j4 ?_)|(refine jc ?_;first|refine c1 ?_|refine c2 ?_|refine c3 ?_|refine c5 ?_|refine c6 ?_|refine c7 ?_)|refine n1 ?_|refine n2 ?_|refine n6 ?_|refine n10 ?_|refine n11 ?_)|((fail_if_success refine lj_gt rfl rfl ?_); (fail_if_success refine lj_gf rfl rfl ?_); ((refine lj_gcase rfl rfl (fun h => ?_) (fun h => ?_)) <;> (try (exfalso; simp at h; done))))|(refine c9 (fun h=>?_) (fun h=>?_) <;> (try (exfalso; simp at h; done))))
  · simp only [decide_eq_true_eq] at h
    rw [getN, if_pos (by omega)]
    exact gives (St.le_refl _) (Fin.refl _ _ _)
  · simp only [decide_eq_true_eq] at h
    rw [getN, if_pos (by omega)]
    exact gives (St.le_refl _) (Fin.refl _ _ _)
  · rename_i h1 h2
    simp only [decide_eq_true_eq, decide_eq_false_iff_not, length_bys] at h h1 h2
    rw [getN, if_neg (by omega), if_pos h]
    exact gives (St.le_refl _) (Fin.refl _ _ _)
  · rename_i h1 h2
    simp only [decide_eq_false_iff_not, length_bys] at h h1 h2
    have h0 := h; clear h
    obtain ⟨k, rfl⟩ := Int.eq_ofNat_of_zero_le (show 0 ≤ w by omega)
    refine cj_head (fun i : Nat => i ≤ k) (fun i => [(6, .v (.int .i64 (beNat (l.take i)))), (1, .v (.int .i64 k)), (7, .v (.int .i64 i)), (0, .sl nl full 1 (bys l))]) (fun _ => σ) (fun i => k - i) 0 (Nat.zero_le _) ⟨rfl, rfl, rfl, rfl, trivial⟩ (St.le_refl _) (fun i hi => ?_)
    have hlt := beNat_lt (l.take i)
    have hp : 256 ^ (l.take i).length ≤ 256 ^ 6 := Nat.pow_le_pow_right (by omega) (by rw [List.length_take]; omega)
    repeat' (first |(first|(refine jl ?_;first|refine j1 ?_|refine j4 ?_)|(refine jc ?_;first|refine c1 ?_|refine c2 ?_|refine c5 ?_|refine c6 ?_|refine c7 ?_|refine c8 ?_)|refine n1 ?_|refine n3 ?_|refine n7 ?_|refine n8 ?_|refine n11 ?_)|(refine c9 (fun h=>?_) (fun h=>?_) <;> (try (exfalso; simp at h; done))))
    · have h3 := h
      simp only [decide_eq_true_eq] at h3
      have hil : i < l.length := by omega
      refine lj_v rfl (fun R hR => opj_indexAddr_sl rfl rfl rfl rfl rfl (by omega) (bys_get l i hil) hR) ?_
      repeat (first|(refine jl ?_;first|refine jbl ?_|refine j1 ?_|refine j6 ?_)|(refine jc ?_;first|refine c2 ?_)|refine n1 ?_|refine n10 ?_)
      refine nx_thn ?_
      refine ⟨i + 1, by omega, by omega, ⟨?_, rfl, ?_, rfl, trivial⟩, St.le_refl _⟩
      · have hs : l.take (i + 1) = l.take i ++ [l[i]] := by rw [List.take_succ_eq_append_getElem hil]
        have hb := (l[i]).toNat_lt
        show some (AV.v (.int .i64 (IntKind.i64.wrap (IntKind.i64.wrap (256 * (beNat (l.take i) : Int)) + IntKind.i64.wrap (l[i].toNat : Int))))) = _
        rw [hs, beNat_snoc, wrap64_in (n := (l[i].toNat : Int)) (by omega) (by omega), wrap64_in (n := 256 * (beNat (l.take i) : Int)) (by omega) (by omega), wrap64_in (by omega) (by omega)]
        congr 3
        omega
      · show some (AV.v (.int .i64 (IntKind.i64.wrap ((i : Int) + 1)))) = _
        rw [wrap64_in (by omega) (by omega)]
        rfl
    · have h3 := h
      simp only [decide_eq_false_iff_not] at h3
      have : i = k := by omega
      subst this
      rw [getN, if_neg (by omega), if_neg (by omega)]
      exact gives (St.le_refl _) (Fin.refl _ _ _)
end Go.Proofs.YtddljegbggncdaaDoor.Ab

/- Numbers of a set width, 5: the document's functions, the others. -/
set_option linter.unusedVariables false
set_option linter.unusedSimpArgs false
set_option maxRecDepth 20000
namespace Go.Proofs.YtddljegbggncdaaDoor.Ab
open Go
attribute [local irreducible] thn inb endR CJ LJ OpJ DJ

theorem p_rsign (n : Int) (hn : -9223372036854775808 ≤ n ∧ n < 9223372036854775808) : Pure Tryd.prog 103 [.v (.int .i64 n)] (.tup [.sl none false 1 (bys (signB n)), .v (.int .i64 (signE n))]) := by
  refine enterW Tryd.func103 rfl rfl rfl rfl (fun σ => ?_)
  repeat' (first |(first|(refine jl ?_;first|refine j1 ?_|refine j2 ?_|refine j3f ?_|refine j4 ?_)|(refine jc ?_;first|refine c1 ?_|refine c2 ?_|refine c3 ?_|refine c6 ?_|refine c7 ?_)|refine n1 ?_|refine n2 ?_|refine n11 ?_)|((fail_if_success refine lj_gt rfl rfl ?_); (fail_if_success refine lj_gf rfl rfl ?_); ((refine lj_gcase rfl rfl (fun h => ?_) (fun h => ?_)) <;> (try (exfalso; simp at h; done))))|(refine c9 (fun h=>?_) (fun h=>?_) <;> (try (exfalso; simp at h; done))))
  · simp only [decide_eq_true_eq] at h
    have he : signE n = 12 := by rw [signE, if_pos (by omega)]
    rw [signB, he, if_neg (by decide)]
    exact gives (St.le_refl _) (fin_two (.wk (Wk.sl _ _ _ _)) (Fin.refl _ _ _))
  · simp only [decide_eq_true_eq] at h
    have he : signE n = 12 := by rw [signE, if_pos (by omega)]
    rw [signB, he, if_neg (by decide)]
    exact gives (St.le_refl _) (fin_two (.wk (Wk.sl _ _ _ _)) (Fin.refl _ _ _))
  · rename_i h2
    simp only [decide_eq_false_iff_not] at h h2
    have hw : IntKind.i64.wrap (n + 1099511627776) = n + 1099511627776 := wrap64_in (by omega) (by omega)
    rw [hw]
    refine lj_pure rfl rfl rfl (p_rput _ 6 (by omega)) ?_
    repeat (first|(refine jl ?_;first|refine j1 ?_|refine j4 ?_)|(refine jc ?_;first|refine c7 ?_)|refine n11 ?_)
    have he : signE n = 0 := by rw [signE, if_neg (by omega)]
    have hp := putE6 (m := n + 1099511627776) (by omega) (by omega)
    rw [signB, he, if_pos rfl]
    refine gives (St.le_refl _) (fin_two (.wk (Wk.of_eq ?_)) (.wk (Wk.of_eq ?_)))
    · rw [putB, hp, if_pos rfl]; rfl
    · rw [hp]
theorem p_rsigned (nl : Option Bool) (full : Bool) (l : List UInt8) : Pure Tryd.prog 136 [.sl nl full 1 (bys l)] (.tup [.v (.int .i64 (signedN l).1), .v (.int .i64 (signedN l).2)]) := by
  refine enterW Tryd.func136 rfl rfl rfl rfl (fun σ => ?_)
  repeat (first|(refine jl ?_;first|refine j1 ?_|refine j4 ?_)|(refine jc ?_;first|refine c1 ?_|refine c2 ?_))
  refine lj_pure rfl rfl rfl (p_rget _ _ _ 6) ?_
  rw [getN6]
  have hlt := beNat_lt (l.take 6)
  have hp : 256 ^ (l.take 6).length ≤ 256 ^ 6 := Nat.pow_le_pow_right (by omega) (by rw [List.length_take]; omega)
  by_cases h6 : (l.length : Int) < 6
  · rw [if_pos h6, signedN, if_pos h6]
    repeat (first|(refine jl ?_;first|refine j1 ?_|refine j4 ?_)|(refine jc ?_;first|refine c1 ?_|refine c2 ?_|refine cj_yes rfl ?_|refine c5 ?_|refine c7 ?_)|refine n2 ?_|refine n6 ?_|refine n11 ?_)
    exact gives (St.le_refl _) (Fin.refl _ _ _)
  · rw [if_neg h6, signedN, if_neg h6]
    repeat' (first |(first|(refine jl ?_;first|refine j1 ?_|refine j4 ?_)|(refine jc ?_;first|refine c1 ?_|refine c2 ?_|refine cj_no rfl ?_|refine c5 ?_|refine c6 ?_|refine c7 ?_)|refine n1 ?_|refine n2 ?_|refine n6 ?_|refine n10 ?_|refine n11 ?_)|(refine c9 (fun h=>?_) (fun h=>?_) <;> (try (exfalso; simp at h; done))))
    · simp only [decide_eq_true_eq] at h
      rw [if_pos h]
      exact gives (St.le_refl _) (Fin.refl _ _ _)
    · simp only [decide_eq_false_iff_not] at h
      rw [if_neg h, wrap64_in (by omega) (by omega)]
      exact gives (St.le_refl _) (Fin.refl _ _ _)
theorem p_rtext (s : ByteArray) : Pure Tryd.prog 104 [.v (.string s)] (.tup [.sl none false 1 (bys (textB s)), .v (.int .i64 (textE s))]) := by
  refine enterW Tryd.func104 rfl rfl rfl rfl (fun σ => ?_)
  repeat' (first |(first|(refine jl ?_;first|refine j1 ?_|refine j4 ?_)|(refine jc ?_;first|refine c1 ?_|refine c2 ?_|refine c6 ?_|refine c7 ?_)|refine n1 ?_|refine n2 ?_|refine n11 ?_)|(refine c9 (fun h=>?_) (fun h=>?_) <;> (try (exfalso; simp at h; done))))
  · simp only [decide_eq_true_eq] at h
    rw [textB, textE, if_pos (by omega), if_pos (by omega)]
    exact gives (St.le_refl _) (fin_two (.wk (Wk.sl _ _ _ _)) (Fin.refl _ _ _))
  · simp only [decide_eq_false_iff_not] at h
    rw [textB, textE, if_neg (by omega), if_neg (by omega)]
    refine lj_v rfl (fun R hR => opj_lit (sz := 1) (zs := [.v (.int .u8 0)]) (out := [.v (.int .u8 (IntKind.u8.wrap (s.size : Int)))]) rfl rfl rfl rfl rfl (by decide) (by decide) rfl rfl rfl hR) ?_
    repeat (first|(refine jl ?_;first|refine j1 ?_))
    have hb : (AV.v (.int .u8 (IntKind.u8.wrap (s.size : Int)))) = .v (.int .u8 ((UInt8.ofNat s.size).toNat : Int)) := by
      rw [wrap8]
      have : (UInt8.ofNat s.size).toNat = s.size := by simp; omega
      rw [this]
      congr 2
      omega
    refine lj_ite rfl trivial (fun R hR0 hR1 => opj_append_str rfl rfl ⟨rfl, rfl, rfl, by decide⟩ rfl rfl rfl (.inl rfl) rfl (by simp [chunk]; omega) hR0 hR1) (fun h0 => ?_) (fun h0 => ?_)
    · repeat (first|(refine jl ?_;first|refine j1 ?_|refine j4 ?_)|(refine jc ?_;first|refine c7 ?_)|refine n11 ?_)
      have h1 : s.data.toList = [] := List.eq_nil_of_length_eq_zero (by rw [size_toList]; exact h0)
      refine gives (St.le_refl _) (fin_two ?_ (Fin.refl _ _ _))
      rw [h1]
      refine .wk ?_
      have := Wk.sl (some false) true 1 [[AV.v (.int .u8 (IntKind.u8.wrap (s.size : Int)))]]
      rw [hb] at this
      show Wk (.sl (some false) true 1 [[AV.v (.int .u8 (IntKind.u8.wrap (s.size : Int)))]]) _
      rw [hb]
      exact this
    · repeat (first|(refine jl ?_;first|refine j1 ?_|refine j4 ?_)|(refine jc ?_;first|refine c7 ?_)|refine n11 ?_)
      refine gives (St.le_refl _) (fin_two ?_ (Fin.refl _ _ _))
      refine .wk ?_
      show Wk (.sl (some false) false 1 ([AV.v (.int .u8 (IntKind.u8.wrap (s.size : Int)))] :: bys s.data.toList)) _
      rw [hb]
      exact Wk.sl _ _ _ _
end Go.Proofs.YtddljegbggncdaaDoor.Ab

/- Values' bytes, by the document. -/
set_option linter.unusedVariables false
set_option linter.unusedSimpArgs false
set_option maxRecDepth 20000
namespace Go.Proofs.YtddljegbggncdaaDoor.Ab
open Go
section
variable {P : Program} {l : List Oper} {c : List (List Nat)} {m : Nat} {σ0 σ1 : St} {K : Fr → Prop} {i : Nat} {fr : Fr} {rest : List Oper} {t : Tmp} {ty : TypeId} {pos : String} {aft : Array Edge}
theorem dcf {lt et : TypeId} {x : Operand} {lo hi : Option Operand} {nl : Option Bool} {full : Bool} {sz : Nat} {els all : List (List AV)} {b h : Int} (hall : (els.take h.toNat).drop b.toNat = all) (h0 : 0 ≤ b) (h1 : b ≤ h) (h2 : h ≤ els.length) (hh : DJ P l c m σ0 σ1 K (i + 1) rest ((t, .sl nl false sz all) :: fr)) (him : Nat.beq i m = false := by exact rfl) (ht : P.underlying lt = some (.slice et) := by exact rfl) (hs : sizeIs P et = some sz := by exact rfl) (hx : ev fr x = some (.sl nl full sz els) := by exact rfl) (hlo : bound (ev fr) 0 lo = some b := by exact rfl) (hhi : bound (ev fr) els.length hi = some h := by exact rfl) : DJ P l c m σ0 σ1 K i (⟨some t, .slice lt x lo hi none, ty, pos, aft, none⟩ :: rest) fr := by
  subst hall
  exact dj_v him (fun R hR => opj_cut_sl rfl ht hs hx hlo hhi h0 h1 h2 hR) (fun R hR => opj_cut_sl rfl ht hs hx hlo hhi h0 h1 h2 hR) hh
end
section
variable {P : Program} {l : List Oper} {c : List (List Nat)} {n0 : Nat} {kp : Bool} {bs : List Nat} {σ : St} {K : Fr → St → Prop} {i : Nat} {fr : Fr} {rest : List Oper} {t : Tmp} {ty : TypeId} {pos : String} {aft : Array Edge}
theorem acf {lt et : TypeId} {x : Operand} {lo hi : Option Operand} {nl : Option Bool} {full : Bool} {sz : Nat} {els all : List (List AV)} {b h : Int} (hall : (els.take h.toNat).drop b.toNat = all) (h0 : 0 ≤ b) (h1 : b ≤ h) (h2 : h ≤ els.length) (hh : DA P l c n0 kp bs σ K (i + 1) rest ((t, .sl nl false sz all) :: fr)) (hbs : inN i bs = false := by exact rfl) (ht : P.underlying lt = some (.slice et) := by exact rfl) (hs : sizeIs P et = some sz := by exact rfl) (hx : ev fr x = some (.sl nl full sz els) := by exact rfl) (hlo : bound (ev fr) 0 lo = some b := by exact rfl) (hhi : bound (ev fr) els.length hi = some h := by exact rfl) : DA P l c n0 kp bs σ K i (⟨some t, .slice lt x lo hi none, ty, pos, aft, none⟩ :: rest) fr := by
  subst hall
  exact da_v hbs (fun _ R hR => opj_cut_sl rfl ht hs hx hlo hhi h0 h1 h2 hR) hh
theorem acb {s d et : TypeId} {x : Operand} {v : AV} {lb : List UInt8} (h : DA P l c n0 kp bs σ K (i + 1) rest ((t, .v (.string ⟨lb.toArray⟩)) :: fr)) (hbs : inN i bs = false := by exact rfl) (hs : P.underlying s = some (.slice et) := by exact rfl) (he : P.underlying et = some (.int .u8) := by exact rfl) (hdd : P.underlying d = some .string := by exact rfl) (hx : ev fr x = some v := by exact rfl) (hsr : ∀ σ', srcOf σ' v = some (1, bys lb) := by exact fun _ => rfl) : DA P l c n0 kp bs σ K i (⟨some t, .convert s d x, ty, pos, aft, none⟩ :: rest) fr := da_v hbs (fun σ' R hR => opj_conv_bytes rfl hs he hdd hx (hsr σ') hR) h
end
attribute [local irreducible] thn inb endR CJ LJ OpJ DJ DA DB AllocK

abbrev rv2 (l : List UInt8) (e : Int) : AV := .agg [.sl none false 1 (bys l), .v (.int .i64 e)]
theorem cut_from (l : List UInt8) (k : Nat) : ((bys l).take (((bys l).length : Nat) : Int).toNat).drop ((k : Nat) : Int).toNat = bys (l.drop k) := by
  rw [Int.toNat_natCast, Int.toNat_natCast, List.take_length, bys_drop]
theorem cut_mid (l : List UInt8) (j k : Nat) : ((bys l).take ((k : Nat) : Int).toNat).drop ((j : Nat) : Int).toNat = bys ((l.take k).drop j) := by
  rw [Int.toNat_natCast, Int.toNat_natCast, bys_take, bys_drop]
theorem p_rv2signed (l : List UInt8) (e : Int) : Pure Tryd.prog 112 [rv2 l e] (.tup [rv2 (rsigned l e).2.1 (rsigned l e).2.2, .v (.int .i64 (rsigned l e).1)]) := by
  refine enterW Tryd.func112 rfl rfl rfl rfl (fun σ => ?_)
  have hl : (bys l).length = l.length := length_bys _
  repeat' (first|(first|(refine jl ?_;first|refine jb ?_|refine j1 ?_|refine j4 ?_|refine j12 (fun id hid=>?_)|refine j13 (fun id hid=>?_)|refine j14 ?_|refine j17t ?_|refine jp (p_rsigned _ _ _) ?_)|(refine jc ?_;first|refine c1 ?_|refine c2 ?_|refine c6 ?_|refine c7 ?_)|refine n1 ?_|refine n2 ?_|refine n15 ?_)|(refine c9 (fun h=>?_) (fun h=>?_)<;>(try simp only [Bool.or_eq_true, Bool.and_eq_true, Bool.or_eq_false_iff, Bool.and_eq_false_iff, Bool.not_eq_true', Bool.not_eq_false', decide_eq_true_eq, decide_eq_false_iff_not, Bool.false_eq_true, Bool.true_eq_false, reduceCtorEq] at h)))
  · rw [rsigned, if_pos h]
    first | exact ge rfl | exact gvs (by (repeat' (first | exact finl_nil | apply finl_cons | exact Fin.refl _ _ _ | apply fin_pk2 | apply fin_pk3 | apply fin_agg | apply fin_tup | exact fin_nil | exact fin_sl rfl | exact fin_fz (by exact lkp) (by first | assumption | exact St.ns1 (by assumption) | exact St.ns2 (by assumption) | exact St.ns3 (by assumption) | exact St.ns4 (by assumption) | exact St.ns5 (by assumption) | exact St.ns6 (by assumption) | exact St.ns7 (by assumption) | exact St.ns8 (by assumption) | exact St.ns9 (by assumption) | exact St.ns10 (by assumption) | exact St.ns11 (by assumption) | exact St.ns12 (by assumption) | exact St.ns13 (by assumption) | exact St.ns14 (by assumption) | exact St.ns10 (by assumption) | exact St.ns11 (by assumption) | exact St.ns12 (by assumption) | exact St.ns13 (by assumption) | exact St.ns14 (by assumption)) (by first | exact rfl | assumption | (simp only [List.length_map, List.length_append, List.length_cons, List.length_nil]; done) | (simp only [List.length_map, List.length_append, List.length_cons, List.length_nil]; omega)) rfl (fun _ => rfl) | exact fin_eq rfl)))
  · rename_i h0
    rw [rsigned, if_neg (by omega), if_pos h]
    first | exact ge rfl | exact gvs (by (repeat' (first | exact finl_nil | apply finl_cons | exact Fin.refl _ _ _ | apply fin_pk2 | apply fin_pk3 | apply fin_agg | apply fin_tup | exact fin_nil | exact fin_sl rfl | exact fin_fz (by exact lkp) (by first | assumption | exact St.ns1 (by assumption) | exact St.ns2 (by assumption) | exact St.ns3 (by assumption) | exact St.ns4 (by assumption) | exact St.ns5 (by assumption) | exact St.ns6 (by assumption) | exact St.ns7 (by assumption) | exact St.ns8 (by assumption) | exact St.ns9 (by assumption) | exact St.ns10 (by assumption) | exact St.ns11 (by assumption) | exact St.ns12 (by assumption) | exact St.ns13 (by assumption) | exact St.ns14 (by assumption) | exact St.ns10 (by assumption) | exact St.ns11 (by assumption) | exact St.ns12 (by assumption) | exact St.ns13 (by assumption) | exact St.ns14 (by assumption)) (by first | exact rfl | assumption | (simp only [List.length_map, List.length_append, List.length_cons, List.length_nil]; done) | (simp only [List.length_map, List.length_append, List.length_cons, List.length_nil]; omega)) rfl (fun _ => rfl) | exact fin_eq rfl)))
  · rename_i h0
    rw [rsigned, if_neg (by omega), if_neg (by omega)]
    have h6 : 6 ≤ l.length := by
      rcases Nat.lt_or_ge l.length 6 with h6 | h6
      · rw [signedN, if_pos (by omega)] at h; cases h
      · exact h6
    repeat (first|(refine jl ?_;first|refine jb ?_|refine j1 ?_|refine j4 ?_|refine j17t ?_|refine jcf (l := ((6 : Nat) : Int)) (h := (((bys l).length : Nat) : Int)) (all := bys (l.drop 6)) ?_ (cut_from l 6))|(refine jc ?_;first|refine c7 ?_)|refine n15 ?_)
    first | exact ge rfl | exact gvs (by (repeat' (first | exact finl_nil | apply finl_cons | exact Fin.refl _ _ _ | apply fin_pk2 | apply fin_pk3 | apply fin_agg | apply fin_tup | exact fin_nil | exact fin_sl rfl | exact fin_fz (by exact lkp) (by first | assumption | exact St.ns1 (by assumption) | exact St.ns2 (by assumption) | exact St.ns3 (by assumption) | exact St.ns4 (by assumption) | exact St.ns5 (by assumption) | exact St.ns6 (by assumption) | exact St.ns7 (by assumption) | exact St.ns8 (by assumption) | exact St.ns9 (by assumption) | exact St.ns10 (by assumption) | exact St.ns11 (by assumption) | exact St.ns12 (by assumption) | exact St.ns13 (by assumption) | exact St.ns14 (by assumption) | exact St.ns10 (by assumption) | exact St.ns11 (by assumption) | exact St.ns12 (by assumption) | exact St.ns13 (by assumption) | exact St.ns14 (by assumption)) (by first | exact rfl | assumption | (simp only [List.length_map, List.length_append, List.length_cons, List.length_nil]; done) | (simp only [List.length_map, List.length_append, List.length_cons, List.length_nil]; omega)) rfl (fun _ => rfl) | exact fin_eq rfl)))
theorem p_rv2text (l : List UInt8) (e : Int) (hl : l.length < 9223372036854775807) : Pure Tryd.prog 113 [rv2 l e] (.tup [rv2 (rtext l e).2.1 (rtext l e).2.2, .v (.string (rtext l e).1)]) := by
  refine enterW Tryd.func113 rfl rfl rfl rfl (fun σ => ?_)
  have hlb : (bys l).length = l.length := length_bys _
  by_cases he : e = 0
  · subst he
    rw [rtext, if_neg (by decide)]
    rcases l with _ | ⟨b, r⟩
    · repeat' (first|(first|(refine jl ?_;first|refine jb ?_|refine j1 ?_|refine j4 ?_|refine j12 (fun id hid=>?_)|refine j13 (fun id hid=>?_)|refine j14 ?_|refine j17t ?_)|(refine dl ?_;first|refine d7 ?_|refine d1 ?_|refine d4 ?_|refine d9 ?_|refine d14 ?_|refine d16 ?_|refine dff ?_)|(refine jc ?_;first|refine c1 ?_|refine c2 ?_|refine c5 ?_|refine c6 ?_|refine c7 ?_|refine cq ?_)|refine n1 ?_|refine n2 ?_|refine n6 ?_|refine n10 ?_|refine n15 ?_)|(refine c9 (fun h=>?_) (fun h=>?_)<;>(try simp only [Bool.or_eq_true, Bool.and_eq_true, Bool.or_eq_false_iff, Bool.and_eq_false_iff, Bool.not_eq_true', Bool.not_eq_false', decide_eq_true_eq, decide_eq_false_iff_not, Bool.false_eq_true, Bool.true_eq_false, reduceCtorEq] at h)))
      · exact absurd trivial h
      · first | exact ge rfl | exact gvs (by (repeat' (first | exact finl_nil | apply finl_cons | exact Fin.refl _ _ _ | apply fin_pk2 | apply fin_pk3 | apply fin_agg | apply fin_tup | exact fin_nil | exact fin_sl rfl | exact fin_fz (by exact lkp) (by first | assumption | exact St.ns1 (by assumption) | exact St.ns2 (by assumption) | exact St.ns3 (by assumption) | exact St.ns4 (by assumption) | exact St.ns5 (by assumption) | exact St.ns6 (by assumption) | exact St.ns7 (by assumption) | exact St.ns8 (by assumption) | exact St.ns9 (by assumption) | exact St.ns10 (by assumption) | exact St.ns11 (by assumption) | exact St.ns12 (by assumption) | exact St.ns13 (by assumption) | exact St.ns14 (by assumption) | exact St.ns10 (by assumption) | exact St.ns11 (by assumption) | exact St.ns12 (by assumption) | exact St.ns13 (by assumption) | exact St.ns14 (by assumption)) (by first | exact rfl | assumption | (simp only [List.length_map, List.length_append, List.length_cons, List.length_nil]; done) | (simp only [List.length_map, List.length_append, List.length_cons, List.length_nil]; omega)) rfl (fun _ => rfl) | exact fin_eq rfl)))
      · exact absurd rfl h.1
    · have hb := b.toNat_lt
      simp only [List.length_cons] at hl hlb
      have h4 : (bys (b :: r))[(0 : Int).toNat]? = some [.v (.int .u8 b.toNat)] := rfl
      have hw : IntKind.i64.wrap (1 + (b.toNat : Int)) = ((b.toNat + 1 : Nat) : Int) := by rw [w64 (by omega) (by omega)]; omega
      by_cases hlt : r.length < b.toNat
      · rw [rtextOk, if_pos hlt]
        repeat' (first|(first|(refine jl ?_;first|refine jb ?_|refine j1 ?_|refine j4 ?_|refine j12 (fun id hid=>?_)|refine j13 (fun id hid=>?_)|refine j14 ?_|refine j17t ?_)|(refine dl ?_;first|refine d7 ?_|refine d1 ?_|refine d4 ?_|refine d9 ?_|refine d14 ?_|refine d16 ?_|refine di3 ?_)|(refine jc ?_;first|refine c1 ?_|refine c2 ?_|refine c5 ?_|refine c7 ?_|refine cq ?_)|refine n1 ?_|refine n2 ?_|refine n6 ?_|refine n15 ?_)|(refine c9 (fun h=>?_) (fun h=>?_)<;>((try simp only [Bool.or_eq_true, Bool.and_eq_true, Bool.or_eq_false_iff, Bool.and_eq_false_iff, Bool.not_eq_true', Bool.not_eq_false', decide_eq_true_eq, decide_eq_false_iff_not, Bool.false_eq_true, Bool.true_eq_false, reduceCtorEq] at h) <;> (try simp (disch := omega) only [sb_bt, w64, Int.reduceAdd, Int.reduceToNat, Int.toNat_natCast, not_true_eq_false, false_or] at h) <;> (try (exfalso; omega)))))
        first | exact ge rfl | exact gvs (by (repeat' (first | exact finl_nil | apply finl_cons | exact Fin.refl _ _ _ | apply fin_pk2 | apply fin_pk3 | apply fin_agg | apply fin_tup | exact fin_nil | exact fin_sl rfl | exact fin_fz (by exact lkp) (by first | assumption | exact St.ns1 (by assumption) | exact St.ns2 (by assumption) | exact St.ns3 (by assumption) | exact St.ns4 (by assumption) | exact St.ns5 (by assumption) | exact St.ns6 (by assumption) | exact St.ns7 (by assumption) | exact St.ns8 (by assumption) | exact St.ns9 (by assumption) | exact St.ns10 (by assumption) | exact St.ns11 (by assumption) | exact St.ns12 (by assumption) | exact St.ns13 (by assumption) | exact St.ns14 (by assumption) | exact St.ns10 (by assumption) | exact St.ns11 (by assumption) | exact St.ns12 (by assumption) | exact St.ns13 (by assumption) | exact St.ns14 (by assumption)) (by first | exact rfl | assumption | (simp only [List.length_map, List.length_append, List.length_cons, List.length_nil]; done) | (simp only [List.length_map, List.length_append, List.length_cons, List.length_nil]; omega)) rfl (fun _ => rfl) | exact fin_eq rfl)))
      · rw [rtextOk, if_neg hlt]
        repeat' (first|(first|(refine jl ?_;first|refine j1 ?_|refine j4 ?_|refine j12 (fun id hid=>?_)|refine j13 (fun id hid=>?_)|refine j14 ?_)|(refine jc ?_;first|refine c1 ?_|refine c2 ?_|refine c5 ?_))|(refine c9 (fun h=>?_) (fun h=>?_)<;>((try simp only [Bool.or_eq_true, Bool.and_eq_true, Bool.or_eq_false_iff, Bool.and_eq_false_iff, Bool.not_eq_true', Bool.not_eq_false', decide_eq_true_eq, decide_eq_false_iff_not, Bool.false_eq_true, Bool.true_eq_false, reduceCtorEq] at h) <;> (try simp (disch := omega) only [sb_bt, w64, Int.reduceAdd, Int.reduceToNat, Int.toNat_natCast, not_true_eq_false, false_or] at h) <;> (try (exfalso; omega)))))
        refine cq ?_
        repeat' (first|(first|(refine jl ?_;first|refine jbl ?_|refine j1 ?_|refine j4 ?_|refine j14 ?_|refine ji1 ?_)|(refine dl ?_;first|refine d7 ?_|refine d1 ?_|refine d4 ?_|refine d9 ?_|refine d14 ?_|refine d16 ?_|refine di3 ?_)|(refine jc ?_;first|refine c1 ?_|refine c2 ?_|refine c6 ?_)|refine n1 ?_|refine n10 ?_)|(refine c9 (fun h=>?_) (fun h=>?_)<;>((try simp only [Bool.or_eq_true, Bool.and_eq_true, Bool.or_eq_false_iff, Bool.and_eq_false_iff, Bool.not_eq_true', Bool.not_eq_false', decide_eq_true_eq, decide_eq_false_iff_not, Bool.false_eq_true, Bool.true_eq_false, reduceCtorEq] at h) <;> (try simp (disch := omega) only [sb_bt, w64, Int.reduceAdd, Int.reduceToNat, Int.toNat_natCast, not_true_eq_false, false_or] at h) <;> (try (exfalso; omega)))))
        rw [wrap8in]
        have hc1 : ((bys (b :: r)).take (((bys (b :: r)).length : Nat) : Int).toNat).drop (IntKind.i64.wrap (1 + (b.toNat : Int))).toNat = bys (r.drop b.toNat) := by rw [hw]; exact cut_from (b :: r) (b.toNat + 1)
        have hc2 : ((bys (b :: r)).take (IntKind.i64.wrap (1 + (b.toNat : Int))).toNat).drop ((1 : Nat) : Int).toNat = bys (r.take b.toNat) := by rw [hw]; exact cut_mid (b :: r) 1 (b.toNat + 1)
        first | refine cj_id 2 (fun id2 e => ?_) | refine lj_id 2 (fun id2 e => ?_)
        subst e
        refine cqs 12 id2 (.row 2 158 [[.sl none false 1 (bys (r.drop b.toNat)), .v (.int .i64 0)]]) ?_
        repeat (first|(refine dl ?_;first|refine dbd ?_|refine d1 ?_|refine d4 ?_|refine d14 ?_|refine d17 ?_|refine dcb ?_|refine dcf (b := IntKind.i64.wrap (1 + (b.toNat : Int))) (h := (((bys (b :: r)).length : Nat) : Int)) (all := bys (r.drop b.toNat)) hc1 (by rw [hw]; omega) (by rw [hw]; omega) (by omega) ?_|refine dcf (b := ((1 : Nat) : Int)) (h := IntKind.i64.wrap (1 + (b.toNat : Int))) (all := bys (r.take b.toNat)) hc2 (by omega) (by rw [hw]; omega) (by rw [hw]; omega) ?_)|(refine jc ?_;first|refine c7 ?_)|refine n1 ?_|refine n15 ?_)
        first | exact ge rfl | exact gvs (by (repeat' (first | exact finl_nil | apply finl_cons | exact Fin.refl _ _ _ | apply fin_pk2 | apply fin_pk3 | apply fin_agg | apply fin_tup | exact fin_nil | exact fin_sl rfl | exact fin_fz (by exact lkp) (by first | assumption | exact St.ns1 (by assumption) | exact St.ns2 (by assumption) | exact St.ns3 (by assumption) | exact St.ns4 (by assumption) | exact St.ns5 (by assumption) | exact St.ns6 (by assumption) | exact St.ns7 (by assumption) | exact St.ns8 (by assumption) | exact St.ns9 (by assumption) | exact St.ns10 (by assumption) | exact St.ns11 (by assumption) | exact St.ns12 (by assumption) | exact St.ns13 (by assumption) | exact St.ns14 (by assumption) | exact St.ns10 (by assumption) | exact St.ns11 (by assumption) | exact St.ns12 (by assumption) | exact St.ns13 (by assumption) | exact St.ns14 (by assumption)) (by first | exact rfl | assumption | (simp only [List.length_map, List.length_append, List.length_cons, List.length_nil]; done) | (simp only [List.length_map, List.length_append, List.length_cons, List.length_nil]; omega)) rfl (fun _ => rfl) | exact fin_eq rfl)))
  · rw [rtext, if_pos he]
    repeat' (first|(first|(refine jl ?_;first|refine j1 ?_|refine j4 ?_|refine j12 (fun id hid=>?_)|refine j13 (fun id hid=>?_)|refine j14 ?_|refine j17t ?_)|(refine dl ?_;first|refine d1 ?_|refine d9 ?_|refine d14 ?_|refine d16 ?_)|(refine jc ?_;first|refine c1 ?_|refine c2 ?_|refine c5 ?_|refine c7 ?_|refine cq ?_)|refine n2 ?_|refine n6 ?_|refine n15 ?_)|(refine c9 (fun h=>?_) (fun h=>?_)<;>(try simp only [Bool.or_eq_true, Bool.and_eq_true, Bool.or_eq_false_iff, Bool.and_eq_false_iff, Bool.not_eq_true', Bool.not_eq_false', decide_eq_true_eq, decide_eq_false_iff_not, Bool.false_eq_true, Bool.true_eq_false, reduceCtorEq] at h)))
    · first | exact ge rfl | exact gvs (by (repeat' (first | exact finl_nil | apply finl_cons | exact Fin.refl _ _ _ | apply fin_pk2 | apply fin_pk3 | apply fin_agg | apply fin_tup | exact fin_nil | exact fin_sl rfl | exact fin_fz (by exact lkp) (by first | assumption | exact St.ns1 (by assumption) | exact St.ns2 (by assumption) | exact St.ns3 (by assumption) | exact St.ns4 (by assumption) | exact St.ns5 (by assumption) | exact St.ns6 (by assumption) | exact St.ns7 (by assumption) | exact St.ns8 (by assumption) | exact St.ns9 (by assumption) | exact St.ns10 (by assumption) | exact St.ns11 (by assumption) | exact St.ns12 (by assumption) | exact St.ns13 (by assumption) | exact St.ns14 (by assumption) | exact St.ns10 (by assumption) | exact St.ns11 (by assumption) | exact St.ns12 (by assumption) | exact St.ns13 (by assumption) | exact St.ns14 (by assumption)) (by first | exact rfl | assumption | (simp only [List.length_map, List.length_append, List.length_cons, List.length_nil]; done) | (simp only [List.length_map, List.length_append, List.length_cons, List.length_nil]; omega)) rfl (fun _ => rfl) | exact fin_eq rfl)))
    · exact absurd h he
theorem p_rputv (k n : Int) (s : ByteArray) (hk : 0 ≤ k) (hz : s.size ≤ 9223372036854775807) : Pure Tryd.prog 81 [vv k n s] (.tup [.sl none false 1 (bys (putV k n s)), .v (.int .i64 (checkE k n s))]) := by
  refine enterW Tryd.func81 rfl rfl rfl rfl (fun σ => ?_)
  have k1 := p_rcheck k n s hz
  have hl1 : (signB n).length ≤ 6 := by unfold signB; split <;> simp [length_be]
  have hl2 : (textB s).length ≤ 256 := by
    unfold textB; split
    · simp
    · rw [List.length_cons, bl_len]; omega
  by_cases hc : checkE k n s = 0
  · have k2 := p_rsign n (by have := checkE_ok hc; omega)
    rw [hc] at k1
    repeat' (first|(first|(refine jl ?_;first|refine j1 ?_|refine j4 ?_|refine j6 ?_|refine j12 (fun id hid=>?_)|refine j14 ?_|refine jp (k1) ?_|refine jp (k2) ?_|refine jp (p_rtext _) ?_|refine jlit ?_|refine jap ?_)|(refine jc ?_;first|refine c1 ?_|refine c2 ?_|refine c5 ?_|refine c6 ?_|refine c7 ?_)|refine n1 ?_|refine n2 ?_|refine n10 ?_|refine n11 ?_)|(refine c9 (fun h=>?_) (fun h=>?_)<;>(try simp only [Bool.or_eq_true, Bool.and_eq_true, Bool.or_eq_false_iff, Bool.and_eq_false_iff, Bool.not_eq_true', Bool.not_eq_false', decide_eq_true_eq, decide_eq_false_iff_not, Bool.false_eq_true, Bool.true_eq_false, reduceCtorEq] at h)))
    · exact absurd trivial h
    all_goals rw [putV, if_neg (by rw [hc]; simp), hc]
    · rw [if_pos h]; subst h
      exact gvs (fin_two (fin_sl rfl) (Fin.refl _ _ _))
    · rename_i h1
      rw [if_neg h1, if_pos h]; subst h
      exact gvs (fin_two (fin_sl rfl) (Fin.refl _ _ _))
    · rename_i h1
      rw [if_neg h1, if_neg h]
      have h0 : k = 0 := by have := checkE_kind hc; omega
      subst h0
      exact gvs (fin_two (fin_sl rfl) (Fin.refl _ _ _))
  · rw [putV, if_pos hc]
    repeat' (first|(first|(refine jl ?_;first|refine j1 ?_|refine j4 ?_|refine j12 (fun id hid=>?_)|refine j14 ?_|refine jp (k1) ?_|refine jlit ?_)|(refine jc ?_;first|refine c1 ?_|refine c2 ?_|refine c5 ?_|refine c6 ?_|refine c7 ?_)|refine n1 ?_|refine n2 ?_|refine n10 ?_|refine n11 ?_)|(refine c9 (fun h=>?_) (fun h=>?_)<;>(try simp only [Bool.or_eq_true, Bool.and_eq_true, Bool.or_eq_false_iff, Bool.and_eq_false_iff, Bool.not_eq_true', Bool.not_eq_false', decide_eq_true_eq, decide_eq_false_iff_not, Bool.false_eq_true, Bool.true_eq_false, reduceCtorEq] at h)))
    · exact gvs (fin_two fin_nil (Fin.refl _ _ _))
    all_goals exact absurd ‹checkE k n s = 0› hc
theorem p_rgetv (nl : Option Bool) (full : Bool) (l : List UInt8) (hl : l.length < 9223372036854775807) : Pure Tryd.prog 83 [.sl nl full 1 (bys l)] (.tup [vv (getV l).1 (getV l).2.1 (getV l).2.2.1, .v (.int .i64 (getV l).2.2.2.1), .v (.int .i64 (getV l).2.2.2.2)]) := by
  refine enterW Tryd.func83 rfl rfl rfl rfl (fun σ => ?_)
  have hlb : (bys l).length = l.length := length_bys _
  rcases l with _ | ⟨b, r⟩
  · repeat' (first|(first|(refine jl ?_;first|refine jb ?_|refine j1 ?_|refine j4 ?_|refine j13 (fun id hid=>?_)|refine j17t ?_)|(refine jc ?_;first|refine c1 ?_|refine c2 ?_|refine c6 ?_|refine c7 ?_)|refine n1 ?_|refine n2 ?_|refine n16 ?_)|(refine c9 (fun h=>?_) (fun h=>?_)<;>((try simp only [Bool.or_eq_true, Bool.and_eq_true, Bool.or_eq_false_iff, Bool.and_eq_false_iff, Bool.not_eq_true', Bool.not_eq_false', decide_eq_true_eq, decide_eq_false_iff_not, Bool.false_eq_true, Bool.true_eq_false, reduceCtorEq] at h) <;> (try simp (disch := omega) only [sb_bt, w64, Int.reduceAdd, Int.reduceToNat, Int.toNat_natCast, not_true_eq_false, false_or] at h) <;> (try (exfalso; omega)))))
    · rw [getV, rnum0]
      first | exact ge rfl | exact gvs (by (repeat' (first | exact finl_nil | apply finl_cons | exact Fin.refl _ _ _ | apply fin_pk2 | apply fin_pk3 | apply fin_agg | apply fin_tup | exact fin_nil | exact fin_sl rfl | exact fin_fz (by exact lkp) (by first | assumption | exact St.ns1 (by assumption) | exact St.ns2 (by assumption) | exact St.ns3 (by assumption) | exact St.ns4 (by assumption) | exact St.ns5 (by assumption) | exact St.ns6 (by assumption) | exact St.ns7 (by assumption) | exact St.ns8 (by assumption) | exact St.ns9 (by assumption) | exact St.ns10 (by assumption) | exact St.ns11 (by assumption) | exact St.ns12 (by assumption) | exact St.ns13 (by assumption) | exact St.ns14 (by assumption) | exact St.ns10 (by assumption) | exact St.ns11 (by assumption) | exact St.ns12 (by assumption) | exact St.ns13 (by assumption) | exact St.ns14 (by assumption)) (by first | exact rfl | assumption | (simp only [List.length_map, List.length_append, List.length_cons, List.length_nil]; done) | (simp only [List.length_map, List.length_append, List.length_cons, List.length_nil]; omega)) rfl (fun _ => rfl) | exact fin_eq rfl)))
    · exact absurd rfl h
  · have hb := b.toNat_lt
    simp only [List.length_cons] at hl hlb
    have h4 : (bys (b :: r))[(0 : Int).toNat]? = some [.v (.int .u8 b.toNat)] := rfl
    have hlr : (bys r).length = r.length := length_bys _
    have hz1 : (rtext r 0).1.size ≤ 9223372036854775807 := by
      rw [rtext, if_neg (by decide)]
      rcases r with _ | ⟨x, q⟩
      · exact Nat.zero_le _
      · rw [rtextOk]
        split
        · exact Nat.zero_le _
        · show ((q.take x.toNat).toArray).size ≤ _
          rw [List.size_toArray, List.length_take]
          rw [List.length_cons] at hl
          omega
    have k1 : Pure Tryd.prog 112 [.agg [.sl nl false 1 (bys r), .v (.int .i64 0)]] (.tup [rv2 (rsigned r 0).2.1 (rsigned r 0).2.2, .v (.int .i64 (rsigned r 0).1)]) := (p_rv2signed r 0).wka ⟨Wk.agg ⟨Wk.sl _ _ _ _, Wk.refl _, trivial⟩, trivial⟩
    have k2 : Pure Tryd.prog 113 [.agg [.sl nl false 1 (bys r), .v (.int .i64 0)]] (.tup [rv2 (rtext r 0).2.1 (rtext r 0).2.2, .v (.string (rtext r 0).1)]) := (p_rv2text r 0 (by omega)).wka ⟨Wk.agg ⟨Wk.sl _ _ _ _, Wk.refl _, trivial⟩, trivial⟩
    have k3 := p_rcheck b.toNat (rsigned r 0).1 ⟨#[]⟩ (Nat.zero_le _)
    have k4 := p_rcheck b.toNat 0 (rtext r 0).1 (by omega)
    have k5 := p_rcheck b.toNat 0 ⟨#[]⟩ (Nat.zero_le _)
    rw [getV, rnum1]
    have hw : IntKind.u8.wrap (b.toNat : Int) = b.toNat := wu8 (by omega) (by omega)
    dsimp only
    rw [hw]
    have hrn := rsigned_le r 0
    have htn := rtext_le r 0
    by_cases hb1 : (b.toNat : Int) = 1
    · have eB : getB (b.toNat : Int) r 0 = ((rsigned r 0).1, ⟨#[]⟩, (rsigned r 0).2.1, (rsigned r 0).2.2) := by rw [getB, if_pos hb1]
      rw [eB, getF]
      dsimp only
      repeat' (first|(first|(refine jl ?_;first|refine j7 ?_|refine jb ?_|refine jbl ?_|refine j1 ?_|refine j4 ?_|refine j6 ?_|refine j9 ?_|refine j13 (fun id hid=>?_)|refine j14 ?_|refine j17t ?_|refine j17 ?_|refine j16 ?_|refine ji1 ?_|refine jp (k1) ?_|refine jcq (hp:=fun hc=>k3) ?_|refine jcf (l := ((1 : Nat) : Int)) (h := (((bys (b :: r)).length : Nat) : Int)) (all := bys r) ?_ (cut_from (b :: r) 1))|(refine jc ?_;first|refine c1 ?_|refine c2 ?_|refine c5 ?_|refine c6 ?_|refine c7 ?_)|refine n1 ?_|refine n2 ?_|refine n6 ?_|refine n10 ?_|refine n16 ?_)|(refine c9 (fun h=>?_) (fun h=>?_)<;>((try simp only [Bool.or_eq_true, Bool.and_eq_true, Bool.or_eq_false_iff, Bool.and_eq_false_iff, Bool.not_eq_true', Bool.not_eq_false', decide_eq_true_eq, decide_eq_false_iff_not, Bool.false_eq_true, Bool.true_eq_false, reduceCtorEq] at h) <;> (try simp (disch := omega) only [sb_bt, w64, Int.reduceAdd, Int.reduceToNat, Int.toNat_natCast, not_true_eq_false, false_or] at h) <;> (try (exfalso; omega)))))
      · rw [if_pos h]
        first | exact ge rfl | exact gvs (by (repeat' (first | exact finl_nil | apply finl_cons | exact Fin.refl _ _ _ | apply fin_pk2 | apply fin_pk3 | apply fin_agg | apply fin_tup | exact fin_nil | exact fin_sl rfl | exact fin_fz (by exact lkp) (by first | assumption | exact St.ns1 (by assumption) | exact St.ns2 (by assumption) | exact St.ns3 (by assumption) | exact St.ns4 (by assumption) | exact St.ns5 (by assumption) | exact St.ns6 (by assumption) | exact St.ns7 (by assumption) | exact St.ns8 (by assumption) | exact St.ns9 (by assumption) | exact St.ns10 (by assumption) | exact St.ns11 (by assumption) | exact St.ns12 (by assumption) | exact St.ns13 (by assumption) | exact St.ns14 (by assumption) | exact St.ns10 (by assumption) | exact St.ns11 (by assumption) | exact St.ns12 (by assumption) | exact St.ns13 (by assumption) | exact St.ns14 (by assumption)) (by first | exact rfl | assumption | (simp only [List.length_map, List.length_append, List.length_cons, List.length_nil]; done) | (simp only [List.length_map, List.length_append, List.length_cons, List.length_nil]; omega)) rfl (fun _ => rfl) | exact fin_eq rfl)))
      · rw [if_neg ‹_›, if_pos (by first | exact h | (rcases h with h | h <;> simp [h]))]
        first | exact ge rfl | exact gvs (by (repeat' (first | exact finl_nil | apply finl_cons | exact Fin.refl _ _ _ | apply fin_pk2 | apply fin_pk3 | apply fin_agg | apply fin_tup | exact fin_nil | exact fin_sl rfl | exact fin_fz (by exact lkp) (by first | assumption | exact St.ns1 (by assumption) | exact St.ns2 (by assumption) | exact St.ns3 (by assumption) | exact St.ns4 (by assumption) | exact St.ns5 (by assumption) | exact St.ns6 (by assumption) | exact St.ns7 (by assumption) | exact St.ns8 (by assumption) | exact St.ns9 (by assumption) | exact St.ns10 (by assumption) | exact St.ns11 (by assumption) | exact St.ns12 (by assumption) | exact St.ns13 (by assumption) | exact St.ns14 (by assumption) | exact St.ns10 (by assumption) | exact St.ns11 (by assumption) | exact St.ns12 (by assumption) | exact St.ns13 (by assumption) | exact St.ns14 (by assumption)) (by first | exact rfl | assumption | (simp only [List.length_map, List.length_append, List.length_cons, List.length_nil]; done) | (simp only [List.length_map, List.length_append, List.length_cons, List.length_nil]; omega)) rfl (fun _ => rfl) | exact fin_eq rfl)))
      · rw [if_neg ‹_›, if_neg (by rintro (h' | h') <;> simp [h.1, h.2] at h')]
        first | refine cj_id 2 (fun id2 e => ?_) | refine lj_id 2 (fun id2 e => ?_)
        subst e
        refine cqs 7 id2 (.row 3 37 [[.v (.int .u8 b.toNat), .v (.int .i64 (rsigned r 0).1), .v (.string ⟨#[]⟩)]]) ?_
        repeat (first|(refine dl ?_;first|refine d1 ?_|refine d4 ?_|refine d14 ?_|refine d17 ?_)|(refine jc ?_;first|refine c7 ?_)|refine n1 ?_|refine n16 ?_)
        simp only [length_bys]
        have hlc : (b :: r).length = r.length + 1 := rfl
        rw [w64 (by omega) (by omega)]
        first | exact ge rfl | exact gvs (by (repeat' (first | exact finl_nil | apply finl_cons | exact Fin.refl _ _ _ | apply fin_pk2 | apply fin_pk3 | apply fin_agg | apply fin_tup | exact fin_nil | exact fin_sl rfl | exact fin_fz (by exact lkp) (by first | assumption | exact St.ns1 (by assumption) | exact St.ns2 (by assumption) | exact St.ns3 (by assumption) | exact St.ns4 (by assumption) | exact St.ns5 (by assumption) | exact St.ns6 (by assumption) | exact St.ns7 (by assumption) | exact St.ns8 (by assumption) | exact St.ns9 (by assumption) | exact St.ns10 (by assumption) | exact St.ns11 (by assumption) | exact St.ns12 (by assumption) | exact St.ns13 (by assumption) | exact St.ns14 (by assumption) | exact St.ns10 (by assumption) | exact St.ns11 (by assumption) | exact St.ns12 (by assumption) | exact St.ns13 (by assumption) | exact St.ns14 (by assumption)) (by first | exact rfl | assumption | (simp only [List.length_map, List.length_append, List.length_cons, List.length_nil]; done) | (simp only [List.length_map, List.length_append, List.length_cons, List.length_nil]; omega)) rfl (fun _ => rfl) | exact fin_eq rfl)))
    by_cases hb2 : (b.toNat : Int) = 2
    · have eB : getB (b.toNat : Int) r 0 = (0, (rtext r 0).1, (rtext r 0).2.1, (rtext r 0).2.2) := by rw [getB, if_neg hb1, if_pos hb2]
      rw [eB, getF]
      dsimp only
      repeat' (first|(first|(refine jl ?_;first|refine j7 ?_|refine jb ?_|refine jbl ?_|refine j1 ?_|refine j4 ?_|refine j6 ?_|refine j9 ?_|refine j13 (fun id hid=>?_)|refine j14 ?_|refine j17t ?_|refine j17 ?_|refine j16 ?_|refine ji1 ?_|refine jp (k2) ?_|refine jcq (hp:=fun hc=>k4) ?_|refine jcf (l := ((1 : Nat) : Int)) (h := (((bys (b :: r)).length : Nat) : Int)) (all := bys r) ?_ (cut_from (b :: r) 1))|(refine jc ?_;first|refine c1 ?_|refine c2 ?_|refine c5 ?_|refine c6 ?_|refine c7 ?_)|refine n1 ?_|refine n2 ?_|refine n6 ?_|refine n10 ?_|refine n16 ?_)|(refine c9 (fun h=>?_) (fun h=>?_)<;>((try simp only [Bool.or_eq_true, Bool.and_eq_true, Bool.or_eq_false_iff, Bool.and_eq_false_iff, Bool.not_eq_true', Bool.not_eq_false', decide_eq_true_eq, decide_eq_false_iff_not, Bool.false_eq_true, Bool.true_eq_false, reduceCtorEq] at h) <;> (try simp (disch := omega) only [sb_bt, w64, Int.reduceAdd, Int.reduceToNat, Int.toNat_natCast, not_true_eq_false, false_or] at h) <;> (try (exfalso; omega)))))
      · rw [if_pos h]
        first | exact ge rfl | exact gvs (by (repeat' (first | exact finl_nil | apply finl_cons | exact Fin.refl _ _ _ | apply fin_pk2 | apply fin_pk3 | apply fin_agg | apply fin_tup | exact fin_nil | exact fin_sl rfl | exact fin_fz (by exact lkp) (by first | assumption | exact St.ns1 (by assumption) | exact St.ns2 (by assumption) | exact St.ns3 (by assumption) | exact St.ns4 (by assumption) | exact St.ns5 (by assumption) | exact St.ns6 (by assumption) | exact St.ns7 (by assumption) | exact St.ns8 (by assumption) | exact St.ns9 (by assumption) | exact St.ns10 (by assumption) | exact St.ns11 (by assumption) | exact St.ns12 (by assumption) | exact St.ns13 (by assumption) | exact St.ns14 (by assumption) | exact St.ns10 (by assumption) | exact St.ns11 (by assumption) | exact St.ns12 (by assumption) | exact St.ns13 (by assumption) | exact St.ns14 (by assumption)) (by first | exact rfl | assumption | (simp only [List.length_map, List.length_append, List.length_cons, List.length_nil]; done) | (simp only [List.length_map, List.length_append, List.length_cons, List.length_nil]; omega)) rfl (fun _ => rfl) | exact fin_eq rfl)))
      · rw [if_neg ‹_›, if_pos (by first | exact h | (rcases h with h | h <;> simp [h]))]
        first | exact ge rfl | exact gvs (by (repeat' (first | exact finl_nil | apply finl_cons | exact Fin.refl _ _ _ | apply fin_pk2 | apply fin_pk3 | apply fin_agg | apply fin_tup | exact fin_nil | exact fin_sl rfl | exact fin_fz (by exact lkp) (by first | assumption | exact St.ns1 (by assumption) | exact St.ns2 (by assumption) | exact St.ns3 (by assumption) | exact St.ns4 (by assumption) | exact St.ns5 (by assumption) | exact St.ns6 (by assumption) | exact St.ns7 (by assumption) | exact St.ns8 (by assumption) | exact St.ns9 (by assumption) | exact St.ns10 (by assumption) | exact St.ns11 (by assumption) | exact St.ns12 (by assumption) | exact St.ns13 (by assumption) | exact St.ns14 (by assumption) | exact St.ns10 (by assumption) | exact St.ns11 (by assumption) | exact St.ns12 (by assumption) | exact St.ns13 (by assumption) | exact St.ns14 (by assumption)) (by first | exact rfl | assumption | (simp only [List.length_map, List.length_append, List.length_cons, List.length_nil]; done) | (simp only [List.length_map, List.length_append, List.length_cons, List.length_nil]; omega)) rfl (fun _ => rfl) | exact fin_eq rfl)))
      · rw [if_neg ‹_›, if_neg (by rintro (h' | h') <;> simp [h.1, h.2] at h')]
        first | refine cj_id 2 (fun id2 e => ?_) | refine lj_id 2 (fun id2 e => ?_)
        subst e
        refine cqs 7 id2 (.row 3 37 [[.v (.int .u8 b.toNat), .v (.int .i64 0), .v (.string (rtext r 0).1)]]) ?_
        repeat (first|(refine dl ?_;first|refine d1 ?_|refine d4 ?_|refine d14 ?_|refine d17 ?_)|(refine jc ?_;first|refine c7 ?_)|refine n1 ?_|refine n16 ?_)
        simp only [length_bys]
        have hlc : (b :: r).length = r.length + 1 := rfl
        rw [w64 (by omega) (by omega)]
        first | exact ge rfl | exact gvs (by (repeat' (first | exact finl_nil | apply finl_cons | exact Fin.refl _ _ _ | apply fin_pk2 | apply fin_pk3 | apply fin_agg | apply fin_tup | exact fin_nil | exact fin_sl rfl | exact fin_fz (by exact lkp) (by first | assumption | exact St.ns1 (by assumption) | exact St.ns2 (by assumption) | exact St.ns3 (by assumption) | exact St.ns4 (by assumption) | exact St.ns5 (by assumption) | exact St.ns6 (by assumption) | exact St.ns7 (by assumption) | exact St.ns8 (by assumption) | exact St.ns9 (by assumption) | exact St.ns10 (by assumption) | exact St.ns11 (by assumption) | exact St.ns12 (by assumption) | exact St.ns13 (by assumption) | exact St.ns14 (by assumption) | exact St.ns10 (by assumption) | exact St.ns11 (by assumption) | exact St.ns12 (by assumption) | exact St.ns13 (by assumption) | exact St.ns14 (by assumption)) (by first | exact rfl | assumption | (simp only [List.length_map, List.length_append, List.length_cons, List.length_nil]; done) | (simp only [List.length_map, List.length_append, List.length_cons, List.length_nil]; omega)) rfl (fun _ => rfl) | exact fin_eq rfl)))
    · have eB : getB (b.toNat : Int) r 0 = (0, ⟨#[]⟩, r, 0) := by rw [getB, if_neg hb1, if_neg hb2]
      rw [eB, getF]
      dsimp only
      repeat' (first|(first|(refine jl ?_;first|refine j7 ?_|refine jb ?_|refine jbl ?_|refine j1 ?_|refine j4 ?_|refine j9 ?_|refine j13 (fun id hid=>?_)|refine j14 ?_|refine j17t ?_|refine j17 ?_|refine j16 ?_|refine ji1 ?_|refine jcq (hp:=fun hc=>k5) ?_|refine jcf (l := ((1 : Nat) : Int)) (h := (((bys (b :: r)).length : Nat) : Int)) (all := bys r) ?_ (cut_from (b :: r) 1))|(refine jc ?_;first|refine c1 ?_|refine c2 ?_|refine c5 ?_|refine c6 ?_|refine c7 ?_)|refine n1 ?_|refine n2 ?_|refine n6 ?_|refine n10 ?_|refine n16 ?_)|(refine c9 (fun h=>?_) (fun h=>?_)<;>((try simp only [Bool.or_eq_true, Bool.and_eq_true, Bool.or_eq_false_iff, Bool.and_eq_false_iff, Bool.not_eq_true', Bool.not_eq_false', decide_eq_true_eq, decide_eq_false_iff_not, Bool.false_eq_true, Bool.true_eq_false, reduceCtorEq] at h) <;> (try simp (disch := omega) only [sb_bt, w64, Int.reduceAdd, Int.reduceToNat, Int.toNat_natCast, not_true_eq_false, false_or] at h) <;> (try (exfalso; omega)))))
      · rw [if_neg (by decide), if_pos (.inr h)]
        first | exact ge rfl | exact gvs (by (repeat' (first | exact finl_nil | apply finl_cons | exact Fin.refl _ _ _ | apply fin_pk2 | apply fin_pk3 | apply fin_agg | apply fin_tup | exact fin_nil | exact fin_sl rfl | exact fin_fz (by exact lkp) (by first | assumption | exact St.ns1 (by assumption) | exact St.ns2 (by assumption) | exact St.ns3 (by assumption) | exact St.ns4 (by assumption) | exact St.ns5 (by assumption) | exact St.ns6 (by assumption) | exact St.ns7 (by assumption) | exact St.ns8 (by assumption) | exact St.ns9 (by assumption) | exact St.ns10 (by assumption) | exact St.ns11 (by assumption) | exact St.ns12 (by assumption) | exact St.ns13 (by assumption) | exact St.ns14 (by assumption) | exact St.ns10 (by assumption) | exact St.ns11 (by assumption) | exact St.ns12 (by assumption) | exact St.ns13 (by assumption) | exact St.ns14 (by assumption)) (by first | exact rfl | assumption | (simp only [List.length_map, List.length_append, List.length_cons, List.length_nil]; done) | (simp only [List.length_map, List.length_append, List.length_cons, List.length_nil]; omega)) rfl (fun _ => rfl) | exact fin_eq rfl)))
      · rw [if_neg (by decide), if_neg (by rintro (h' | h') <;> simp [h.1, h.2] at h')]
        first | refine cj_id 2 (fun id2 e => ?_) | refine lj_id 2 (fun id2 e => ?_)
        subst e
        refine cqs 7 id2 (.row 3 37 [[.v (.int .u8 b.toNat), .v (.int .i64 0), .v (.string ⟨#[]⟩)]]) ?_
        repeat (first|(refine dl ?_;first|refine d1 ?_|refine d4 ?_|refine d14 ?_|refine d17 ?_)|(refine jc ?_;first|refine c7 ?_)|refine n1 ?_|refine n16 ?_)
        simp only [length_bys]
        have hlc : (b :: r).length = r.length + 1 := rfl
        rw [w64 (by omega) (by omega)]
        first | exact ge rfl | exact gvs (by (repeat' (first | exact finl_nil | apply finl_cons | exact Fin.refl _ _ _ | apply fin_pk2 | apply fin_pk3 | apply fin_agg | apply fin_tup | exact fin_nil | exact fin_sl rfl | exact fin_fz (by exact lkp) (by first | assumption | exact St.ns1 (by assumption) | exact St.ns2 (by assumption) | exact St.ns3 (by assumption) | exact St.ns4 (by assumption) | exact St.ns5 (by assumption) | exact St.ns6 (by assumption) | exact St.ns7 (by assumption) | exact St.ns8 (by assumption) | exact St.ns9 (by assumption) | exact St.ns10 (by assumption) | exact St.ns11 (by assumption) | exact St.ns12 (by assumption) | exact St.ns13 (by assumption) | exact St.ns14 (by assumption) | exact St.ns10 (by assumption) | exact St.ns11 (by assumption) | exact St.ns12 (by assumption) | exact St.ns13 (by assumption) | exact St.ns14 (by assumption)) (by first | exact rfl | assumption | (simp only [List.length_map, List.length_append, List.length_cons, List.length_nil]; done) | (simp only [List.length_map, List.length_append, List.length_cons, List.length_nil]; omega)) rfl (fun _ => rfl) | exact fin_eq rfl)))
end Go.Proofs.YtddljegbggncdaaDoor.Ab
