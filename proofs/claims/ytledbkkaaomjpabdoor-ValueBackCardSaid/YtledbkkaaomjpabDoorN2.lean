/- Numbers of a set width, 2: Put. -/
import Derived.Test.YtledbkkaaomjpabDoorN1
set_option linter.unusedVariables false
set_option linter.unusedSimpArgs false
namespace Go.Proofs.YtledbkkaaomjpabDoor.Ab
open Go
attribute [local irreducible] thn inb endR CJ LJ OpJ

def be : Nat → Nat → List UInt8
  | 0, _ => []
  | w + 1, n => be w (n / 256) ++ [UInt8.ofNat (n % 256)]
theorem length_be (w n : Nat) : (be w n).length = w := by
  induction w generalizing n with
  | zero => rfl
  | succ w ih => simp [be, ih]
theorem be_cons (w n : Nat) : be (w + 1) n = UInt8.ofNat (n / 256 ^ w % 256) :: be w n := by
  induction w generalizing n with
  | zero => simp [be]
  | succ w ih =>
    rw [be, ih (n / 256), Nat.div_div_eq_div_mul, ← Nat.pow_succ']
    rw [be]
    rfl
theorem beNat_be (w n : Nat) : beNat (be w n) = n % 256 ^ w := by
  induction w generalizing n with
  | zero => simp [be, beNat, Nat.mod_one]
  | succ w ih =>
    rw [be, beNat_snoc, ih, Nat.pow_succ']
    have h1 : (UInt8.ofNat (n % 256)).toNat = n % 256 := by simp
    rw [h1, Nat.mod_mul, Nat.mul_comm, Nat.add_comm]
theorem bys_append (a b : List UInt8) : bys (a ++ b) = bys a ++ bys b := by simp [bys]
def putE (n w : Int) : Int := if w < 1 ∨ 6 < w then 2 else if n < 0 ∨ (256 ^ w.toNat : Int) ≤ n then 12 else 0
def putB (n w : Int) : List UInt8 := if putE n w = 0 then be w.toNat n.toNat else []
theorem wrap8 (n : Int) : IntKind.u8.wrap n = n % 256 := by
  rw [IntKind.wrap_u8]
theorem shr_pow (n : Int) (w : Nat) (hw : w ≤ 6) : n.fdiv (2 ^ (min (8 * (w : Int)).toNat IntKind.i64.bits)) = n / 256 ^ w := by
  have e1 : min (8 * (w : Int)).toNat IntKind.i64.bits = 8 * w := by
    show min (8 * (w : Int)).toNat 64 = _
    omega
  rw [e1, Int.pow_mul]
  rw [Int.fdiv_eq_ediv_of_nonneg _ (by
    have : (0 : Int) < (2 ^ 8) ^ w := Int.pow_pos (by decide)
    omega)]
  rfl
theorem p_put (n w : Int) (hn : -9223372036854775808 ≤ n ∧ n < 9223372036854775808) : Pure Tryd.prog 43 [.v (.int .i64 n), .v (.int .i64 w)] (.tup [.sl none false 1 (bys (putB n w)), .v (.int .i64 (putE n w))]) := by
  refine enterW Tryd.func43 rfl rfl rfl rfl (fun σ => ?_)
  repeat (first|(refine jl ?_;first|refine j1 ?_|refine j2 ?_|refine j3 ?_|refine j3f ?_|refine j4 ?_|refine j5 ?_|refine j6 ?_|refine j12 (fun id hid=>?_)|refine j13 (fun id hid=>?_)|refine j14 ?_|refine j15 ?_|refine j17 ?_)|(refine jc ?_;first|refine c1 ?_|refine c2 ?_|refine c3 ?_|refine c4 ?_|refine cj_yes rfl ?_|refine cj_no rfl ?_|refine c5 ?_|refine c6 ?_|refine c7 ?_|refine c8 ?_)|refine n1 ?_|refine n2 ?_|refine n3 ?_|refine n4 ?_|refine n5 ?_|refine n6 ?_|refine n7 ?_|refine n8 ?_|refine n9 ?_|refine n10 ?_|refine n13 ?_|refine n11 ?_|refine n12 ?_|refine n14 ?_|refine n15 ?_|refine n16 ?_)
  refine lj_pure rfl rfl rfl (p_may _) ?_
  repeat' (first | (first|(refine jl ?_;first|refine j1 ?_|refine j2 ?_|refine j3 ?_|refine j3f ?_|refine j4 ?_|refine j5 ?_|refine j6 ?_|refine j12 (fun id hid=>?_)|refine j13 (fun id hid=>?_)|refine j14 ?_|refine j15 ?_|refine j17 ?_)|(refine jc ?_;first|refine c1 ?_|refine c2 ?_|refine c3 ?_|refine c4 ?_|refine cj_yes rfl ?_|refine cj_no rfl ?_|refine c5 ?_|refine c6 ?_|refine c7 ?_|refine c8 ?_)|refine n1 ?_|refine n2 ?_|refine n3 ?_|refine n4 ?_|refine n5 ?_|refine n6 ?_|refine n7 ?_|refine n8 ?_|refine n9 ?_|refine n10 ?_|refine n13 ?_|refine n11 ?_|refine n12 ?_|refine n14 ?_|refine n15 ?_|refine n16 ?_) | ((fail_if_success refine lj_gt rfl rfl ?_); (fail_if_success refine lj_gf rfl rfl ?_); ((refine lj_gcase rfl rfl (fun h => ?_) (fun h => ?_)) <;> (try (exfalso; simp at h; done)))) | (refine c9 (fun h=>?_) (fun h=>?_) <;> (try (exfalso; simp at h; done))))
  · have he : putE n w = 2 := by
      simp only [Bool.not_eq_true', Bool.and_eq_false_iff, decide_eq_false_iff_not] at h
      rw [putE, if_pos (by omega)]
    rw [putB, he, if_neg (by decide)]
    exact gives (St.le_refl _) (fin_two (.wk (Wk.sl _ _ _ _)) (Fin.refl _ _ _))
  · rename_i h2
    simp only [Bool.not_eq_false', Bool.and_eq_true, decide_eq_true_eq] at h h2
    have he : putE n w = 12 := by rw [putE, if_neg (by omega), if_pos (.inl h)]
    rw [putB, he, if_neg (by decide)]
    exact gives (St.le_refl _) (fin_two (.wk (Wk.sl _ _ _ _)) (Fin.refl _ _ _))
  · rename_i h2
    simp only [Bool.not_eq_false', Bool.and_eq_true, decide_eq_true_eq, decide_eq_false_iff_not] at h h2
    obtain ⟨k, rfl⟩ := Int.eq_ofNat_of_zero_le (show 0 ≤ w by omega)
    obtain ⟨m, rfl⟩ := Int.eq_ofNat_of_zero_le (show 0 ≤ n by omega)
    have hw8 : IntKind.i64.wrap (8 * (k : Int)) = 8 * k := wrap64_in (by omega) (by omega)
    refine lj_vy rfl rfl rfl (fun R hR => opj_shr rfl rfl rfl (by rw [hw8]; omega) hR) ?_
    rw [hw8, shr_pow _ k (by omega)]
    repeat' (first | (first|(refine jl ?_;first|refine j1 ?_|refine j2 ?_|refine j3 ?_|refine j3f ?_|refine j4 ?_|refine j5 ?_|refine j6 ?_|refine j12 (fun id hid=>?_)|refine j13 (fun id hid=>?_)|refine j14 ?_|refine j15 ?_|refine j17 ?_)|(refine jc ?_;first|refine c1 ?_|refine c2 ?_|refine c3 ?_|refine c4 ?_|refine cj_yes rfl ?_|refine cj_no rfl ?_|refine c5 ?_|refine c6 ?_|refine c7 ?_|refine c8 ?_)|refine n1 ?_|refine n2 ?_|refine n3 ?_|refine n4 ?_|refine n5 ?_|refine n6 ?_|refine n7 ?_|refine n8 ?_|refine n9 ?_|refine n10 ?_|refine n13 ?_|refine n11 ?_|refine n12 ?_|refine n14 ?_|refine n15 ?_|refine n16 ?_) | ((fail_if_success refine lj_gt rfl rfl ?_); (fail_if_success refine lj_gf rfl rfl ?_); ((refine lj_gcase rfl rfl (fun h => ?_) (fun h => ?_)) <;> (try (exfalso; simp at h; done)))) | (refine c9 (fun h=>?_) (fun h=>?_) <;> (try (exfalso; simp at h; done))))
    · simp only [Bool.not_eq_true', decide_eq_false_iff_not] at h
      have hp : (0 : Int) < 256 ^ k := Int.pow_pos (by decide)
      have he : putE (m : Int) (k : Int) = 12 := by
        have hge : (256 ^ ((k : Int)).toNat : Int) ≤ m := by
          rw [Int.toNat_natCast]
          by_cases h3 : (m : Int) < 256 ^ k
          · exact absurd (Int.ediv_eq_zero_of_lt (by omega) h3) h
          · omega
        rw [putE, if_neg (by omega), if_pos (.inr hge)]
      rw [putB, he, if_neg (by decide)]
      exact gives (St.le_refl _) (fin_two (.wk (Wk.sl _ _ _ _)) (Fin.refl _ _ _))
    · simp only [Bool.not_eq_false', decide_eq_true_eq] at h
      have hlt : (m : Int) < 256 ^ k := by
        have hp : (0 : Int) < 256 ^ k := Int.pow_pos (by decide)
        have := Int.lt_ediv_add_one_mul_self (m : Int) hp
        rw [h] at this
        omega
      have he : putE (m : Int) (k : Int) = 0 := by
        rw [putE, if_neg (by omega), if_neg (by rw [Int.toNat_natCast]; omega)]
      rw [putB, he, if_pos rfl, Int.toNat_natCast, Int.toNat_natCast]
      refine lj_f rfl (fun R hR => opj_make (sz := 1) (by_ := 1) (zs := [.v (.int .u8 0)]) rfl ⟨rfl, rfl, rfl, by decide⟩ rfl rfl rfl rfl (by omega) (by omega) (by omega) (by decide) hR) (fun id hid => ?_)
      repeat (first|(refine jl ?_;first|refine j1 ?_|refine j2 ?_|refine j3 ?_|refine j3f ?_|refine j4 ?_|refine j5 ?_|refine j6 ?_|refine j12 (fun id hid=>?_)|refine j13 (fun id hid=>?_)|refine j14 ?_|refine j15 ?_|refine j17 ?_)|(refine jc ?_;first|refine c1 ?_|refine c2 ?_|refine c3 ?_|refine c4 ?_|refine cj_yes rfl ?_|refine cj_no rfl ?_|refine c5 ?_|refine c6 ?_|refine c7 ?_|refine c8 ?_)|refine n1 ?_|refine n2 ?_|refine n3 ?_|refine n4 ?_|refine n5 ?_|refine n6 ?_|refine n7 ?_|refine n8 ?_|refine n9 ?_|refine n10 ?_|refine n13 ?_|refine n11 ?_|refine n12 ?_|refine n14 ?_|refine n15 ?_|refine n16 ?_)
      let H : Nat → Fr := fun i => [(6, .osl id 1 0 k), (24, .v (.int .i64 k)), (25, .v (.int .i64 i)), (0, .v (.int .i64 m)), (1, .v (.int .i64 k))]
      let S : Nat → St := fun i => σ.set id (.row 1 5 (List.replicate (k - i) [.v (.int .u8 0)] ++ bys (be i m)))
      refine cj_head (fun i : Nat => i ≤ k) H S (fun i => k - i) 0 (Nat.zero_le _) ⟨rfl, rfl, rfl, rfl, rfl, trivial⟩ (by simp [S, be, bys]; exact St.le_refl _) (fun i hi => ?_)
      repeat (first|(refine jl ?_;first|refine j1 ?_|refine j2 ?_|refine j3 ?_|refine j3f ?_|refine j4 ?_|refine j5 ?_|refine j6 ?_|refine j12 (fun id hid=>?_)|refine j13 (fun id hid=>?_)|refine j14 ?_|refine j15 ?_|refine j17 ?_)|(refine jc ?_;first|refine c1 ?_|refine c2 ?_|refine c3 ?_|refine c4 ?_|refine cj_yes rfl ?_|refine cj_no rfl ?_|refine c5 ?_|refine c6 ?_|refine c7 ?_|refine c8 ?_)|refine n1 ?_|refine n2 ?_|refine n3 ?_|refine n4 ?_|refine n5 ?_|refine n6 ?_|refine n7 ?_|refine n8 ?_|refine n9 ?_|refine n10 ?_|refine n13 ?_|refine n11 ?_|refine n12 ?_|refine n14 ?_|refine n15 ?_|refine n16 ?_)
      refine cj_if rfl (fun h3 => ?_) (fun h3 => ?_)
      · simp only [decide_eq_true_eq] at h3
        repeat (first|(refine jl ?_;first|refine j1 ?_|refine j2 ?_|refine j3 ?_|refine j3f ?_|refine j4 ?_|refine j5 ?_|refine j6 ?_|refine j12 (fun id hid=>?_)|refine j13 (fun id hid=>?_)|refine j14 ?_|refine j15 ?_|refine j17 ?_)|(refine jc ?_;first|refine c1 ?_|refine c2 ?_|refine c3 ?_|refine c4 ?_|refine cj_yes rfl ?_|refine cj_no rfl ?_|refine c5 ?_|refine c6 ?_|refine c7 ?_|refine c8 ?_)|refine n1 ?_|refine n2 ?_|refine n3 ?_|refine n4 ?_|refine n5 ?_|refine n6 ?_|refine n7 ?_|refine n8 ?_|refine n9 ?_|refine n10 ?_|refine n13 ?_|refine n11 ?_|refine n12 ?_|refine n14 ?_|refine n15 ?_|refine n16 ?_)
        have hw8i : IntKind.i64.wrap (8 * (i : Int)) = 8 * i := wrap64_in (by omega) (by omega)
        have hix : IntKind.i64.wrap (IntKind.i64.wrap ((k : Int) - 1) - (i : Int)) = ((k - 1 - i : Nat) : Int) := by
          rw [wrap64_in (n := (k : Int) - 1) (by omega) (by omega), wrap64_in (by omega) (by omega)]; omega
        refine lj_v rfl (fun R hR => opj_shr rfl rfl rfl (by rw [hw8i]; omega) hR) ?_
        rw [hw8i, shr_pow _ i (by omega), hix]
        repeat (first|(refine jl ?_;first|refine j1 ?_|refine j2 ?_|refine j3 ?_|refine j3f ?_|refine j4 ?_|refine j5 ?_|refine j6 ?_|refine j12 (fun id hid=>?_)|refine j13 (fun id hid=>?_)|refine j14 ?_|refine j15 ?_|refine j17 ?_)|(refine jc ?_;first|refine c1 ?_|refine c2 ?_|refine c3 ?_|refine c4 ?_|refine cj_yes rfl ?_|refine cj_no rfl ?_|refine c5 ?_|refine c6 ?_|refine c7 ?_|refine c8 ?_)|refine n1 ?_|refine n2 ?_|refine n3 ?_|refine n4 ?_|refine n5 ?_|refine n6 ?_|refine n7 ?_|refine n8 ?_|refine n9 ?_|refine n10 ?_|refine n13 ?_|refine n11 ?_|refine n12 ?_|refine n14 ?_|refine n15 ?_|refine n16 ?_)
        refine lj_v rfl (fun R hR => opj_indexAddr_osl (sz := 1) rfl rfl rfl rfl rfl (by omega) (by omega) hR) ?_
        have hrep : (List.replicate (k - i) [AV.v (.int .u8 0)])[k - 1 - i]? = some [AV.v (.int .u8 0)] := by
          rw [List.getElem?_replicate, if_pos (by omega)]
        refine lj_s (fun R hR => opj_store (m := 1) rfl rfl rfl rfl (St.set_same _ _ _) (i := 0 + ((k - 1 - i : Nat) : Int).toNat) (el := [AV.v (.int .u8 0)]) (by
          rw [List.getElem?_append_left (by simp; omega)]; simpa using hrep) rfl rfl (Nat.le_refl _) hR) ?_
        repeat (first|(refine jl ?_;first|refine j1 ?_|refine j2 ?_|refine j3 ?_|refine j3f ?_|refine j4 ?_|refine j5 ?_|refine j6 ?_|refine j12 (fun id hid=>?_)|refine j13 (fun id hid=>?_)|refine j14 ?_|refine j15 ?_|refine j17 ?_)|(refine jc ?_;first|refine c1 ?_|refine c2 ?_|refine c3 ?_|refine c4 ?_|refine cj_yes rfl ?_|refine cj_no rfl ?_|refine c5 ?_|refine c6 ?_|refine c7 ?_|refine c8 ?_)|refine n1 ?_|refine n2 ?_|refine n3 ?_|refine n4 ?_|refine n5 ?_|refine n6 ?_|refine n7 ?_|refine n8 ?_|refine n9 ?_|refine n10 ?_|refine n13 ?_|refine n11 ?_|refine n12 ?_|refine n14 ?_|refine n15 ?_|refine n16 ?_)
        refine nx_thn ?_
        refine ⟨i + 1, by omega, by omega, ⟨rfl, rfl, ?_, rfl, rfl, trivial⟩, ?_⟩
        · show some (AV.v (.int .i64 (IntKind.i64.wrap ((i : Int) + 1)))) = _
          rw [wrap64_in (by omega) (by omega)]
          rfl
        · have hels : (List.replicate (k - i) [AV.v (.int .u8 0)] ++ bys (be i m)).set (0 + ((k - 1 - i : Nat) : Int).toNat) [AV.v (.int .u8 (IntKind.u8.wrap ((m : Int) / 256 ^ i)))] = List.replicate (k - (i + 1)) [AV.v (.int .u8 0)] ++ bys (be (i + 1) m) := by
            have e1 : 0 + ((k - 1 - i : Nat) : Int).toNat = k - 1 - i := by omega
            have e2 : k - i = (k - (i + 1)) + 1 := by omega
            have e3 : k - 1 - i = k - (i + 1) := by omega
            rw [e1, e2, e3, be_cons, List.replicate_succ', List.append_assoc, List.set_append]
            rw [if_neg (by simp)]
            simp only [List.length_replicate, Nat.sub_self, List.singleton_append, List.set_cons_zero]
            congr 2
            have h9 : (UInt8.ofNat (m / 256 ^ i % 256)).toNat = m / 256 ^ i % 256 := by simp
            show [AV.v (.int .u8 (IntKind.u8.wrap ((m : Int) / 256 ^ i)))] = [AV.v (.int .u8 ((UInt8.ofNat (m / 256 ^ i % 256)).toNat : Int))]
            rw [wrap8, h9, Int.natCast_emod, Int.natCast_ediv, Int.natCast_pow]
            rfl
          show St.le (σ.set id _) ((σ.set id _).set id _)
          rw [St.set_set]
          have : (σ.set id (.row 1 5 (List.replicate (k - (i + 1)) [AV.v (.int .u8 0)] ++ bys (be (i + 1) m)))) = σ.set id (.row 1 5 ((List.replicate (k - i) [AV.v (.int .u8 0)] ++ bys (be i m)).set (0 + ((k - 1 - i : Nat) : Int).toNat) ([] ++ [AV.v (.int .u8 (IntKind.u8.wrap ((m : Int) / 256 ^ i)))] ++ []))) := by
            rw [List.nil_append, List.append_nil, hels]
          exact this ▸ St.le_refl _
      · simp only [decide_eq_false_iff_not] at h3
        have hik : i = k := by omega
        subst hik
        repeat (first|(refine jl ?_;first|refine j1 ?_|refine j2 ?_|refine j3 ?_|refine j3f ?_|refine j4 ?_|refine j5 ?_|refine j6 ?_|refine j12 (fun id hid=>?_)|refine j13 (fun id hid=>?_)|refine j14 ?_|refine j15 ?_|refine j17 ?_)|(refine jc ?_;first|refine c1 ?_|refine c2 ?_|refine c3 ?_|refine c4 ?_|refine cj_yes rfl ?_|refine cj_no rfl ?_|refine c5 ?_|refine c6 ?_|refine c7 ?_|refine c8 ?_)|refine n1 ?_|refine n2 ?_|refine n3 ?_|refine n4 ?_|refine n5 ?_|refine n6 ?_|refine n7 ?_|refine n8 ?_|refine n9 ?_|refine n10 ?_|refine n13 ?_|refine n11 ?_|refine n12 ?_|refine n14 ?_|refine n15 ?_|refine n16 ?_)
        refine gives (St.le_set _ hid) (fin_two ?_ (Fin.refl _ _ _))
        have hl : (bys (be i m)).length = i := by rw [length_bys, length_be]
        have hf := Fin.fz0 (σ := σ) (σ' := S i) (id := id) (sz := 1) (off := 0) (len := i) (et := 5) (els := bys (be i m)) (by simp [S, St.set_same]) hid (by rw [hl]; omega) (by decide) (fun j e h => by
          simp only [bys, List.getElem?_map, Option.map_eq_some_iff] at h
          obtain ⟨_, _, rfl⟩ := h
          rfl)
        rw [List.drop_zero, List.take_of_length_le (by rw [hl]; exact Nat.le_refl _)] at hf
        exact hf
end Go.Proofs.YtledbkkaaomjpabDoor.Ab
