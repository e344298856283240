/- Numbers of a set width, 6: the program's reader. -/
import Derived.Test.YtledbkkaaomjpabDoorN3
set_option linter.unusedVariables false
set_option linter.unusedSimpArgs false
namespace Go.Proofs.YtledbkkaaomjpabDoor.Ab
open Go
attribute [local irreducible] thn inb endR CJ LJ OpJ DJ

theorem St.set_id {σ : St} {id : Nat} {o : AObj} (h : σ id = some o) : σ.set id o = σ := by
  funext x
  by_cases hx : x = id
  · subst hx; rw [St.set_same, h]
  · rw [St.set_ne _ _ _ hx]
abbrev rd (l : List UInt8) (e : Int) : AObj := .row 2 72 [[.sl none false 1 (bys l), .v (.int .i64 e)]]
abbrev Leaves (σ1 : St) (r : AV) : AEnd → St → Prop := fun e σ' => e = .ret r ∧ σ' = σ1

theorem p_err {σ : St} {id : Nat} {l : List UInt8} {e : Int} (hid : σ id = some (rd l e)) : ACalls Tryd.prog 40 [.ptr id 2 0 0] σ (Leaves σ (.v (.int .i64 e))) := by
  refine enterS Tryd.func40 rfl rfl rfl rfl ?_
  repeat (first|(refine jl ?_;first|refine j1 ?_|refine j2 ?_|refine j3 ?_|refine j3f ?_|refine j4 ?_|refine j5 ?_|refine j6 ?_|refine j12 (fun id hid=>?_)|refine j13 (fun id hid=>?_)|refine j14 ?_|refine j15 ?_|refine j17 ?_)|(refine jc ?_;first|refine c1 ?_|refine c2 ?_|refine c3 ?_|refine c4 ?_|refine cj_yes rfl ?_|refine cj_no rfl ?_|refine c5 ?_|refine c6 ?_|refine c7 ?_|refine c8 ?_)|refine n1 ?_|refine n2 ?_|refine n3 ?_|refine n4 ?_|refine n5 ?_|refine n6 ?_|refine n7 ?_|refine n8 ?_|refine n9 ?_|refine n10 ?_|refine n13 ?_|refine n11 ?_|refine n12 ?_|refine n14 ?_|refine n15 ?_|refine n16 ?_)
  exact gives (St.le_refl _) (Fin.refl _ _ _)
theorem p_err0 : Pure Tryd.prog 40 [.v (.pointer none)] (.v (.int .i64 1)) := by
  refine enterW Tryd.func40 rfl rfl rfl rfl (fun σ => ?_)
  repeat (first|(refine jl ?_;first|refine j1 ?_|refine j2 ?_|refine j3 ?_|refine j3f ?_|refine j4 ?_|refine j5 ?_|refine j6 ?_|refine j12 (fun id hid=>?_)|refine j13 (fun id hid=>?_)|refine j14 ?_|refine j15 ?_|refine j17 ?_)|(refine jc ?_;first|refine c1 ?_|refine c2 ?_|refine c3 ?_|refine c4 ?_|refine cj_yes rfl ?_|refine cj_no rfl ?_|refine c5 ?_|refine c6 ?_|refine c7 ?_|refine c8 ?_)|refine n1 ?_|refine n2 ?_|refine n3 ?_|refine n4 ?_|refine n5 ?_|refine n6 ?_|refine n7 ?_|refine n8 ?_|refine n9 ?_|refine n10 ?_|refine n13 ?_|refine n11 ?_|refine n12 ?_|refine n14 ?_|refine n15 ?_|refine n16 ?_)
  exact gives (St.le_refl _) (Fin.refl _ _ _)
theorem p_left {σ : St} {id : Nat} {l : List UInt8} {e : Int} (hid : σ id = some (rd l e)) : ACalls Tryd.prog 41 [.ptr id 2 0 0] σ (Leaves σ (.v (.int .i64 l.length))) := by
  refine enterS Tryd.func41 rfl rfl rfl rfl ?_
  repeat (first|(refine jl ?_;first|refine j1 ?_|refine j2 ?_|refine j3 ?_|refine j3f ?_|refine j4 ?_|refine j5 ?_|refine j6 ?_|refine j12 (fun id hid=>?_)|refine j13 (fun id hid=>?_)|refine j14 ?_|refine j15 ?_|refine j17 ?_)|(refine jc ?_;first|refine c1 ?_|refine c2 ?_|refine c3 ?_|refine c4 ?_|refine cj_yes rfl ?_|refine cj_no rfl ?_|refine c5 ?_|refine c6 ?_|refine c7 ?_|refine c8 ?_)|refine n1 ?_|refine n2 ?_|refine n3 ?_|refine n4 ?_|refine n5 ?_|refine n6 ?_|refine n7 ?_|refine n8 ?_|refine n9 ?_|refine n10 ?_|refine n13 ?_|refine n11 ?_|refine n12 ?_|refine n14 ?_|refine n15 ?_|refine n16 ?_)
  exact gives (St.le_refl _) (fin_one (.wk (Wk.of_eq (by rw [length_bys]))))
theorem p_left0 : Pure Tryd.prog 41 [.v (.pointer none)] (.v (.int .i64 0)) := by
  refine enterW Tryd.func41 rfl rfl rfl rfl (fun σ => ?_)
  repeat (first|(refine jl ?_;first|refine j1 ?_|refine j2 ?_|refine j3 ?_|refine j3f ?_|refine j4 ?_|refine j5 ?_|refine j6 ?_|refine j12 (fun id hid=>?_)|refine j13 (fun id hid=>?_)|refine j14 ?_|refine j15 ?_|refine j17 ?_)|(refine jc ?_;first|refine c1 ?_|refine c2 ?_|refine c3 ?_|refine c4 ?_|refine cj_yes rfl ?_|refine cj_no rfl ?_|refine c5 ?_|refine c6 ?_|refine c7 ?_|refine c8 ?_)|refine n1 ?_|refine n2 ?_|refine n3 ?_|refine n4 ?_|refine n5 ?_|refine n6 ?_|refine n7 ?_|refine n8 ?_|refine n9 ?_|refine n10 ?_|refine n13 ?_|refine n11 ?_|refine n12 ?_|refine n14 ?_|refine n15 ?_|refine n16 ?_)
  exact gives (St.le_refl _) (Fin.refl _ _ _)
theorem p_took_bad {σ : St} {id : Nat} {l : List UInt8} {e0 n u e : Int} (hid : σ id = some (rd l e0)) (he : e ≠ 0) : ACalls Tryd.prog 46 [.ptr id 2 0 0, .v (.int .i64 n), .v (.int .i64 u), .v (.int .i64 e)] σ (Leaves (σ.set id (rd l e)) (.v (.int .i64 0))) := by
  refine enterS Tryd.func46 rfl rfl rfl rfl ?_
  repeat' (first | (first|(refine jl ?_;first|refine j1 ?_|refine j2 ?_|refine j3 ?_|refine j3f ?_|refine j4 ?_|refine j5 ?_|refine j6 ?_|refine j12 (fun id hid=>?_)|refine j13 (fun id hid=>?_)|refine j14 ?_|refine j15 ?_|refine j17 ?_)|(refine jc ?_;first|refine c1 ?_|refine c2 ?_|refine c3 ?_|refine c4 ?_|refine cj_yes rfl ?_|refine cj_no rfl ?_|refine c5 ?_|refine c6 ?_|refine c7 ?_|refine c8 ?_)|refine n1 ?_|refine n2 ?_|refine n3 ?_|refine n4 ?_|refine n5 ?_|refine n6 ?_|refine n7 ?_|refine n8 ?_|refine n9 ?_|refine n10 ?_|refine n13 ?_|refine n11 ?_|refine n12 ?_|refine n14 ?_|refine n15 ?_|refine n16 ?_) | ((fail_if_success refine lj_gt rfl rfl ?_); (fail_if_success refine lj_gf rfl rfl ?_); ((refine lj_gcase rfl rfl (fun h => ?_) (fun h => ?_)) <;> (try (exfalso; simp at h; done)))) | (refine c9 (fun h=>?_) (fun h=>?_) <;> (try (exfalso; simp at h; done))))
  · exact gives (St.le_refl _) (Fin.refl _ _ _)
  · simp [he] at h
theorem bys_drop (l : List UInt8) (n : Nat) : (bys l).drop n = bys (l.drop n) := by simp [bys]
theorem bys_take (l : List UInt8) (n : Nat) : (bys l).take n = bys (l.take n) := by simp [bys]
theorem p_took {σ : St} {id : Nat} {l : List UInt8} {e0 n : Int} {u : Nat} (hid : σ id = some (rd l e0)) (hu : u ≤ l.length) : ACalls Tryd.prog 46 [.ptr id 2 0 0, .v (.int .i64 n), .v (.int .i64 u), .v (.int .i64 0)] σ (Leaves (σ.set id (rd (l.drop u) e0)) (.v (.int .i64 n))) := by
  refine enterS Tryd.func46 rfl rfl rfl rfl ?_
  repeat (first|(refine jl ?_;first|refine j1 ?_|refine j2 ?_|refine j3 ?_|refine j3f ?_|refine j4 ?_|refine j5 ?_|refine j6 ?_|refine j12 (fun id hid=>?_)|refine j13 (fun id hid=>?_)|refine j14 ?_|refine j15 ?_|refine j17 ?_)|(refine jc ?_;first|refine c1 ?_|refine c2 ?_|refine c3 ?_|refine c4 ?_|refine cj_yes rfl ?_|refine cj_no rfl ?_|refine c5 ?_|refine c6 ?_|refine c7 ?_|refine c8 ?_)|refine n1 ?_|refine n2 ?_|refine n3 ?_|refine n4 ?_|refine n5 ?_|refine n6 ?_|refine n7 ?_|refine n8 ?_|refine n9 ?_|refine n10 ?_|refine n13 ?_|refine n11 ?_|refine n12 ?_|refine n14 ?_|refine n15 ?_|refine n16 ?_)
  refine lj_v rfl (fun R hR => opj_cut_sl rfl rfl rfl rfl rfl rfl (by omega) (by rw [length_bys]; omega) (by omega) hR) ?_
  rw [show (((bys l).length : Int)).toNat = (bys l).length from rfl, List.take_length, bys_drop, Int.toNat_natCast]
  repeat (first|(refine jl ?_;first|refine j1 ?_|refine j2 ?_|refine j3 ?_|refine j3f ?_|refine j4 ?_|refine j5 ?_|refine j6 ?_|refine j12 (fun id hid=>?_)|refine j13 (fun id hid=>?_)|refine j14 ?_|refine j15 ?_|refine j17 ?_)|(refine jc ?_;first|refine c1 ?_|refine c2 ?_|refine c3 ?_|refine c4 ?_|refine cj_yes rfl ?_|refine cj_no rfl ?_|refine c5 ?_|refine c6 ?_|refine c7 ?_|refine c8 ?_)|refine n1 ?_|refine n2 ?_|refine n3 ?_|refine n4 ?_|refine n5 ?_|refine n6 ?_|refine n7 ?_|refine n8 ?_|refine n9 ?_|refine n10 ?_|refine n13 ?_|refine n11 ?_|refine n12 ?_|refine n14 ?_|refine n15 ?_|refine n16 ?_)
  exact gives (St.le_refl _) (Fin.refl _ _ _)
/-- Number, what is left, error. -/
def rnum (l : List UInt8) (e w : Int) : Int × List UInt8 × Int := if e ≠ 0 then (0, l, e) else if (getN l w).2 ≠ 0 then (0, l, (getN l w).2) else ((getN l w).1, l.drop w.toNat, 0)
theorem getN_ok {l : List UInt8} {w : Int} (h : (getN l w).2 = 0) : 1 ≤ w ∧ w ≤ 6 ∧ w ≤ l.length ∧ getN l w = ((beNat (l.take w.toNat) : Int), 0) := by
  unfold getN at h ⊢
  split at h
  · simp at h
  · split at h
    · simp at h
    · refine ⟨by omega, by omega, by omega, ?_⟩
      rw [if_neg (by assumption), if_neg (by assumption)]
theorem p_num {σ : St} {id : Nat} {l : List UInt8} {e : Int} (w : Int) (hid : σ id = some (rd l e)) : ACalls Tryd.prog 37 [.ptr id 2 0 0, .v (.int .i64 w)] σ (Leaves (σ.set id (rd (rnum l e w).2.1 (rnum l e w).2.2)) (.v (.int .i64 (rnum l e w).1))) := by
  refine enterS Tryd.func37 rfl rfl rfl rfl ?_
  repeat (first|(refine jl ?_;first|refine j1 ?_|refine j2 ?_|refine j3 ?_|refine j3f ?_|refine j4 ?_|refine j5 ?_|refine j6 ?_|refine j12 (fun id hid=>?_)|refine j13 (fun id hid=>?_)|refine j14 ?_|refine j15 ?_|refine j17 ?_)|(refine jc ?_;first|refine c1 ?_|refine c2 ?_|refine c3 ?_|refine c4 ?_|refine cj_yes rfl ?_|refine cj_no rfl ?_|refine c5 ?_|refine c6 ?_|refine c7 ?_|refine c8 ?_)|refine n1 ?_|refine n2 ?_|refine n3 ?_|refine n4 ?_|refine n5 ?_|refine n6 ?_|refine n7 ?_|refine n8 ?_|refine n9 ?_|refine n10 ?_|refine n13 ?_|refine n11 ?_|refine n12 ?_|refine n14 ?_|refine n15 ?_|refine n16 ?_)
  refine lj_to rfl rfl rfl (p_err hid) ?_
  repeat' (first | (first|(refine jl ?_;first|refine j1 ?_|refine j2 ?_|refine j3 ?_|refine j3f ?_|refine j4 ?_|refine j5 ?_|refine j6 ?_|refine j12 (fun id hid=>?_)|refine j13 (fun id hid=>?_)|refine j14 ?_|refine j15 ?_|refine j17 ?_)|(refine jc ?_;first|refine c1 ?_|refine c2 ?_|refine c3 ?_|refine c4 ?_|refine cj_yes rfl ?_|refine cj_no rfl ?_|refine c5 ?_|refine c6 ?_|refine c7 ?_|refine c8 ?_)|refine n1 ?_|refine n2 ?_|refine n3 ?_|refine n4 ?_|refine n5 ?_|refine n6 ?_|refine n7 ?_|refine n8 ?_|refine n9 ?_|refine n10 ?_|refine n13 ?_|refine n11 ?_|refine n12 ?_|refine n14 ?_|refine n15 ?_|refine n16 ?_) | ((fail_if_success refine lj_gt rfl rfl ?_); (fail_if_success refine lj_gf rfl rfl ?_); ((refine lj_gcase rfl rfl (fun h => ?_) (fun h => ?_)) <;> (try (exfalso; simp at h; done)))) | (refine c9 (fun h=>?_) (fun h=>?_) <;> (try (exfalso; simp at h; done))))
  · have he : e ≠ 0 := by simpa using h
    rw [rnum, if_pos he, St.set_id hid]
    exact gives (St.le_refl _) (Fin.refl _ _ _)
  · have he : e = 0 := by simpa using h
    subst he
    refine lj_pure rfl rfl rfl (p_get _ _ _ _) ?_
    repeat (first|(refine jl ?_;first|refine j1 ?_|refine j2 ?_|refine j3 ?_|refine j3f ?_|refine j4 ?_|refine j5 ?_|refine j6 ?_|refine j12 (fun id hid=>?_)|refine j13 (fun id hid=>?_)|refine j14 ?_|refine j15 ?_|refine j17 ?_)|(refine jc ?_;first|refine c1 ?_|refine c2 ?_|refine c3 ?_|refine c4 ?_|refine cj_yes rfl ?_|refine cj_no rfl ?_|refine c5 ?_|refine c6 ?_|refine c7 ?_|refine c8 ?_)|refine n1 ?_|refine n2 ?_|refine n3 ?_|refine n4 ?_|refine n5 ?_|refine n6 ?_|refine n7 ?_|refine n8 ?_|refine n9 ?_|refine n10 ?_|refine n13 ?_|refine n11 ?_|refine n12 ?_|refine n14 ?_|refine n15 ?_|refine n16 ?_)
    rw [rnum, if_neg (by decide)]
    by_cases hf : (getN l w).2 = 0
    · obtain ⟨h1, h2, h3, h4⟩ := getN_ok hf
      obtain ⟨k, rfl⟩ := Int.eq_ofNat_of_zero_le (show 0 ≤ w by omega)
      rw [if_neg (by simpa using hf), hf]
      refine lj_to rfl rfl rfl (p_took (u := k) hid (by omega)) ?_
      repeat (first|(refine jl ?_;first|refine j1 ?_|refine j2 ?_|refine j3 ?_|refine j3f ?_|refine j4 ?_|refine j5 ?_|refine j6 ?_|refine j12 (fun id hid=>?_)|refine j13 (fun id hid=>?_)|refine j14 ?_|refine j15 ?_|refine j17 ?_)|(refine jc ?_;first|refine c1 ?_|refine c2 ?_|refine c3 ?_|refine c4 ?_|refine cj_yes rfl ?_|refine cj_no rfl ?_|refine c5 ?_|refine c6 ?_|refine c7 ?_|refine c8 ?_)|refine n1 ?_|refine n2 ?_|refine n3 ?_|refine n4 ?_|refine n5 ?_|refine n6 ?_|refine n7 ?_|refine n8 ?_|refine n9 ?_|refine n10 ?_|refine n13 ?_|refine n11 ?_|refine n12 ?_|refine n14 ?_|refine n15 ?_|refine n16 ?_)
      exact gives (St.le_refl _) (Fin.refl _ _ _)
    · rw [if_pos hf]
      refine lj_to rfl rfl rfl (p_took_bad hid hf) ?_
      repeat (first|(refine jl ?_;first|refine j1 ?_|refine j2 ?_|refine j3 ?_|refine j3f ?_|refine j4 ?_|refine j5 ?_|refine j6 ?_|refine j12 (fun id hid=>?_)|refine j13 (fun id hid=>?_)|refine j14 ?_|refine j15 ?_|refine j17 ?_)|(refine jc ?_;first|refine c1 ?_|refine c2 ?_|refine c3 ?_|refine c4 ?_|refine cj_yes rfl ?_|refine cj_no rfl ?_|refine c5 ?_|refine c6 ?_|refine c7 ?_|refine c8 ?_)|refine n1 ?_|refine n2 ?_|refine n3 ?_|refine n4 ?_|refine n5 ?_|refine n6 ?_|refine n7 ?_|refine n8 ?_|refine n9 ?_|refine n10 ?_|refine n13 ?_|refine n11 ?_|refine n12 ?_|refine n14 ?_|refine n15 ?_|refine n16 ?_)
      exact gives (St.le_refl _) (Fin.refl _ _ _)
theorem p_num0 (w : Int) : Pure Tryd.prog 37 [.v (.pointer none), .v (.int .i64 w)] (.v (.int .i64 0)) := by
  refine enterW Tryd.func37 rfl rfl rfl rfl (fun σ => ?_)
  repeat (first|(refine jl ?_;first|refine j1 ?_|refine j2 ?_|refine j3 ?_|refine j3f ?_|refine j4 ?_|refine j5 ?_|refine j6 ?_|refine j12 (fun id hid=>?_)|refine j13 (fun id hid=>?_)|refine j14 ?_|refine j15 ?_|refine j17 ?_)|(refine jc ?_;first|refine c1 ?_|refine c2 ?_|refine c3 ?_|refine c4 ?_|refine cj_yes rfl ?_|refine cj_no rfl ?_|refine c5 ?_|refine c6 ?_|refine c7 ?_|refine c8 ?_)|refine n1 ?_|refine n2 ?_|refine n3 ?_|refine n4 ?_|refine n5 ?_|refine n6 ?_|refine n7 ?_|refine n8 ?_|refine n9 ?_|refine n10 ?_|refine n13 ?_|refine n11 ?_|refine n12 ?_|refine n14 ?_|refine n15 ?_|refine n16 ?_)
  refine lj_pure rfl rfl rfl p_err0 ?_
  repeat (first|(refine jl ?_;first|refine j1 ?_|refine j2 ?_|refine j3 ?_|refine j3f ?_|refine j4 ?_|refine j5 ?_|refine j6 ?_|refine j12 (fun id hid=>?_)|refine j13 (fun id hid=>?_)|refine j14 ?_|refine j15 ?_|refine j17 ?_)|(refine jc ?_;first|refine c1 ?_|refine c2 ?_|refine c3 ?_|refine c4 ?_|refine cj_yes rfl ?_|refine cj_no rfl ?_|refine c5 ?_|refine c6 ?_|refine c7 ?_|refine c8 ?_)|refine n1 ?_|refine n2 ?_|refine n3 ?_|refine n4 ?_|refine n5 ?_|refine n6 ?_|refine n7 ?_|refine n8 ?_|refine n9 ?_|refine n10 ?_|refine n13 ?_|refine n11 ?_|refine n12 ?_|refine n14 ?_|refine n15 ?_|refine n16 ?_)
  exact gives (St.le_refl _) (Fin.refl _ _ _)
def rsigned (l : List UInt8) (e : Int) : Int × List UInt8 × Int := if e ≠ 0 then (0, l, e) else if (signedN l).2 ≠ 0 then (0, l, (signedN l).2) else ((signedN l).1, l.drop 6, 0)
theorem signedN_ok {l : List UInt8} (h : (signedN l).2 = 0) : 6 ≤ l.length := by
  unfold signedN at h
  split at h
  · simp at h
  · omega
theorem p_rdsigned {σ : St} {id : Nat} {l : List UInt8} {e : Int} (hid : σ id = some (rd l e)) : ACalls Tryd.prog 38 [.ptr id 2 0 0] σ (Leaves (σ.set id (rd (rsigned l e).2.1 (rsigned l e).2.2)) (.v (.int .i64 (rsigned l e).1))) := by
  refine enterS Tryd.func38 rfl rfl rfl rfl ?_
  repeat (first|(refine jl ?_;first|refine j1 ?_|refine j2 ?_|refine j3 ?_|refine j3f ?_|refine j4 ?_|refine j5 ?_|refine j6 ?_|refine j12 (fun id hid=>?_)|refine j13 (fun id hid=>?_)|refine j14 ?_|refine j15 ?_|refine j17 ?_)|(refine jc ?_;first|refine c1 ?_|refine c2 ?_|refine c3 ?_|refine c4 ?_|refine cj_yes rfl ?_|refine cj_no rfl ?_|refine c5 ?_|refine c6 ?_|refine c7 ?_|refine c8 ?_)|refine n1 ?_|refine n2 ?_|refine n3 ?_|refine n4 ?_|refine n5 ?_|refine n6 ?_|refine n7 ?_|refine n8 ?_|refine n9 ?_|refine n10 ?_|refine n13 ?_|refine n11 ?_|refine n12 ?_|refine n14 ?_|refine n15 ?_|refine n16 ?_)
  refine lj_to rfl rfl rfl (p_err hid) ?_
  repeat' (first | (first|(refine jl ?_;first|refine j1 ?_|refine j2 ?_|refine j3 ?_|refine j3f ?_|refine j4 ?_|refine j5 ?_|refine j6 ?_|refine j12 (fun id hid=>?_)|refine j13 (fun id hid=>?_)|refine j14 ?_|refine j15 ?_|refine j17 ?_)|(refine jc ?_;first|refine c1 ?_|refine c2 ?_|refine c3 ?_|refine c4 ?_|refine cj_yes rfl ?_|refine cj_no rfl ?_|refine c5 ?_|refine c6 ?_|refine c7 ?_|refine c8 ?_)|refine n1 ?_|refine n2 ?_|refine n3 ?_|refine n4 ?_|refine n5 ?_|refine n6 ?_|refine n7 ?_|refine n8 ?_|refine n9 ?_|refine n10 ?_|refine n13 ?_|refine n11 ?_|refine n12 ?_|refine n14 ?_|refine n15 ?_|refine n16 ?_) | ((fail_if_success refine lj_gt rfl rfl ?_); (fail_if_success refine lj_gf rfl rfl ?_); ((refine lj_gcase rfl rfl (fun h => ?_) (fun h => ?_)) <;> (try (exfalso; simp at h; done)))) | (refine c9 (fun h=>?_) (fun h=>?_) <;> (try (exfalso; simp at h; done))))
  · have he : e ≠ 0 := by simpa using h
    rw [rsigned, if_pos he, St.set_id hid]
    exact gives (St.le_refl _) (Fin.refl _ _ _)
  · have he : e = 0 := by simpa using h
    subst he
    refine lj_pure rfl rfl rfl (p_signed _ _ _) ?_
    repeat (first|(refine jl ?_;first|refine j1 ?_|refine j2 ?_|refine j3 ?_|refine j3f ?_|refine j4 ?_|refine j5 ?_|refine j6 ?_|refine j12 (fun id hid=>?_)|refine j13 (fun id hid=>?_)|refine j14 ?_|refine j15 ?_|refine j17 ?_)|(refine jc ?_;first|refine c1 ?_|refine c2 ?_|refine c3 ?_|refine c4 ?_|refine cj_yes rfl ?_|refine cj_no rfl ?_|refine c5 ?_|refine c6 ?_|refine c7 ?_|refine c8 ?_)|refine n1 ?_|refine n2 ?_|refine n3 ?_|refine n4 ?_|refine n5 ?_|refine n6 ?_|refine n7 ?_|refine n8 ?_|refine n9 ?_|refine n10 ?_|refine n13 ?_|refine n11 ?_|refine n12 ?_|refine n14 ?_|refine n15 ?_|refine n16 ?_)
    rw [rsigned, if_neg (by decide)]
    by_cases hf : (signedN l).2 = 0
    · rw [if_neg (by simpa using hf), hf]
      refine lj_to rfl rfl rfl (p_took (u := 6) hid (signedN_ok hf)) ?_
      repeat (first|(refine jl ?_;first|refine j1 ?_|refine j2 ?_|refine j3 ?_|refine j3f ?_|refine j4 ?_|refine j5 ?_|refine j6 ?_|refine j12 (fun id hid=>?_)|refine j13 (fun id hid=>?_)|refine j14 ?_|refine j15 ?_|refine j17 ?_)|(refine jc ?_;first|refine c1 ?_|refine c2 ?_|refine c3 ?_|refine c4 ?_|refine cj_yes rfl ?_|refine cj_no rfl ?_|refine c5 ?_|refine c6 ?_|refine c7 ?_|refine c8 ?_)|refine n1 ?_|refine n2 ?_|refine n3 ?_|refine n4 ?_|refine n5 ?_|refine n6 ?_|refine n7 ?_|refine n8 ?_|refine n9 ?_|refine n10 ?_|refine n13 ?_|refine n11 ?_|refine n12 ?_|refine n14 ?_|refine n15 ?_|refine n16 ?_)
      exact gives (St.le_refl _) (Fin.refl _ _ _)
    · rw [if_pos hf]
      refine lj_to rfl rfl rfl (p_took_bad hid hf) ?_
      repeat (first|(refine jl ?_;first|refine j1 ?_|refine j2 ?_|refine j3 ?_|refine j3f ?_|refine j4 ?_|refine j5 ?_|refine j6 ?_|refine j12 (fun id hid=>?_)|refine j13 (fun id hid=>?_)|refine j14 ?_|refine j15 ?_|refine j17 ?_)|(refine jc ?_;first|refine c1 ?_|refine c2 ?_|refine c3 ?_|refine c4 ?_|refine cj_yes rfl ?_|refine cj_no rfl ?_|refine c5 ?_|refine c6 ?_|refine c7 ?_|refine c8 ?_)|refine n1 ?_|refine n2 ?_|refine n3 ?_|refine n4 ?_|refine n5 ?_|refine n6 ?_|refine n7 ?_|refine n8 ?_|refine n9 ?_|refine n10 ?_|refine n13 ?_|refine n11 ?_|refine n12 ?_|refine n14 ?_|refine n15 ?_|refine n16 ?_)
      exact gives (St.le_refl _) (Fin.refl _ _ _)
theorem p_rdsigned0 : Pure Tryd.prog 38 [.v (.pointer none)] (.v (.int .i64 0)) := by
  refine enterW Tryd.func38 rfl rfl rfl rfl (fun σ => ?_)
  repeat (first|(refine jl ?_;first|refine j1 ?_|refine j2 ?_|refine j3 ?_|refine j3f ?_|refine j4 ?_|refine j5 ?_|refine j6 ?_|refine j12 (fun id hid=>?_)|refine j13 (fun id hid=>?_)|refine j14 ?_|refine j15 ?_|refine j17 ?_)|(refine jc ?_;first|refine c1 ?_|refine c2 ?_|refine c3 ?_|refine c4 ?_|refine cj_yes rfl ?_|refine cj_no rfl ?_|refine c5 ?_|refine c6 ?_|refine c7 ?_|refine c8 ?_)|refine n1 ?_|refine n2 ?_|refine n3 ?_|refine n4 ?_|refine n5 ?_|refine n6 ?_|refine n7 ?_|refine n8 ?_|refine n9 ?_|refine n10 ?_|refine n13 ?_|refine n11 ?_|refine n12 ?_|refine n14 ?_|refine n15 ?_|refine n16 ?_)
  refine lj_pure rfl rfl rfl p_err0 ?_
  repeat (first|(refine jl ?_;first|refine j1 ?_|refine j2 ?_|refine j3 ?_|refine j3f ?_|refine j4 ?_|refine j5 ?_|refine j6 ?_|refine j12 (fun id hid=>?_)|refine j13 (fun id hid=>?_)|refine j14 ?_|refine j15 ?_|refine j17 ?_)|(refine jc ?_;first|refine c1 ?_|refine c2 ?_|refine c3 ?_|refine c4 ?_|refine cj_yes rfl ?_|refine cj_no rfl ?_|refine c5 ?_|refine c6 ?_|refine c7 ?_|refine c8 ?_)|refine n1 ?_|refine n2 ?_|refine n3 ?_|refine n4 ?_|refine n5 ?_|refine n6 ?_|refine n7 ?_|refine n8 ?_|refine n9 ?_|refine n10 ?_|refine n13 ?_|refine n11 ?_|refine n12 ?_|refine n14 ?_|refine n15 ?_|refine n16 ?_)
  exact gives (St.le_refl _) (Fin.refl _ _ _)
def rdone (l : List UInt8) (e : Int) : Int := if e ≠ 0 then e else if l = [] then 0 else 4
end Go.Proofs.YtledbkkaaomjpabDoor.Ab
