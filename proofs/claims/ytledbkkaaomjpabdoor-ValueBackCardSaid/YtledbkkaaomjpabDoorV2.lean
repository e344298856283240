/- Values: signs of preds, the code points of words. -/
import Derived.Test.YtledbkkaaomjpabDoorV1
set_option linter.unusedVariables false
set_option linter.unusedSimpArgs false
namespace Go.Proofs.YtledbkkaaomjpabDoor.Ab
open Go
attribute [local irreducible] thn inb endR CJ LJ OpJ DJ

theorem p_signv (p : Int) (h0 : 0 ≤ p) (h1 : p < 256) : Pure Tryd.prog 19 [.v (.int .u8 p)] (.v (.string (signS p))) := by
  refine enterW Tryd.func19 rfl rfl rfl rfl (fun σ => ?_)
  have hw : IntKind.i64.wrap p = p := by rw [IntKind.wrap_i64]; omega
  repeat (first|(refine jl ?_;first|refine j1 ?_|refine j2 ?_|refine j3 ?_|refine j3f ?_|refine j4 ?_|refine j5 ?_|refine j6 ?_|refine j12 (fun id hid=>?_)|refine j13 (fun id hid=>?_)|refine j14 ?_|refine j15 ?_|refine j17 ?_)|(refine jc ?_;first|refine c1 ?_|refine c2 ?_|refine c3 ?_|refine c4 ?_|refine cj_yes rfl ?_|refine cj_no rfl ?_|refine c5 ?_|refine c6 ?_|refine c7 ?_|refine c8 ?_)|refine n1 ?_|refine n2 ?_|refine n3 ?_|refine n4 ?_|refine n5 ?_|refine n6 ?_|refine n7 ?_|refine n8 ?_|refine n9 ?_|refine n10 ?_|refine n13 ?_|refine n11 ?_|refine n12 ?_|refine n14 ?_|refine n15 ?_|refine n16 ?_)
  refine lj_v rfl (fun R hR => opj_build_arr (n := 6) rfl rfl rfl rfl rfl rfl hR) ?_
  repeat (first|(refine jl ?_;first|refine j1 ?_|refine j2 ?_|refine j3 ?_|refine j3f ?_|refine j4 ?_|refine j5 ?_|refine j6 ?_|refine j12 (fun id hid=>?_)|refine j13 (fun id hid=>?_)|refine j14 ?_|refine j15 ?_|refine j17 ?_)|(refine jc ?_;first|refine c1 ?_|refine c2 ?_|refine c3 ?_|refine c4 ?_|refine cj_yes rfl ?_|refine cj_no rfl ?_|refine c5 ?_|refine c6 ?_|refine c7 ?_|refine c8 ?_)|refine n1 ?_|refine n2 ?_|refine n3 ?_|refine n4 ?_|refine n5 ?_|refine n6 ?_|refine n7 ?_|refine n8 ?_|refine n9 ?_|refine n10 ?_|refine n13 ?_|refine n11 ?_|refine n12 ?_|refine n14 ?_|refine n15 ?_|refine n16 ?_)
  rw [hw]
  repeat' (first | (first|(refine jl ?_;first|refine j1 ?_|refine j2 ?_|refine j3 ?_|refine j3f ?_|refine j4 ?_|refine j5 ?_|refine j6 ?_|refine j12 (fun id hid=>?_)|refine j13 (fun id hid=>?_)|refine j14 ?_|refine j15 ?_|refine j17 ?_)|(refine jc ?_;first|refine c1 ?_|refine c2 ?_|refine c3 ?_|refine c4 ?_|refine cj_yes rfl ?_|refine cj_no rfl ?_|refine c5 ?_|refine c6 ?_|refine c7 ?_|refine c8 ?_)|refine n1 ?_|refine n2 ?_|refine n3 ?_|refine n4 ?_|refine n5 ?_|refine n6 ?_|refine n7 ?_|refine n8 ?_|refine n9 ?_|refine n10 ?_|refine n13 ?_|refine n11 ?_|refine n12 ?_|refine n14 ?_|refine n15 ?_|refine n16 ?_) | ((fail_if_success refine lj_gt rfl rfl ?_); (fail_if_success refine lj_gf rfl rfl ?_); ((refine lj_gcase rfl rfl (fun h => ?_) (fun h => ?_)) <;> (try (exfalso; simp at h; done)))) | (refine c9 (fun h=>?_) (fun h=>?_) <;> (try (exfalso; simp at h; done))))
  · simp only [decide_eq_true_eq] at h
    refine gives (by rw [St.set_set]; exact St.le_set _ (by assumption)) (fin_one (.wk (Wk.of_eq ?_)))
    unfold signS
    rw [if_neg (by omega), if_neg (by omega), if_neg (by omega), if_neg (by omega), if_neg (by omega), if_neg (by omega)]
  · simp only [decide_eq_false_iff_not] at h
    have hp : p = 0 ∨ p = 1 ∨ p = 2 ∨ p = 3 ∨ p = 4 ∨ p = 5 := by omega
    refine lj_v rfl (fun R hR => opj_indexAddr_arr (n := 6) rfl rfl rfl rfl rfl h0 (by omega) hR) ?_
    rcases hp with rfl | rfl | rfl | rfl | rfl | rfl
    all_goals
      repeat (first|(refine jl ?_;first|refine j1 ?_|refine j2 ?_|refine j3 ?_|refine j3f ?_|refine j4 ?_|refine j5 ?_|refine j6 ?_|refine j12 (fun id hid=>?_)|refine j13 (fun id hid=>?_)|refine j14 ?_|refine j15 ?_|refine j17 ?_)|(refine jc ?_;first|refine c1 ?_|refine c2 ?_|refine c3 ?_|refine c4 ?_|refine cj_yes rfl ?_|refine cj_no rfl ?_|refine c5 ?_|refine c6 ?_|refine c7 ?_|refine c8 ?_)|refine n1 ?_|refine n2 ?_|refine n3 ?_|refine n4 ?_|refine n5 ?_|refine n6 ?_|refine n7 ?_|refine n8 ?_|refine n9 ?_|refine n10 ?_|refine n13 ?_|refine n11 ?_|refine n12 ?_|refine n14 ?_|refine n15 ?_|refine n16 ?_)
      exact gives (by rw [St.set_set]; exact St.le_set _ (by assumption)) (fin_one (.wk (Wk.of_eq rfl)))
def inP (c : Int) : Prop := 128 ≤ c ∨ (97 ≤ c ∧ c ≤ 122) ∨ (65 ≤ c ∧ c ≤ 90) ∨ (48 ≤ c ∧ c ≤ 57) ∨ c = 95 ∨ c = 45 ∨ c = 63 ∨ c = 33 ∨ c = 43 ∨ c = 42 ∨ c = 46
instance (c : Int) : Decidable (inP c) := by unfold inP; exact inferInstance
theorem in_yes {c : Int} (h : inP c) : Wk (.v (.bool true)) (.v (.bool (decide (inP c)))) := Wk.of_eq (by rw [decide_eq_true h])
theorem in_no {c : Int} (h : ¬ inP c) : Wk (.v (.bool false)) (.v (.bool (decide (inP c)))) := Wk.of_eq (by rw [decide_eq_false h])
end Go.Proofs.YtledbkkaaomjpabDoor.Ab
