/- The statement Rows.OrderSortsSaid: whatever the input, the law returns true, and the input reads as it did. Conditions: none. -/
import Derived.Test.YtbpoeggmpjepfaaM1
import Derived.Test.YtbpoeggmpjepfaaM2
import Derived.Test.YtbpoeggmpjepfaaM3
import Derived.Test.YtbpoeggmpjepfaaM4
import Derived.Test.YtbpoeggmpjepfaaM5
import Derived.Test.YtbpoeggmpjepfaaM6
import Derived.Test.YtbpoeggmpjepfaaM7
import Derived.Test.YtbpoeggmpjepfaaM8
namespace Go.Proofs.Ytbpoeggmpjepfaa
open Go Go.ChangeShapes Go.WideShapes Go.ChangeAt Go.RowKit Go.Lib
set_option linter.unusedVariables false
set_option linter.unusedSimpArgs false

theorem orderSorts_own : ownKnob Try.prog.godebug = none := by kernel_rfl
theorem orderSorts_laid : laidOutB Try.prog = true := by kernel_rfl
noncomputable def orderSorts_args : Array Value := #[((Try.prog.info? 25).bind (·.zero)).getD undef, ((Try.prog.info? 5).bind (·.zero)).getD undef, ((Try.prog.info? 26).bind (·.zero)).getD undef]
set_option maxRecDepth 100000 in
set_option maxHeartbeats 2000000 in
theorem orderSorts_lifted (os : Os) (started : os.Started) (H : Type) (enc : TypeId × Value → H) :
    ReturnsInHanded {} Try.checked os 3 .any (Rows.orderSortsSpec.pre6 enc Try.prog Try.f3 Rows.orderSortsRow.domain false) (Rows.orderSortsSpec.post enc Try.prog Try.f3 false true false false) := by
  refine returnsInHanded_of_change (C := Try.checked) orderSorts_own started (by kernel_rfl) Try.func3
    (ChangeSpec.witness6 (enc := enc) (C := Try.checked) false ⟨#[], orderSorts_args, []⟩ 8 (by kernel_rfl) (by kernel_rfl) (by kernel_rfl) (by kernel_rfl)) ?_
  intro W base args ds gs before hval0 hW hcnd _
  have hval : ∀ (j : Nat) t v, Try.f3.params[j]? = some t → args[j]? = some v → Value.okWide Try.prog W .any base t v := hval0
  have hW' := hW
  obtain ⟨p, q, hA0, hV, rfl, hfz, hnd⟩ := hW
  have hA : DataW.TrodAll enc Try.prog W 0 (fun _ => true) true Try.f3.params.toList args.toList ds p := hA0
  rw [Try.params3] at hA hval
  obtain ⟨v0, vs0, d0, ds0, p0, q0, hargs, rfl, rfl, h0, r0⟩ := trodAll_cons hA
  obtain ⟨v1, vs1, d1, ds1, p1, q1, rfl, rfl, rfl, h1, r1⟩ := trodAll_cons r0
  obtain ⟨v2, vs2, d2, ds2, p2, q2, rfl, rfl, rfl, h2, r2⟩ := trodAll_cons r1
  obtain ⟨rfl, rfl, rfl⟩ := trodAll_nil r2
  obtain rfl : args = #[v0, v1, v2] := by cases args; simp_all
  obtain ⟨rfl, rfl⟩ := trodVars_none hV
  have lt0 : ∀ x ∈ p0, x.block < W.heap.size := by obtain ⟨m, hm⟩ := h0; exact DataW.trod_lt m _ _ _ hm
  obtain ⟨avs0, is0, rep0⟩ := Ab.open_arg (n := 14) (t := 25) (by kernel_rfl) (hval 0 25 v0 rfl rfl) h0
  have lt1 : ∀ x ∈ p1, x.block < W.heap.size := by obtain ⟨m, hm⟩ := h1; exact DataW.trod_lt m _ _ _ hm
  obtain ⟨avs1, is1, rep1⟩ := Ab.open_arg (n := 14) (t := 5) (by kernel_rfl) (hval 1 5 v1 rfl rfl) h1
  have lt2 : ∀ x ∈ p2, x.block < W.heap.size := by obtain ⟨m, hm⟩ := h2; exact DataW.trod_lt m _ _ _ hm
  obtain ⟨avs2, is2, rep2⟩ := Ab.open_arg (n := 14) (t := 26) (by kernel_rfl) (hval 2 26 v2 rfl rfl) h2
  obtain ⟨p, rfl, _⟩ := Ab.o7_prg is0
  obtain ⟨how, rfl, _⟩ := Ab.open_u8 is1
  obtain ⟨l, rfl⟩ := Ab.open_insl is2
  have hlaw := Ab.l_orderSorts p how l
  refine (Ab.pure_start hlaw W trivial [v0, v1, v2] (Ab.reps_cons rep0 (Ab.reps_cons rep1 (Ab.reps_cons rep2 (Ab.reps_nil _))))).mono fun e W2 ⟨he, bel⟩ => ?_
  subst he
  exact ⟨_, rfl, _, _, _, [], _, [], hW', trodAll_mk1 (shut_bool Try.underlying4 _), (trodAll_cons_mk (Below.trod orderSorts_laid (by kernel_rfl) (of_decide_eq_true (by kernel_rfl)) h0 bel lt0) (trodAll_cons_mk (Below.trod orderSorts_laid (by kernel_rfl) (of_decide_eq_true (by kernel_rfl)) h1 bel lt1) (trodAll_cons_mk (Below.trod orderSorts_laid (by kernel_rfl) (of_decide_eq_true (by kernel_rfl)) h2 bel lt2) trodAll_mk0))), rfl, bel.frame _, fun h => by cases h⟩
theorem orderSorts_over : Rows.orderSortsRow.holds Try.pinned (OpenSpec.ofChange Rows.orderSortsSpec) :=
  OpenClaim.holds_of_wide 3 Try.f3 rfl rfl rfl rfl rfl rfl rfl ⟨rfl, rfl, rfl, rfl, rfl⟩ rfl rfl rfl rfl rfl (by kernel_rfl) Try.func3 (by kernel_rfl)
    (of_decide_eq_true (by kernel_rfl)) (by unfold Func.isWrapper; first | (rw [if_pos (by decide +kernel)]; kernel_rfl) | (rw [if_neg (by decide +kernel)]; exact ⟨rfl, rfl⟩))
    (fun os started H enc _ => orderSorts_lifted os started H enc)
/-- The statement. -/
theorem orderSorts_proved : Rows.OrderSortsSaid := orderSorts_over
#print axioms orderSorts_proved
end Go.Proofs.Ytbpoeggmpjepfaa
