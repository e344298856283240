/- The statement Rows.ActTagsCardSaid: whatever the input, the law returns true, and the input reads as it did. Conditions: none. -/
import Derived.Test.YtbpoeggmpjepfaaDoorM1
import Derived.Test.YtbpoeggmpjepfaaDoorM2
import Derived.Test.YtbpoeggmpjepfaaDoorM3
import Derived.Test.YtbpoeggmpjepfaaDoorM4
import Derived.Test.YtbpoeggmpjepfaaDoorM5
import Derived.Test.YtbpoeggmpjepfaaDoorM6
import Derived.Test.YtbpoeggmpjepfaaDoorM7
import Derived.Test.YtbpoeggmpjepfaaDoorM8
import Derived.Test.YtbpoeggmpjepfaaDoorM9
import Derived.Test.YtbpoeggmpjepfaaDoorM10
import Derived.Test.YtbpoeggmpjepfaaDoorM11
import Derived.Test.YtbpoeggmpjepfaaDoorTie
import Derived.Test.YtbpoeggmpjepfaaDoorCards
import Derived.SevenTiedAt
import Derived.Lib.LaidIn
import Derived.Lib.LaidU8T
import Derived.Deep.DeepHandedRow
import Derived.Deep.DeepWitnessRowRef
import Derived.ProofKit
import Derived.SizedLaws
namespace Go.Proofs.YtbpoeggmpjepfaaDoor
open Go Go.ChangeShapes Go.WideShapes Go.ChangeAt Go.RowKit Go.Lib
set_option linter.unusedVariables false
set_option linter.unusedSimpArgs false

theorem actTags_own : ownKnob Tryd.prog.godebug = none := by kernel_rfl
theorem actTags_laid : laidOutB Tryd.prog = true := by kernel_rfl
noncomputable def actTags_args : Array Value := #[((Tryd.prog.info? 44).bind (·.zero)).getD undef, ((Tryd.prog.info? 48).bind (·.zero)).getD undef]
/-- The settled world, the tables of unicode/utf8 laid. -/
noncomputable def laidWorld (os : Os) : World :=
  let w0 := World.holding Tryd.prog os ⟨#[], #[], []⟩
  let put (h : Array Obj) (g : Nat) (cs : Array Value) : Array Obj := h.modify g fun
    | .cells _ t frozen => .cells cs t frozen
    | o => o
  let h1 := put w0.heap 0 (Lib.firstTab.map fun z => Value.int .u8 z).toArray
  let h2 := put h1 1 ((List.range 16).flatMap fun i => [Value.int .u8 (Lib.accLo i), Value.int .u8 (Lib.accHi i)]).toArray
  { w0 with heap := h2 }
set_option maxRecDepth 100000 in
theorem actTags_met (os : Os) (args : Array Value) : laidMet Tryd.prog Rows.actTagsRow.laid ((laidWorld os).forCall (fun _ _ => 0) ⟨#[], args, []⟩).memory :=
  (LaidIn.of_run (l := [("unicode/utf8.acceptRanges", Lib.acceptData), ("unicode/utf8.first", Lib.firstData)]) [1, 0] 8 (by kernel_rfl) (by kernel_rfl) (by kernel_rfl) (by kernel_rfl)).met
set_option maxRecDepth 100000 in
theorem actTags_witness (os : Os) {H : Type} (enc : TypeId × Value → H) :
    (OpenSpec.ofChange Rows.actTagsSpec).preRow enc Tryd.prog Tryd.f4 Rows.actTagsRow.domain false Rows.actTagsRow.laid ((laidWorld os).forCall (fun _ _ => 0) ⟨#[], actTags_args, []⟩).memory actTags_args := by
  have hw : ((DataW.whole enc Tryd.prog ((laidWorld os).forCall (fun _ _ => 0) ⟨#[], actTags_args, []⟩).memory Tryd.f4.params.toList (OpenSpec.ofChange Rows.actTagsSpec).vars false actTags_args.toList 8).map (fun x => x.2.1)) = some [] := by kernel_rfl
  obtain ⟨⟨x1, x2, x3⟩, hx, hx1⟩ := Option.map_eq_some_iff.1 hw
  simp only at hx1
  subst hx1
  exact OpenSpec.preRow_of_cond 8 hx (by kernel_rfl) (fun k hk => by cases hk) (by kernel_rfl) (actTags_met os _)
set_option maxRecDepth 100000 in
set_option maxHeartbeats 2000000 in
theorem actTags_lifted (os : Os) (started : os.Started) (H : Type) (enc : TypeId × Value → H) (FF : Stop.Interp) :
    ReturnsInHanded {} Tryd.checked os 4 .any ((OpenSpec.ofChange Rows.actTagsSpec).preRow enc Tryd.prog Tryd.f4 Rows.actTagsRow.domain false Rows.actTagsRow.laid) (((OpenSpec.ofChange Rows.actTagsSpec).at FF).post enc Tryd.prog Tryd.f4 false true false false) := by
  refine returnsInHanded_of_row (C := Tryd.checked) (s := OpenSpec.ofChange Rows.actTagsSpec) actTags_own started (by kernel_rfl) Tryd.func4
    (witness_row_atRef (enc := enc) (C := Tryd.checked) false (laidWorld os) actTags_args rfl (by kernel_rfl) (by kernel_rfl) (by kernel_rfl) (actTags_witness os enc)) ?_
  intro W base args ds gs before hval0 hW _ _ _ hL _ _
  have hval : ∀ (j : Nat) t v, Tryd.f4.params[j]? = some t → args[j]? = some v → Value.okWide Tryd.prog W .any base t v := hval0
  have hW' := hW
  obtain ⟨p, q, hA0, hV, rfl, hfz, hnd⟩ := hW
  have hA : DataW.TrodAll enc Tryd.prog W 0 (fun _ => true) true Tryd.f4.params.toList args.toList ds p := hA0
  rw [Tryd.params4] at hA hval
  obtain ⟨v0, vs0, d0, ds0, p0, q0, hargs, rfl, rfl, h0, r0⟩ := trodAll_cons hA
  obtain ⟨v1, vs1, d1, ds1, p1, q1, rfl, rfl, rfl, h1, r1⟩ := trodAll_cons r0
  obtain ⟨rfl, rfl, rfl⟩ := trodAll_nil r1
  obtain rfl : args = #[v0, v1] := by cases args; simp_all
  obtain ⟨rfl, rfl⟩ := trodVars_none hV
  have lt0 : ∀ x ∈ p0, x.block < W.heap.size := by obtain ⟨m, hm⟩ := h0; exact DataW.trod_lt m _ _ _ hm
  obtain ⟨avs0, is0, rep0⟩ := Ab.open_arg (n := 14) (t := 44) (by kernel_rfl) (hval 0 44 v0 rfl rfl) h0
  have lt1 : ∀ x ∈ p1, x.block < W.heap.size := by obtain ⟨m, hm⟩ := h1; exact DataW.trod_lt m _ _ _ hm
  obtain ⟨avs1, is1, rep1⟩ := Ab.open_arg (n := 14) (t := 48) (by kernel_rfl) (hval 1 48 v1 rfl rfl) h1
  have htab : ((∀ c, c < 256 → W.cell? ⟨0, c, none⟩ = some (.int .u8 (Lib.firstT c))) ∧ (∀ i, i < 16 → W.cell? ⟨1, 2 * i, none⟩ = some (.int .u8 (Lib.accLo i)) ∧ W.cell? ⟨1, 2 * i + 1, none⟩ = some (.int .u8 (Lib.accHi i)))) :=
    utf8Tabs_of_readsT (Go.Proofs.U8Types.of196 Tryd.laysValid) ⟨by kernel_rfl, by kernel_rfl, by kernel_rfl, by kernel_rfl, by kernel_rfl, by kernel_rfl, by kernel_rfl⟩ (Lib.laidMet.reads hL (.tail _ (.head _))) (Lib.laidMet.reads hL (.head _))
  have hgr : Ab.Ground W.heap.size W := ⟨htab, (Ab.cell_plain (htab.2 0 (by omega)).1).2⟩
  obtain ⟨p, rfl, _⟩ := Ab.o7_prg is0
  obtain ⟨l, t, m, rfl⟩ := Ab.open_m27 is1
  have hlaw := Ab.l_actTags p l t m
  refine (Ab.pure_start hlaw W hgr [v0, v1] (Ab.reps_cons rep0 (Ab.reps_cons rep1 (Ab.reps_nil _)))).mono fun e W2 ⟨he, bel⟩ => ?_
  subst he
  exact ⟨_, rfl, _, _, _, [], _, [], hW', trodAll_mk1 (shut_bool Tryd.underlying4 _), (trodAll_cons_mk (Below.trod actTags_laid (by kernel_rfl) (of_decide_eq_true (by kernel_rfl)) h0 bel lt0) (trodAll_cons_mk (Below.trod actTags_laid (by kernel_rfl) (of_decide_eq_true (by kernel_rfl)) h1 bel lt1) trodAll_mk0)), rfl, bel.frame _, fun h => by cases h⟩
theorem actTags_over : Rows.ActTagsSaid :=
  OpenClaim.holds_of_cond 4 Tryd.f4 rfl rfl rfl rfl rfl rfl rfl ⟨rfl, rfl, rfl, rfl, rfl⟩ rfl rfl rfl rfl rfl (by kernel_rfl) Tryd.func4 (by kernel_rfl)
    (of_decide_eq_true (by kernel_rfl)) (by unfold Func.isWrapper; first | (rw [if_pos (by decide +kernel)]; kernel_rfl) | (rw [if_neg (of_decide_eq_false (by kernel_rfl))]; exact ⟨rfl, rfl⟩))
    (fun os started H enc _ F0 => by rw [OpenClaim.pre_eq_preRow]; exact actTags_lifted os started H enc F0)
/-- The statement. -/
theorem actTags_proved : Rows.ActTagsCardSaid :=
  Claim7.holds_tied_plain_at .later [] [.data, .pinned] true (true, "fa65fadc9d7b6e85c19613053693eadf765be6eb1a5acfc4c87b4581eb27c806") false
    actTags_over (fun _ h => by cases h) (by kernel_rfl) (fun _ h => by cases h) actTags_row_tie rfl ⟨rfl, rfl⟩ (by kernel_rfl) rfl
    (fun f fn hf hfn => by
      obtain rfl : f = 4 := Option.some.inj ((show Tryd.prog.funcNamed "intarsia/intarsialaw27.ActTags" = some 4 by kernel_rfl).symm.trans hf) |>.symm
      obtain rfl : fn = Tryd.f4 := (Option.some.inj (Tryd.func4.symm.trans hfn)).symm
      refine ⟨by kernel_rfl, fun j t ht => ?_⟩
      rw [Tryd.params4] at ht
      have ht2 : t ∈ [44, 48] := by
        have := List.mem_of_getElem? (show [44, 48][j]? = some t by simpa using ht)
        exact this
      simp only [List.mem_cons, List.not_mem_nil, or_false] at ht2
      rcases ht2 with rfl | rfl
      · exact (show Tryd.prog.wantsStandIn 44 = false by kernel_rfl)
      · exact (show Tryd.prog.wantsStandIn 48 = false by kernel_rfl))
    (by kernel_rfl)
#print axioms actTags_proved
end Go.Proofs.YtbpoeggmpjepfaaDoor
