/- The texts RE, RF, RG, RH, RI, G1, G2, G3, O1, O8, one behind the other. -/
import Derived.Test.YtbpoeggmpjepfaaDoorM1
import Derived.Test.YtbpoeggmpjepfaaDoorM2
import Derived.Test.YtbpoeggmpjepfaaDoorM3
import Derived.Test.YtbpoeggmpjepfaaDoorM4
import Derived.Test.YtbpoeggmpjepfaaDoorM5
import Derived.Test.YtbpoeggmpjepfaaDoorM6
import Derived.Test.YtbpoeggmpjepfaaDoorM7
import Derived.Test.YtbpoeggmpjepfaaDoorM8
import Derived.Test.YtbpoeggmpjepfaaDoorM9
import Derived.Test.YtbpoeggmpjepfaaDoorRows
import Derived.WalkKit
import Derived.ProofKit
import Derived.OpenShut
import Derived.ChangeOld
import Derived.Below
import Derived.Lib.SmallJoins
/- What a rule does: what every right program does. -/
set_option linter.unusedVariables false
set_option linter.unusedSimpArgs false
set_option maxRecDepth 20000
namespace Go.Proofs.YtbpoeggmpjepfaaDoor.Ab
open Go
attribute [local irreducible] thn inb endR CJ LJ OpJ DJ DA DB AllocK r3
def kindE : Eff → Int
  | .made _ => 0
  | .removed _ => 1
  | .wrote _ => 2
  | .halted => 3
def tagE : Eff → Int
  | .removed t => t
  | _ => 0
def lineE : Eff → ByteArray
  | .wrote s => s
  | _ => ⟨#[]⟩
def factE : Eff → Fc
  | .made f => f
  | _ => noFc
def fcE : Eff → List AV
  | .made f => fc f
  | _ => zeroFc
theorem wk_fcE (e : Eff) : Wk (.agg (fcE e)) (.agg (fc (factE e))) := by
  cases e
  · exact Wk.refl _
  all_goals exact Wk.agg ⟨Wk.refl _, Wk.refl _, Wk.nil _ _ _ _, trivial⟩
def sameEff (x y : Eff) : Bool := decide (kindE x = kindE y) && decide (tagE x = tagE y) && decide (lineE x = lineE y) && sameF (factE x) (factE y)
def sameEffs : List Eff → List Eff → Bool
  | [], [] => true
  | x :: l, y :: m => sameEff x y && sameEffs l m
  | _, _ => false
set_option maxHeartbeats 4000000 in
theorem p_same1 (x y : Eff) : Pure Tryd.prog 35 [.agg (efc x), .agg (efc y)] (.v (.bool (sameEff x y))) := by
  refine enterW Tryd.func35 rfl rfl rfl rfl (fun σ => ?_)
  have k1 : Pure Tryd.prog 36 [.agg (fcE x), .agg (fcE y)] (.v (.bool (sameF (factE x) (factE y)))) := Pure.wka (bs := _) (p_csame (factE x) (factE y)) (show WkL [.agg (fcE x), .agg (fcE y)] _ from ⟨wk_fcE x, wk_fcE y, trivial⟩)
  unfold sameEff
  generalize hS : sameF (factE x) (factE y) = S at k1 ⊢
  cases x <;> cases y
  all_goals
    repeat' (first|(first|(refine jl ?_;first|refine j8 ?_|refine j1 ?_|refine j4 ?_|refine j9 ?_|refine j12 (fun id hid=>?_)|refine j14 ?_|refine j16 ?_|refine jcq (hp:=fun hc=>k1) ?_)|(refine jc ?_;first|refine c1 ?_|refine c2 ?_|refine c7 ?_)|refine n11 ?_))
    exact gvs (Fin.refl _ _ _)
theorem sameEffs_len : ∀ {a b : List Eff}, sameEffs a b = true → a.length = b.length
  | [], [], _ => rfl
  | [], _ :: _, h => by cases h
  | _ :: _, [], h => by cases h
  | x :: l, y :: m, h => by
    unfold sameEffs at h
    rw [Bool.and_eq_true] at h
    rw [List.length_cons, List.length_cons, sameEffs_len h.2]
end Go.Proofs.YtbpoeggmpjepfaaDoor.Ab

/- What a rule does: awake. -/
set_option linter.unusedVariables false
set_option linter.unusedSimpArgs false
set_option maxRecDepth 20000
namespace Go.Proofs.YtbpoeggmpjepfaaDoor.Ab
open Go
attribute [local irreducible] thn inb endR CJ LJ OpJ DJ DA DB AllocK r3
set_option maxHeartbeats 4000000 in
theorem p_eqeff (nl nl2 : Option Bool) (full full2 : Bool) (a b : List Eff) : Pure Tryd.prog 34 [.sl nl full 6 (a.map efc), .sl nl2 full2 6 (b.map efc), .fn 35 []] (.v (.bool (sameEffs a b))) := by
  refine enterW Tryd.func34 rfl rfl rfl rfl (fun σ => ?_)
  refine cj_len 0 (fun hm0 => ?_)
  have hn1 : (a.map efc).length = a.length := List.length_map ..
  have hn2 : (b.map efc).length = b.length := List.length_map ..
  by_cases hne : a.length = b.length
  · repeat' (first|(first|(refine jl ?_;first|refine j1 ?_|refine j4 ?_)|(refine jc ?_;first|refine c1 ?_|refine c2 ?_|refine c5 ?_|refine c6 ?_)|refine n1 ?_)|(refine c9 (fun h=>?_) (fun h=>?_)<;>((try simp only [Bool.or_eq_true, Bool.and_eq_true, Bool.or_eq_false_iff, Bool.and_eq_false_iff, Bool.not_eq_true', Bool.not_eq_false', decide_eq_true_eq, decide_eq_false_iff_not, Bool.false_eq_true, Bool.true_eq_false, reduceCtorEq] at h) <;> (try simp (disch := omega) only [sb_bt, w64, Int.reduceAdd, Int.reduceToNat, Int.toNat_natCast, not_true_eq_false, false_or] at h) <;> (try (exfalso; omega)))))
    all_goals first | (exfalso; omega) | skip
    refine cj_for (fun i : Nat => i ≤ a.length ∧ sameEffs (a.drop i) (b.drop i) = sameEffs a b) (fun i => [(17, .v (.int .i64 i))]) (fun _ => σ) (fun i => a.length - i) 0 ⟨Nat.zero_le _, rfl⟩ ⟨⟨_, rfl, fun _ _ h => h⟩, trivial⟩ (St.le_refl _) (fun i hi => ?_)
    obtain ⟨h1, h3⟩ := hi
    rcases hd : a.drop i with _ | ⟨x, r⟩
    · have z1 := dropn hd
      have z2 : b.drop i = [] := List.drop_eq_nil_iff.2 (by omega)
      rw [hd, z2] at h3
      rw [← h3]
      repeat' (first|(first|(refine jl ?_;first|refine j1 ?_|refine j4 ?_)|(refine jc ?_;first|refine c1 ?_|refine c2 ?_|refine c7 ?_|refine c8 ?_)|refine n1 ?_|refine n3 ?_|refine n7 ?_|refine n8 ?_|refine n11 ?_)|(refine c9 (fun h=>?_) (fun h=>?_)<;>((try simp only [Bool.or_eq_true, Bool.and_eq_true, Bool.or_eq_false_iff, Bool.and_eq_false_iff, Bool.not_eq_true', Bool.not_eq_false', decide_eq_true_eq, decide_eq_false_iff_not, Bool.false_eq_true, Bool.true_eq_false, reduceCtorEq] at h) <;> (try simp (disch := omega) only [sb_bt, w64, Int.reduceAdd, Int.reduceToNat, Int.toNat_natCast, not_true_eq_false, false_or] at h) <;> (try (exfalso; omega)))))
      all_goals first | (exfalso; omega) | skip
      exact gvs (Fin.refl _ _ _)
    · obtain ⟨u1, u2, u3⟩ := dropc hd
      have u4 := get_map efc u3
      obtain ⟨y, v3⟩ : ∃ y, b[i]? = some y := ⟨_, List.getElem?_eq_getElem (by omega)⟩
      have v4 := get_map efc v3
      have hd2 : b.drop i = y :: b.drop (i + 1) := by
        rw [List.drop_eq_getElem_cons (by omega)]
        congr 1
        exact (List.getElem?_eq_some_iff.1 v3).2
      rw [hd, hd2, ← u2, sameEffs] at h3
      have k1 := p_same1 x y
      generalize hS : sameEff x y = S at k1 h3
      cases x <;> cases y
      all_goals
        cases S with
        | true =>
          repeat' (first|(first|(refine jl ?_;first|refine jbl ?_|refine j1 ?_|refine j4 ?_|refine j6 ?_|refine j13 (fun id hid=>?_)|refine j14 ?_|refine j17t ?_|refine ji1 ?_|refine jcs rfl k1.at_ ?_)|(refine jc ?_;first|refine c1 ?_|refine c2 ?_|refine c5 ?_|refine c6 ?_)|refine n1 ?_|refine n10 ?_)|(refine c9 (fun h=>?_) (fun h=>?_)<;>((try simp only [Bool.or_eq_true, Bool.and_eq_true, Bool.or_eq_false_iff, Bool.and_eq_false_iff, Bool.not_eq_true', Bool.not_eq_false', decide_eq_true_eq, decide_eq_false_iff_not, Bool.false_eq_true, Bool.true_eq_false, reduceCtorEq] at h) <;> (try simp (disch := omega) only [sb_bt, w64, Int.reduceAdd, Int.reduceToNat, Int.toNat_natCast, not_true_eq_false, false_or] at h) <;> (try (exfalso; omega)))))
          all_goals first | (exfalso; simp at h; done) | (exfalso; omega) | skip
          exact nx_forS (i + 1) ⟨by omega, h3⟩ (by omega) ⟨⟨_, rfl, wk1 (by omega)⟩, trivial⟩ (by repeat' (first | exact St.le_refl _ | refine St.le_any ?_))
        | false =>
          repeat' (first|(first|(refine jl ?_;first|refine jbl ?_|refine j1 ?_|refine j4 ?_|refine j13 (fun id hid=>?_)|refine j14 ?_|refine j17t ?_|refine ji1 ?_|refine jcs rfl k1.at_ ?_)|(refine jc ?_;first|refine c1 ?_|refine c2 ?_|refine c5 ?_|refine c6 ?_|refine c7 ?_)|refine n1 ?_|refine n2 ?_|refine n5 ?_|refine n6 ?_|refine n11 ?_)|(refine c9 (fun h=>?_) (fun h=>?_)<;>((try simp only [Bool.or_eq_true, Bool.and_eq_true, Bool.or_eq_false_iff, Bool.and_eq_false_iff, Bool.not_eq_true', Bool.not_eq_false', decide_eq_true_eq, decide_eq_false_iff_not, Bool.false_eq_true, Bool.true_eq_false, reduceCtorEq] at h) <;> (try simp (disch := omega) only [sb_bt, w64, Int.reduceAdd, Int.reduceToNat, Int.toNat_natCast, not_true_eq_false, false_or] at h) <;> (try (exfalso; omega)))))
          all_goals first | (exfalso; simp at h; done) | (exfalso; omega) | skip
          rw [← h3]
          exact gvs (Fin.refl _ _ _)
  · have hd : sameEffs a b = false := Bool.eq_false_iff.2 fun e => hne (sameEffs_len e)
    rw [hd]
    repeat' (first|(first|(refine jl ?_;first|refine j1 ?_|refine j4 ?_)|(refine jc ?_;first|refine c1 ?_|refine c2 ?_|refine c7 ?_)|refine n2 ?_|refine n11 ?_)|(refine c9 (fun h=>?_) (fun h=>?_)<;>((try simp only [Bool.or_eq_true, Bool.and_eq_true, Bool.or_eq_false_iff, Bool.and_eq_false_iff, Bool.not_eq_true', Bool.not_eq_false', decide_eq_true_eq, decide_eq_false_iff_not, Bool.false_eq_true, Bool.true_eq_false, reduceCtorEq] at h) <;> (try simp (disch := omega) only [sb_bt, w64, Int.reduceAdd, Int.reduceToNat, Int.toNat_natCast, not_true_eq_false, false_or] at h) <;> (try (exfalso; omega)))))
    all_goals first
      | exact gives (St.le_refl _) (Fin.refl _ _ _)
      | (exfalso; omega)
theorem p_asame (nl nl2 : Option Bool) (full full2 : Bool) (a b : List Eff) : Pure Tryd.prog 19 [.sl nl full 6 (a.map efc), .sl nl2 full2 6 (b.map efc)] (.v (.bool (sameEffs a b))) := by
  refine enterW Tryd.func19 rfl rfl rfl rfl (fun σ => ?_)
  have k1 := p_eqeff nl nl2 full full2 a b
  repeat' (first|(first|(refine jl ?_;first|refine j1 ?_|refine j4 ?_|refine jp (k1) ?_)|(refine jc ?_;first|refine c1 ?_|refine c2 ?_|refine c7 ?_)|refine n11 ?_))
  exact gvs (Fin.refl _ _ _)
theorem p_number27 (n : Int) : Pure Tryd.prog 17 [.v (.int .i64 n)] (.agg (itc ⟨0, ⟨1, n, ⟨#[]⟩⟩, ⟨#[]⟩⟩)) := by
  refine enterW Tryd.func17 rfl rfl rfl rfl (fun σ => ?_)
  repeat' (first|(first|(refine jl ?_;first|refine jb ?_|refine j1 ?_|refine j4 ?_|refine j13 (fun id hid=>?_)|refine j17t ?_)|(refine jc ?_;first|refine c1 ?_|refine c2 ?_|refine c7 ?_)|refine n14 ?_))
  exact gvs (Fin.refl _ _ _)
def clsO : List Cls := [⟨⟨#[99]⟩, [⟨#[112]⟩]⟩]
def itX : Itm := ⟨1, noV, ⟨#[120]⟩⟩
def itN (n : Int) : Itm := ⟨0, ⟨1, n, ⟨#[]⟩⟩, ⟨#[]⟩⟩
def itO (k : Int) : Itm := ⟨k, noV, ⟨#[]⟩⟩
def cndO : Cnd := ⟨false, ⟨#[99]⟩, [⟨⟨#[112]⟩, [], [⟨0, ⟨#[120]⟩, noV⟩]⟩]⟩
def actsO : List Acn := [⟨1, ⟨#[]⟩, 1, ⟨#[]⟩, [⟨⟨#[112]⟩, [itX, itN 1, itO 2]⟩], []⟩, ⟨4, ⟨#[]⟩, 0, ⟨#[]⟩, [], [[itX]]⟩]
def ruleO : Rul := ⟨⟨#[114]⟩, [cndO], actsO⟩
def factO : Fc := ⟨3, ⟨#[99]⟩, [⟨1, 4, ⟨#[]⟩⟩]⟩
section
variable {P : Program} {fr : Fr} {σ : St}
theorem n17 {rs : List ResultVar} {R : AEnd → St → Prop} {v u1 u2 : Nat} {ty1 ty2 : TypeId} {a b c : AV} {id1 sz1 i1 j1 id2 sz2 i2 j2 : Nat} {et1 et2 : TypeId} {els1 els2 : List (List AV)} {el1 el2 : List AV} {q1 q2 : Option Nat} (hR : R (.ret (packed [a, b, c])) σ) (hrs : rs = [.tmp v, .cell u1 ty1, .cell u2 ty2] := by exact rfl) (hl : lk fr v = some a := by exact rfl) (h1 : lk fr u1 = some (.ptr id1 sz1 i1 j1) := by exact rfl) (h2 : lk fr u2 = some (.ptr id2 sz2 i2 j2) := by exact rfl) (hs1 : shapeOf P ty1 = some q1 := by exact rfl) (hs2 : shapeOf P ty2 = some q2 := by exact rfl) (hσ1 : σ id1 = some (.row sz1 et1 els1) := by exact lkp) (hσ2 : σ id2 = some (.row sz2 et2 els2) := by exact lkp) (he1 : els1[i1]? = some el1 := by exact rfl) (he2 : els2[i2]? = some el2 := by exact rfl) (hp1 : load? (el1.drop j1) q1 = some b := by exact rfl) (hp2 : load? (el2.drop j2) q2 = some c := by exact rfl) : endR P rs R .ret fr σ := by
  subst hrs
  exact nx_endC [a, b, c] ⟨a, _, rfl, hl, b, _, id1, sz1, i1, j1, et1, els1, el1, q1, rfl, h1, hσ1, he1, hs1, hp1, c, _, id2, sz2, i2, j2, et2, els2, el2, q2, rfl, h2, hσ2, he2, hs2, hp2, rfl⟩ hR
end
set_option maxHeartbeats 4000000 in
theorem p_one27 : Pure Tryd.prog 18 [] (.tup [.sl none false 2 (clsO.map cc), .agg (ruc ruleO), .agg (fc factO)]) := by
  refine enterW Tryd.func18 rfl rfl rfl rfl (fun σ => ?_)
  have k1 := p_number27 1
  repeat' (first|(first|(refine jl ?_;first|refine jb ?_|refine j1 ?_|refine j4 ?_|refine j13 (fun id hid=>?_)|refine j17t ?_|refine jlit ?_)|(refine yl ?_;first|refine y7 ?_|refine y8 ?_|refine y10 ?_|refine y11 ?_|refine ybd ?_|refine ybl ?_|refine y1 ?_|refine y2 ?_|refine y3 ?_|refine y3f ?_|refine y9 ?_|refine y14 ?_|refine y15 ?_|refine y16 ?_|refine y17 ?_|refine y18 ?_|refine y21 ?_|refine y25 ?_|refine yi1 ?_|refine yi2 ?_|refine yi3 ?_|refine yi4 ?_|refine yi4q ?_|refine yi6 ?_|refine ylit ?_|refine yp (k1) ?_|refine ypy (k1) ?_|refine ypq (hp:=fun hc=>k1) ?_|refine ynil ?_)|(refine jc ?_;first|refine c1 ?_|refine c2 ?_|refine c7 ?_|(first|refine cqy (id := 3) [] [0, 1, 2, 3, 4, 5, 6, 7, 8, 9, 10, 11, 12] ?_|refine cqy (id := 4) [11, 12] [0, 1, 2, 3, 4, 5, 6, 7, 8, 9, 10, 11, 12] ?_))|refine n1 ?_))
  refine n17 ?_
  refine gives (by repeat' (first | exact St.le_refl _ | refine St.le_any ?_)) (fin_three (.wk (by (repeat' (first | exact True.intro | exact Wk.refl _ | exact Wk.nil _ _ _ _ | refine Wk.els ?_ | refine Wk.agg ?_ | refine And.intro ?_ ?_)))) (.wk (by (repeat' (first | exact True.intro | exact Wk.refl _ | exact Wk.nil _ _ _ _ | refine Wk.els ?_ | refine Wk.agg ?_ | refine And.intro ?_ ?_)))) (.wk (by (repeat' (first | exact True.intro | exact Wk.refl _ | exact Wk.nil _ _ _ _ | refine Wk.els ?_ | refine Wk.agg ?_ | refine And.intro ?_ ?_)))))
end Go.Proofs.YtbpoeggmpjepfaaDoor.Ab

/- What a rule does: awake. -/
set_option linter.unusedVariables false
set_option linter.unusedSimpArgs false
set_option maxRecDepth 20000
namespace Go.Proofs.YtbpoeggmpjepfaaDoor.Ab
open Go
attribute [local irreducible] thn inb endR CJ LJ OpJ DJ DA DB AllocK r3
def effsO : List Eff := [.removed 3, .made ⟨7, ⟨#[99]⟩, [⟨1, 5, ⟨#[]⟩⟩]⟩, .wrote ⟨#[52]⟩]
theorem runO : runR clsO ruleO [factO] [3] 7 = (effsO, 8, 0) := by kernel_rfl
theorem runO2 : runR clsO ruleO [] [3] 7 = ([], 0, 4) := by kernel_rfl
theorem okA_O : ∀ a ∈ ruleO.acts, okA a := fun a ha => by
  rcases List.mem_cons.1 ha with rfl | ha
  · exact ⟨by decide, by decide, by decide, by decide, by decide, by decide⟩
  · rw [List.mem_singleton.1 ha]
    exact ⟨by decide, by decide, by decide, by decide, by decide, by decide⟩
set_option maxHeartbeats 4000000 in
theorem p_awake27 : Pure Tryd.prog 7 [] (.v (.bool true)) := by
  refine enterW Tryd.func7 rfl rfl rfl rfl (fun σ => ?_)
  have k1 := p_one27
  have k2 := p_run clsO (by decide) ruleO [factO] [3] 7 none (some false) (some false) false true true (by decide) (by decide) (by decide) okA_O (by decide)
  rw [runO] at k2
  have k3 : Pure Tryd.prog 14 [.sl none false 2 (clsO.map cc), .agg (ruc ruleO), .sl (some true) true 1 [], .sl (some false) true 1 ([3].map int1), .v (.int .i64 7)] (.tup [.sl none false 6 (([] : List Eff).map efc), .v (.int .i64 0), .v (.int .i64 4)]) := by
    have := Pure.wka (bs := _) (p_run clsO (by decide) ruleO [] [3] 7 none none (some false) false false true (by decide) (by decide) (by decide) okA_O (by decide)) (show WkL [.sl none false 2 (clsO.map cc), .agg (ruc ruleO), .sl (some true) true 1 [], .sl (some false) true 1 ([3].map int1), .v (.int .i64 7)] _ from ⟨Wk.refl _, Wk.refl _, Wk.nil _ _ _ _, Wk.refl _, Wk.refl _, trivial⟩)
    rwa [runO2] at this
  have k4 := p_number27 6
  have k5 := p_number27 7
  have k6 : Pure Tryd.prog 8 [.sl (some false) true 5 ([itN 6, itN 7, itO 4].map itc), .sl (some true) true 1 []] (.tup [.agg (vc ⟨1, 42, ⟨#[]⟩⟩), .v (.int .i64 0)]) := by
    have := Pure.wka (bs := _) (p_eval (some false) none true false [itN 6, itN 7, itO 4] [] (by decide)) (show WkL [.sl (some false) true 5 ([itN 6, itN 7, itO 4].map itc), .sl (some true) true 1 []] _ from ⟨Wk.refl _, Wk.nil _ _ _ _, trivial⟩)
    rwa [show evalGo [] [itN 6, itN 7, itO 4] [] = (⟨1, 42, ⟨#[]⟩⟩, 0) by kernel_rfl] at this
  have k7 := p_bind (some false) true [⟨⟨#[120]⟩, noV⟩] ⟨#[120]⟩ ⟨1, 42, ⟨#[]⟩⟩ (by decide)
  rw [show bindF ⟨#[120]⟩ ⟨1, 42, ⟨#[]⟩⟩ [⟨⟨#[120]⟩, noV⟩] = [⟨⟨#[120]⟩, ⟨1, 42, ⟨#[]⟩⟩⟩] by kernel_rfl] at k7
  have k8 := p_asame none none false false effsO effsO
  rw [show sameEffs effsO effsO = true by kernel_rfl] at k8
  have k9 : Pure Tryd.prog 19 [.sl none false 6 (effsO.map efc), .sl (some true) true 1 []] (.v (.bool false)) := by
    have := Pure.wka (bs := _) (p_asame none none false false effsO []) (show WkL [.sl none false 6 (effsO.map efc), .sl (some true) true 1 []] _ from ⟨Wk.refl _, Wk.nil _ _ _ _, trivial⟩)
    rwa [show sameEffs effsO [] = false by kernel_rfl] at this
  repeat' (first|(first|(refine jl ?_;first|refine j8 ?_|refine jtf ?_|refine jb ?_|refine j1 ?_|refine j4 ?_|refine j9 ?_|refine j13 (fun id hid=>?_)|refine j14 ?_|refine j17t ?_|refine j17 ?_|refine j16 ?_|refine ji3 ?_|refine jp (k1) ?_|refine jp (k2) ?_|refine jp (k3) ?_|refine jp (k4) ?_|refine jp (k5) ?_|refine jp (k6) ?_|refine jp (k7) ?_|refine jcq (hp:=fun hc=>k8) ?_|refine jcq (hp:=fun hc=>k9) ?_|refine jlit ?_)|(refine jc ?_;first|refine c1 ?_|refine c2 ?_|refine c7 ?_)|refine n11 ?_))
  refine gives (by repeat' (first | exact St.le_refl _ | refine St.le_any ?_)) (fin_one (.wk (Wk.of_eq (congrArg (fun b => AV.v (Value.bool b)) ?_))))
  first | rfl | kernel_rfl
end Go.Proofs.YtbpoeggmpjepfaaDoor.Ab

/- Law 27: ActEvals. -/
set_option linter.unusedVariables false
set_option linter.unusedSimpArgs false
set_option maxRecDepth 20000
namespace Go.Proofs.YtbpoeggmpjepfaaDoor.Ab
open Go
attribute [local irreducible] thn inb endR CJ LJ OpJ DJ DA DB AllocK r3
def nilC : Cnd := ⟨false, ⟨#[]⟩, []⟩
set_option maxHeartbeats 8000000 in
theorem l_actEvals (l : List Itm) (bd : List Bd) (nm : ByteArray) : Pure Tryd.prog 3 [.sl none false 5 (l.map itc), .sl none false 4 (bd.map bc), .v (.string nm)] (.v (.bool true)) := by
  refine enterW Tryd.func3 rfl rfl rfl rfl (fun σ => ?_)
  refine cj_len 0 (fun hm0 => ?_)
  have hn : (l.map itc).length = l.length := List.length_map ..
  have k0 := p_awake27
  have k1 : Pure Tryd.prog 6 [.agg [.v (.bool false), .v (.string ⟨#[]⟩), .sl (some true) true 1 []], .sl none false 4 (bd.map bc)] (.v (.bool (lightE nilC bd))) :=
    Pure.wka (bs := _) (p_light20 none false nilC bd) (show WkL [.agg [.v (.bool false), .v (.string ⟨#[]⟩), .sl (some true) true 1 []], .sl none false 4 (bd.map bc)] _ from ⟨Wk.agg ⟨Wk.refl _, Wk.refl _, Wk.nil _ _ _ _, trivial⟩, Wk.refl _, trivial⟩)
  by_cases hg : l.length ≤ 40 ∧ lightE nilC bd = true ∧ nm.size ≤ 60
  · obtain ⟨g1, g2, g3⟩ := hg
    obtain ⟨⟨_, g4, _⟩, _, g5⟩ := lightE_iff g2
    rw [g2] at k1
    repeat' (first|(first|(refine jl ?_;first|refine j7 ?_|refine j1 ?_|refine j4 ?_|refine j9 ?_|refine jp (k0) ?_|refine jcq (hp:=fun hc=>k1) ?_)|(refine jc ?_;first|refine c1 ?_|refine c2 ?_|refine c5 ?_|refine c6 ?_|refine c7 ?_)|refine n1 ?_|refine n2 ?_|refine n11 ?_)|(refine c9 (fun h=>?_) (fun h=>?_)<;>((try simp only [Bool.or_eq_true, Bool.and_eq_true, Bool.or_eq_false_iff, Bool.and_eq_false_iff, Bool.not_eq_true', Bool.not_eq_false', decide_eq_true_eq, decide_eq_false_iff_not, Bool.false_eq_true, Bool.true_eq_false, reduceCtorEq] at h) <;> (try simp (disch := omega) only [sb_bt, w64, Int.reduceAdd, Int.reduceToNat, Int.toNat_natCast, not_true_eq_false, false_or] at h) <;> (try (exfalso; omega)))))
    all_goals first | (exfalso; simp at h; omega) | skip
    refine cj_for (fun i : Nat => i ≤ l.length ∧ ∀ x ∈ l.take i, x.val.s.size ≤ 60) (fun i => [(7, .v (.int .i64 i))]) (fun _ => σ) (fun i => l.length - i) 0 ⟨Nat.zero_le _, fun x hx => by rw [List.take_zero] at hx; cases hx⟩ ⟨⟨_, rfl, fun _ _ h => h⟩, trivial⟩ (St.le_refl _) (fun i hi => ?_)
    obtain ⟨h1, h3⟩ := hi
    rcases hd : l.drop i with _ | ⟨x, r⟩
    · have z1 := dropn hd
      rw [List.take_of_length_le z1] at h3
      have k2 := p_eval none none false false l bd (by omega)
      have k3 := p_reval none none false false l bd (by omega) h3
      generalize hE : evalGo bd l [] = E at k2 k3
      obtain ⟨⟨vk, vn, vs⟩, e⟩ := E
      dsimp only at k2 k3
      have k4 := p_bind none false bd nm ⟨vk, vn, vs⟩ (by omega)
      have k5 := p_rbind none false bd nm ⟨vk, vn, vs⟩ (by omega)
      have k6 := p_eqb5 none none false false (bindF nm ⟨vk, vn, vs⟩ bd) (bindF nm ⟨vk, vn, vs⟩ bd)
      rw [decide_eq_true rfl] at k6
      repeat' (first|(first|(refine jl ?_;first|refine j1 ?_|refine j4 ?_|refine j13 (fun id hid=>?_)|refine j17t ?_|refine jp (k2) ?_|refine jp (k3) ?_)|(refine dl ?_;first|refine d8 ?_|refine d1 ?_|refine d4 ?_|refine d9 ?_|refine d14 ?_|refine d16 ?_|refine deq ?_|refine dpq (hp:=fun hc=>k0) ?_|refine dpq (hp:=fun hc=>k4) ?_|refine dpq (hp:=fun hc=>k5) ?_|refine dpq (hp:=fun hc=>k6) ?_)|(refine jc ?_;first|refine c1 ?_|refine c2 ?_|refine c7 ?_|refine c8 ?_|refine cq ?_)|refine n1 ?_|refine n3 ?_|refine n7 ?_|refine n8 ?_|refine n11 ?_)|(refine c9 (fun h=>?_) (fun h=>?_)<;>((try simp only [Bool.or_eq_true, Bool.and_eq_true, Bool.or_eq_false_iff, Bool.and_eq_false_iff, Bool.not_eq_true', Bool.not_eq_false', decide_eq_true_eq, decide_eq_false_iff_not, Bool.false_eq_true, Bool.true_eq_false, reduceCtorEq] at h) <;> (try simp (disch := omega) only [sb_bt, w64, Int.reduceAdd, Int.reduceToNat, Int.toNat_natCast, not_true_eq_false, false_or] at h) <;> (try (exfalso; omega)))))
      all_goals first | (exfalso; omega) | skip
      refine gives (by repeat' (first | exact St.le_refl _ | refine St.le_any ?_)) (fin_one (.wk (Wk.of_eq ?_)))
      simp
    · obtain ⟨u1, u2, u3⟩ := dropc hd
      have u4 := get_map itc u3
      obtain ⟨xk, ⟨vk, vn, vs⟩, xv⟩ := x
      repeat' (first|(first|(refine jl ?_;first|refine j7 ?_|refine jbl ?_|refine j1 ?_|refine j4 ?_|refine j6 ?_|refine j9 ?_|refine ji1 ?_|refine ji3 ?_|refine jp (k0) ?_)|(refine jc ?_;first|refine c1 ?_|refine c2 ?_|refine c5 ?_|refine c6 ?_|refine c7 ?_)|refine n1 ?_|refine n2 ?_|refine n5 ?_|refine n6 ?_|refine n10 ?_|refine n11 ?_)|(refine c9 (fun h=>?_) (fun h=>?_)<;>((try simp only [Bool.or_eq_true, Bool.and_eq_true, Bool.or_eq_false_iff, Bool.and_eq_false_iff, Bool.not_eq_true', Bool.not_eq_false', decide_eq_true_eq, decide_eq_false_iff_not, Bool.false_eq_true, Bool.true_eq_false, reduceCtorEq] at h) <;> (try simp (disch := omega) only [sb_bt, w64, Int.reduceAdd, Int.reduceToNat, Int.toNat_natCast, not_true_eq_false, false_or] at h) <;> (try (exfalso; omega)))))
      all_goals first
        | exact gvs (Fin.refl _ _ _)
        | (exfalso; omega)
        | exact nx_forS (i + 1) ⟨by omega, take_succ_all h3 u3 (by have := h.2; dsimp only; omega)⟩ (by omega) ⟨⟨_, rfl, wk1 (by omega)⟩, trivial⟩ (St.le_refl _)
        | trace_state
  · cases hL : lightE nilC bd with
    | true =>
      rw [hL] at k1
      repeat' (first|(first|(refine jl ?_;first|refine j7 ?_|refine j1 ?_|refine j4 ?_|refine j9 ?_|refine jp (k0) ?_|refine jcq (hp:=fun hc=>k1) ?_)|(refine jc ?_;first|refine c1 ?_|refine c2 ?_|refine c5 ?_|refine c6 ?_|refine c7 ?_)|refine n1 ?_|refine n2 ?_|refine n11 ?_)|(refine c9 (fun h=>?_) (fun h=>?_)<;>((try simp only [Bool.or_eq_true, Bool.and_eq_true, Bool.or_eq_false_iff, Bool.and_eq_false_iff, Bool.not_eq_true', Bool.not_eq_false', decide_eq_true_eq, decide_eq_false_iff_not, Bool.false_eq_true, Bool.true_eq_false, reduceCtorEq] at h) <;> (try simp (disch := omega) only [sb_bt, w64, Int.reduceAdd, Int.reduceToNat, Int.toNat_natCast, not_true_eq_false, false_or] at h) <;> (try (exfalso; omega)))))
      all_goals first
        | exact gvs (Fin.refl _ _ _)
        | (exfalso; exact hg ⟨by simp at h; omega, hL, by simp at h; omega⟩)
        | trace_state
    | false =>
      rw [hL] at k1
      repeat' (first|(first|(refine jl ?_;first|refine j7 ?_|refine j1 ?_|refine j4 ?_|refine j9 ?_|refine jp (k0) ?_|refine jcq (hp:=fun hc=>k1) ?_)|(refine jc ?_;first|refine c1 ?_|refine c2 ?_|refine c5 ?_|refine c6 ?_|refine c7 ?_)|refine n1 ?_|refine n2 ?_|refine n11 ?_)|(refine c9 (fun h=>?_) (fun h=>?_)<;>((try simp only [Bool.or_eq_true, Bool.and_eq_true, Bool.or_eq_false_iff, Bool.and_eq_false_iff, Bool.not_eq_true', Bool.not_eq_false', decide_eq_true_eq, decide_eq_false_iff_not, Bool.false_eq_true, Bool.true_eq_false, reduceCtorEq] at h) <;> (try simp (disch := omega) only [sb_bt, w64, Int.reduceAdd, Int.reduceToNat, Int.toNat_natCast, not_true_eq_false, false_or] at h) <;> (try (exfalso; omega)))))
      all_goals first
        | exact gvs (Fin.refl _ _ _)
        | (exfalso; simp at h; done)
        | trace_state
end Go.Proofs.YtbpoeggmpjepfaaDoor.Ab

/- Law 27: ActSums. -/
set_option linter.unusedVariables false
set_option linter.unusedSimpArgs false
set_option maxRecDepth 20000
namespace Go.Proofs.YtbpoeggmpjepfaaDoor.Ab
open Go
theorem valE_num (n : Int) : valE ⟨1, n, ⟨#[]⟩⟩ = if inI n = true then 0 else valE ⟨1, n, ⟨#[]⟩⟩ := by
  split
  · rename_i h
    rw [inI_iff] at h
    show checkE 1 n ⟨#[]⟩ = 0
    unfold checkE
    simp [h]
  · rfl
theorem valE_bad {n : Int} (h : inI n = false) : valE ⟨1, n, ⟨#[]⟩⟩ ≠ 0 := by
  have h' : ¬ inI n = true := by rw [h]; simp
  rw [inI_iff] at h'
  show checkE 1 n ⟨#[]⟩ ≠ 0
  unfold checkE
  intro e
  revert e
  simp
  omega
def evS (k a b : Int) : Vl × Int := if inI a = true ∧ inI b = true then (if (rk k a b).2 = true then (⟨1, (rk k a b).1, ⟨#[]⟩⟩, 0) else (noV, 23)) else (noV, 4)
theorem eval3 (k a b : Int) (h2 : 2 ≤ k) (h4 : k ≤ 4) : evalGo [] [itN a, itN b, itO k] [] = evS k a b := by
  unfold evS
  rw [evalGo_const (x := itN a) rfl]
  cases ha : inI a with
  | false => rw [if_neg (show ¬ valE (itN a).val = 0 from valE_bad ha), if_neg (by simp)]
  | true =>
    rw [if_pos (show valE (itN a).val = 0 by rw [show (itN a).val = ⟨1, a, ⟨#[]⟩⟩ from rfl, valE_num, if_pos ha]), evalGo_const (x := itN b) rfl]
    cases hb : inI b with
    | false => rw [if_neg (show ¬ valE (itN b).val = 0 from valE_bad hb), if_neg (by simp)]
    | true =>
      rw [if_pos (show valE (itN b).val = 0 by rw [show (itN b).val = ⟨1, b, ⟨#[]⟩⟩ from rfl, valE_num, if_pos hb]), if_pos ⟨rfl, rfl⟩]
      have e := @evalGo_op [] (itO k) [] [] (itN a).val (itN b).val (show k ≠ 0 by omega) (show k ≠ 1 by omega)
      rw [show (([] : List Vl) ++ [(itN a).val] ++ [(itN b).val]) = [] ++ [(itN a).val, (itN b).val] from rfl, e]
      have eo : opE (itO k).k (itN a).val (itN b).val = if (rk k a b).2 = true then 0 else 23 := by
        show opE k ⟨1, a, _⟩ ⟨1, b, _⟩ = _
        unfold opE
        rw [if_neg (by omega), if_neg (by simp [ha, hb])]
      rw [eo]
      split
      · rfl
      · rfl
theorem rk_comm2 (a b : Int) : rk 2 a b = rk 2 b a := by unfold rk; rw [if_pos rfl, if_pos rfl, Int.add_comm]
theorem rk_comm4 (a b : Int) : rk 4 a b = rk 4 b a := by
  have h : ∀ x y : Int, rk 4 x y = if x.natAbs * y.natAbs ≤ 1099511627776 then (x * y, true) else (0, false) := fun x y => rfl
  rw [h, h, Nat.mul_comm, Int.mul_comm]
theorem evS_comm {k a b : Int} (h : rk k a b = rk k b a) : evS k a b = evS k b a := by
  unfold evS
  rw [h]
  simp only [and_comm]
def evD (a b : Int) : Vl × Int := if inI a = true ∧ inI b = true then (if inI (a - b) = true then (⟨1, a, ⟨#[]⟩⟩, 0) else (noV, 23)) else (noV, 4)
theorem eval5 (a b : Int) : evalGo [] [itN a, itN b, itO 3, itN b, itO 2] [] = evD a b := by
  unfold evD
  rw [evalGo_const (x := itN a) rfl]
  cases ha : inI a with
  | false => rw [if_neg (show ¬ valE (itN a).val = 0 from valE_bad ha), if_neg (by simp)]
  | true =>
    rw [if_pos (show valE (itN a).val = 0 by rw [show (itN a).val = ⟨1, a, ⟨#[]⟩⟩ from rfl, valE_num, if_pos ha]), evalGo_const (x := itN b) rfl]
    cases hb : inI b with
    | false => rw [if_neg (show ¬ valE (itN b).val = 0 from valE_bad hb), if_neg (by simp)]
    | true =>
      have hv : valE (itN b).val = 0 := by rw [show (itN b).val = ⟨1, b, ⟨#[]⟩⟩ from rfl, valE_num, if_pos hb]
      rw [if_pos hv, if_pos ⟨rfl, rfl⟩]
      have e := @evalGo_op [] (itO 3) [itN b, itO 2] [] (itN a).val (itN b).val (by decide) (by decide)
      rw [show (([] : List Vl) ++ [(itN a).val] ++ [(itN b).val]) = [] ++ [(itN a).val, (itN b).val] from rfl, e]
      have eo : opE (itO 3).k (itN a).val (itN b).val = if inI (a - b) = true then 0 else 23 := by
        show opE 3 ⟨1, a, _⟩ ⟨1, b, _⟩ = _
        unfold opE
        rw [if_neg (by omega), if_neg (by simp [ha, hb])]
        rfl
      rw [eo]
      cases hd : inI (a - b) with
      | false => rfl
      | true =>
        rw [if_pos rfl, if_pos rfl, if_pos rfl, evalGo_const (x := itN b) rfl, if_pos hv]
        have e2 := @evalGo_op [] (itO 2) [] [] (opV (itO 3).k (itN a).val (itN b).val) (itN b).val (by decide) (by decide)
        rw [show (([] : List Vl) ++ [opV (itO 3).k (itN a).val (itN b).val] ++ [(itN b).val]) = [] ++ [opV (itO 3).k (itN a).val (itN b).val, (itN b).val] from rfl, e2]
        have hab : a - b + b = a := by omega
        have eo2 : opE (itO 2).k (opV (itO 3).k (itN a).val (itN b).val) (itN b).val = 0 := by
          show opE 2 ⟨1, a - b, _⟩ ⟨1, b, _⟩ = 0
          unfold opE
          rw [if_neg (by omega), if_neg (by simp [hd, hb])]
          show (if inI (a - b + b) = true then (0 : Int) else 23) = 0
          rw [hab, ha]; rfl
        rw [eo2, if_pos rfl]
        show ((⟨1, a - b + b, ⟨#[]⟩⟩ : Vl), (0 : Int)) = _
        rw [hab]
attribute [local irreducible] thn inb endR CJ LJ OpJ DJ DA DB AllocK r3
theorem evS2 (a b : Int) : (inI a = true ∧ inI b = true ∧ (((evS 2 a b).2 = 0 ∧ (evS 2 a b).1.n = a + b ∧ -1099511627776 ≤ a + b ∧ a + b ≤ 1099511627776) ∨ ((evS 2 a b).2 = 23 ∧ ¬ (-1099511627776 ≤ a + b ∧ a + b ≤ 1099511627776)))) ∨ (¬ (inI a = true ∧ inI b = true) ∧ (evS 2 a b).2 = 4) := by
  unfold evS
  by_cases h : inI a = true ∧ inI b = true
  · left
    refine ⟨h.1, h.2, ?_⟩
    rw [if_pos h, show rk 2 a b = (a + b, inI (a + b)) from rfl]
    dsimp only
    cases hi : inI (a + b) with
    | true => left; exact ⟨rfl, rfl, (inI_iff.1 hi).1, (inI_iff.1 hi).2⟩
    | false => right; exact ⟨rfl, fun e => by rw [inI_iff.2 e] at hi; cases hi⟩
  · right
    rw [if_neg h]
    exact ⟨h, rfl⟩
theorem evS4 (a b : Int) : (inI a = true ∧ inI b = true ∧ (((evS 4 a b).2 = 0 ∧ (evS 4 a b).1.n = a * b) ∨ ((evS 4 a b).2 = 23 ∧ ¬ (-1000000 < a ∧ a < 1000000 ∧ -1000000 < b ∧ b < 1000000)))) ∨ (¬ (inI a = true ∧ inI b = true) ∧ (evS 4 a b).2 = 4) := by
  unfold evS
  by_cases h : inI a = true ∧ inI b = true
  · left
    refine ⟨h.1, h.2, ?_⟩
    rw [if_pos h, show rk 4 a b = if a.natAbs * b.natAbs ≤ 1099511627776 then (a * b, true) else (0, false) from rfl]
    by_cases hm : a.natAbs * b.natAbs ≤ 1099511627776
    · rw [if_pos hm]; left; exact ⟨rfl, rfl⟩
    · rw [if_neg hm]
      right
      refine ⟨rfl, fun e => hm ?_⟩
      have h1 : a.natAbs ≤ 1000000 := by omega
      have h2 : b.natAbs ≤ 1000000 := by omega
      exact Nat.le_trans (Nat.mul_le_mul h1 h2) (by decide)
  · right
    rw [if_neg h]
    exact ⟨h, rfl⟩
theorem evD5 (a b : Int) : (inI a = true ∧ inI b = true ∧ (((evD a b).2 = 0 ∧ (evD a b).1.n = a) ∨ (evD a b).2 = 23)) ∨ (¬ (inI a = true ∧ inI b = true) ∧ (evD a b).2 = 4) := by
  unfold evD
  by_cases h : inI a = true ∧ inI b = true
  · left
    refine ⟨h.1, h.2, ?_⟩
    rw [if_pos h]
    split
    · left; exact ⟨rfl, rfl⟩
    · right; rfl
  · right
    rw [if_neg h]
    exact ⟨h, rfl⟩
theorem w64m {a b : Int} (h1 : -1000000 < a) (h2 : a < 1000000) (h3 : -1000000 < b) (h4 : b < 1000000) : IntKind.i64.wrap (a * b) = a * b := by
  have := mul_abs a b
  have h5 : a.natAbs * b.natAbs ≤ 1000000 * 1000000 := Nat.mul_le_mul (by omega) (by omega)
  exact w64 (by omega) (by omega)
set_option maxHeartbeats 16000000 in
theorem l_actSums (a b : Int) : Pure Tryd.prog 5 [.v (.int .i64 a), .v (.int .i64 b)] (.v (.bool true)) := by
  refine enterW Tryd.func5 rfl rfl rfl rfl (fun σ => ?_)
  have k0 := p_awake27
  have na := p_number27 a
  have nb := p_number27 b
  have ev : ∀ (l : List Itm) (r : Vl × Int), l.length ≤ 60000 → evalGo [] l [] = r → Pure Tryd.prog 8 [.sl (some false) true 5 (l.map itc), .sl (some true) true 1 []] (.tup [.agg (vc r.1), .v (.int .i64 r.2)]) := fun l r hl e => by
    have := Pure.wka (bs := _) (p_eval (some false) none true false l [] hl) (show WkL [.sl (some false) true 5 (l.map itc), .sl (some true) true 1 []] _ from ⟨Wk.refl _, Wk.nil _ _ _ _, trivial⟩)
    rwa [e] at this
  have e1 := ev _ _ (by simp only [List.length_cons, List.length_nil]; omega) (eval3 2 a b (by decide) (by decide))
  have e2 := ev _ _ (by simp only [List.length_cons, List.length_nil]; omega) ((eval3 2 b a (by decide) (by decide)).trans (evS_comm (rk_comm2 b a)))
  have e3 := ev _ _ (by simp only [List.length_cons, List.length_nil]; omega) (eval3 4 a b (by decide) (by decide))
  have e4 := ev _ _ (by simp only [List.length_cons, List.length_nil]; omega) ((eval3 4 b a (by decide) (by decide)).trans (evS_comm (rk_comm4 b a)))
  have e5 := ev _ _ (by simp only [List.length_cons, List.length_nil]; omega) (eval5 a b)
  have f2 := evS2 a b
  have f4 := evS4 a b
  have f5 := evD5 a b
  rw [inI_iff, inI_iff] at f2 f4 f5
  generalize evS 2 a b = E2 at e1 e2 f2
  generalize evS 4 a b = E4 at e3 e4 f4
  generalize evD a b = E5 at e5 f5
  obtain ⟨⟨x1, x2, x3⟩, x4⟩ := E2
  obtain ⟨⟨z1, z2, z3⟩, z4⟩ := E4
  obtain ⟨⟨v1, v2, v3⟩, v4⟩ := E5
  dsimp only at e1 e2 e3 e4 e5 f2 f4 f5
  repeat' (first|(first|(refine jl ?_;first|refine j7 ?_|refine j8 ?_|refine j11 ?_|refine jb ?_|refine j1 ?_|refine j4 ?_|refine j9 ?_|refine j13 (fun id hid=>?_)|refine j14 ?_|refine j17t ?_|refine j16 ?_|refine jne ?_|refine jneq ?_|refine jcq (hp:=fun hc=>k0) ?_|refine jp (na) ?_|refine jp (nb) ?_|refine jp (e1) ?_|refine jp (e2) ?_|refine jp (e3) ?_|refine jp (e4) ?_|refine jp (e5) ?_|refine jlit ?_)|(refine jc ?_;first|refine c1 ?_|refine c2 ?_|refine c6 ?_|refine c7 ?_)|refine n1 ?_|refine n2 ?_|refine n11 ?_)|(refine c9 (fun h=>?_) (fun h=>?_)<;>((try simp only [Bool.or_eq_true, Bool.and_eq_true, Bool.or_eq_false_iff, Bool.and_eq_false_iff, Bool.not_eq_true', Bool.not_eq_false', decide_eq_true_eq, decide_eq_false_iff_not, Bool.false_eq_true, Bool.true_eq_false, reduceCtorEq] at h) <;> (try simp (disch := omega) only [sb_bt, w64, Int.reduceAdd, Int.reduceToNat, Int.toNat_natCast, not_true_eq_false, false_or] at h) <;> (try (exfalso; omega)))))
  · have h1 : x4 = 4 := by omega
    have h2 : z4 = 4 := by omega
    exact gives (by repeat' (first | exact St.le_refl _ | refine St.le_any ?_)) (fin_one (.wk (Wk.of_eq (by rw [h1, h2]; rfl))))
  · exfalso
    have hx : decide (x4 = 0) = (decide (-1099511627776 ≤ a + b) && decide (a + b ≤ 1099511627776)) := by
      rw [Bool.eq_iff_iff, Bool.and_eq_true, decide_eq_true_eq, decide_eq_true_eq, decide_eq_true_eq]
      omega
    rcases h with (h | h) | h
    · omega
    · omega
    · rw [hx] at h; simp at h
  · have h1 : z4 = 0 := by omega
    have h2 : z2 = a * b := by omega
    have h3 := w64m (a := a) (b := b) (by omega) (by omega) (by omega) (by omega)
    exact gives (by repeat' (first | exact St.le_refl _ | refine St.le_any ?_)) (fin_one (.wk (Wk.of_eq (by rw [h1, h2, h3]; simp))))
  · have h1 : z4 = 0 ∨ z4 = 23 := by omega
    exact gives (by repeat' (first | exact St.le_refl _ | refine St.le_any ?_)) (fin_one (.wk (Wk.of_eq (by rcases h1 with h1 | h1 <;> rw [h1] <;> rfl))))
end Go.Proofs.YtbpoeggmpjepfaaDoor.Ab

/- From a contract over abstract values to the row's own words. -/
set_option linter.unusedVariables false
set_option linter.unusedSimpArgs false
set_option maxRecDepth 20000
namespace Go.Proofs.YtbpoeggmpjepfaaDoor.Ab
open Go Go.RowKit Go Go.RowKit

def k0 (w : World) : Cx := { ρ := fun _ => none, top := 0, σ := fun _ => none, base := w.heap.size, w := w }
theorem k0_ok {w : World} (hg : Ground w.heap.size w) : Ok (k0 w) := ⟨fun id h => absurd rfl h, fun id id' b h => absurd rfl h, fun id b h => absurd rfl h, Nat.le_refl _, (fun id o h => by cases h), hg⟩
theorem k0_live (w : World) (b : Nat) : ¬ (k0 w).live b := fun ⟨id, h, _⟩ => h rfl
theorem pure_start {P : Program} {f : FuncId} {args : List AV} {x : Value} (h : Pure P f args (.v x)) (w : World) (hg : Ground w.heap.size w) (vs : List Value) (hv : Reps (k0 w) args vs) : Calls P f vs.toArray w (fun e w' => e = .returned x ∧ Below w.heap.size w w') :=
  (h _ (k0 w) vs rfl (k0_ok hg) hv).mono fun e w' ⟨k', e', h1, h2, h3, h4, h5, h6⟩ => by
    subst h5; subst h1
    cases e with
    | returned v =>
      cases h4
      exact ⟨rfl, h3.os, h3.tape, h3.output, h3.size, fun b hb => (h3.frz b hb (k0_live w b)).1⟩
    | panicked ch => exact h4.elim
    | outgrown => exact h4.elim
theorem reps_nil (k : Cx) : Reps k [] [] := ⟨rfl, fun j a u h _ => by simp at h⟩
theorem reps_cons {k : Cx} {a : AV} {v : Value} {l : List AV} {vs : List Value} (h : Rep k a v) (h' : Reps k l vs) : Reps k (a :: l) (v :: vs) := by
  refine ⟨by simp [h'.1], fun j b u hb hu => ?_⟩
  cases j with
  | zero => simp at hb hu; subst hb; subst hu; exact h
  | succ j => exact h'.2 j b u (by simpa using hb) (by simpa using hu)

/-- What is told of a slice of integers that came in. -/
def IsRow (k : IntKind) (w : World) (a : Option Addr) (len cap : Nat) (zs : List Int) : Prop :=
  (a = none ∧ len = 0 ∧ cap = 0 ∧ zs = []) ∨
  ∃ x, a = some x ∧ len ≤ cap ∧ cap ≤ maxLen ∧ zs.length = cap ∧ (∀ i, i < zs.length → w.cell? (x.add i) = some (.int k (zs.getD i 0))) ∧ ∀ n ∈ zs, (Lit.int k n).wf = true
theorem okWide_spot {P : Program} {w : World} {base : Nat} {t e : TypeId} {a : Addr} {len cap : Nat} (ht : P.underlying t = some (.slice e)) (h : Value.okWide P w .any base t (.slice (some a) len cap)) : a.spot = none ∧ a.block < w.heap.size := by
  have h' : Cell.ok P w .any base t (.slice (some a) len cap) := by
    simpa [Value.okWide, Cell.okWide, ht] using h
  have h2 : len ≤ cap ∧ (cap : Int) ≤ IntKind.i64.max ∧ w.has P .any base a e cap := by simpa [Cell.ok, ht] using h'
  obtain ⟨_, _, _, h3, row, cells, h4, _⟩ := h2
  refine ⟨h3, ?_⟩
  unfold World.shape? at h4
  split at h4
  · rename_i h5; exact (Array.getElem?_eq_some_iff.1 h5).1
  · cases h4
theorem isrow_rep {P : Program} {w : World} {base : Nat} {t e : TypeId} {k : IntKind} {a : Option Addr} {len cap : Nat} {zs : List Int} (ht : P.underlying t = some (.slice e)) (hw : Value.okWide P w .any base t (.slice a len cap)) (h : IsRow k w a len cap zs) : Rep (k0 w) (.sl none false 1 ((zs.take len).map fun z => [.v (.int k z)])) (.slice a len cap) := by
  rcases h with ⟨rfl, rfl, rfl, rfl⟩ | ⟨x, rfl, h1, h2, h3, h4, h5⟩
  · exact .slnil (by simp)
  · obtain ⟨hs, hlt⟩ := okWide_spot ht hw
    obtain ⟨b, o, spot⟩ := x
    simp only at hs hlt
    subst hs
    have hl : ((zs.take len).map fun z => [AV.v (.int k z)]).length = len := by simp; omega
    have hgoal : Rep (k0 w) (.sl none false 1 ((zs.take len).map fun z => [AV.v (.int k z)])) (.slice (some ⟨b, o, none⟩) ((zs.take len).map fun z => [AV.v (.int k z)]).length cap) := by
      have hget : ∀ (i j : Nat) e a, ((zs.take len).map fun z => [AV.v (.int k z)])[i]? = some e → e[j]? = some a → j = 0 ∧ i < zs.length ∧ a = .v (.int k (zs.getD i 0)) := fun i j e a he ha => by
        simp only [List.getElem?_map, Option.map_eq_some_iff] at he
        obtain ⟨z, hz, rfl⟩ := he
        rw [List.getElem?_take] at hz
        split at hz
        · cases j with
          | zero =>
            have : zs.getD i 0 = z := by rw [List.getD_eq_getElem?_getD, hz]; rfl
            simp at ha
            exact ⟨rfl, (List.getElem?_eq_some_iff.1 hz).1, by rw [← ha, this]⟩
          | succ j => simp at ha
        · cases hz
      refine .sl (f := fun i j => .int k (zs.getD i 0)) (by simp) (by omega) (by omega) (by simp) (fun i e he => ?_) (fun _ => ⟨hlt, k0_live w b⟩) (fun i j e a he ha => ?_) (fun i j e a he ha => ?_)
      · simp only [List.getElem?_map, Option.map_eq_some_iff] at he
        obtain ⟨_, _, rfl⟩ := he
        rfl
      · obtain ⟨rfl, hi, _⟩ := hget i j e a he ha
        have := h4 i hi
        rw [Go.WideShapes.add_plain] at this
        refine ⟨?_, rfl⟩
        simpa [k0] using this
      · obtain ⟨rfl, hi, rfl⟩ := hget i j e a he ha
        exact .v rfl
    rw [hl] at hgoal
    exact hgoal
theorem isrow_mem {k : IntKind} {w : World} {a : Option Addr} {len cap : Nat} {zs : List Int} (h : IsRow k w a len cap zs) : ∀ n ∈ zs, (Lit.int k n).wf = true := by
  rcases h with ⟨_, _, _, rfl⟩ | ⟨_, _, _, _, _, _, h⟩
  · intro n hn; cases hn
  · exact h
theorem wf_u8 {n : Int} (h : (Lit.int .u8 n).wf = true) : 0 ≤ n ∧ n < 256 := by
  have := bounds_u8 h
  omega
theorem wf_i64 {n : Int} (h : (Lit.int .i64 n).wf = true) : -9223372036854775808 ≤ n ∧ n < 9223372036854775808 := by
  have := bounds_i64 h
  omega
theorem isrow_bytes {w : World} {a : Option Addr} {len cap : Nat} {zs : List Int} (h : IsRow .u8 w a len cap zs) : ((zs.take len).map fun z => [AV.v (.int .u8 z)]) = bys ((zs.take len).map fun z => UInt8.ofNat z.toNat) := by
  unfold bys
  rw [List.map_map]
  refine List.map_congr_left fun z hz => ?_
  obtain ⟨h0, h1⟩ := wf_u8 (isrow_mem h z (List.mem_of_mem_take hz))
  simp only [Function.comp_apply, List.cons.injEq, AV.v.injEq, Value.int.injEq, true_and, and_true]
  have : (UInt8.ofNat z.toNat).toNat = z.toNat := by simp; omega
  omega
end Go.Proofs.YtbpoeggmpjepfaaDoor.Ab

/- What came in, opened: from the row's own reading to abstract values, for any type of numbers, strings, bools, structs, arrays and slices. -/
set_option linter.unusedVariables false
set_option linter.unusedSimpArgs false
set_option maxRecDepth 20000
namespace Go.Proofs.YtbpoeggmpjepfaaDoor.Ab
open Go Go.RowKit

def inFields (P : Program) (R : TypeId → List AV → Prop) : List Field → List AV → Prop
  | [], cs => cs = []
  | f :: fs, cs => ∃ a b, cs = a ++ b ∧ a.length = P.cellsOf f.type ∧ R f.type a ∧ inFields P R fs b
def inElems (R : List AV → Prop) (sz : Nat) : Nat → List AV → Prop
  | 0, cs => cs = []
  | n + 1, cs => ∃ a b, cs = a ++ b ∧ a.length = sz ∧ R a ∧ inElems R sz n b
/-- The cells of a value of type t. -/
def isAV (P : Program) : Nat → TypeId → List AV → Prop
  | 0, _, _ => False
  | n + 1, t, cs => match P.underlying t with
    | some .bool => ∃ b, cs = [.v (.bool b)]
    | some (.int k) => ∃ m, cs = [.v (.int k m)] ∧ (Lit.int k m).wf = true
    | some .string => ∃ s, cs = [.v (.string s)] ∧ s.size ≤ maxLen
    | some (.slice e) => ∃ els, cs = [.sl none false (P.cellsOf e) els] ∧ els.length ≤ maxLen ∧ ∀ el ∈ els, el.length = P.cellsOf e ∧ isAV P n e el
    | some (.struct fs) => inFields P (isAV P n) fs.toList cs
    | some (.array m e) => inElems (isAV P n e) (P.cellsOf e) m cs
    | _ => False
def tile (P : Program) : List Field → Nat → Option Nat
  | [], o => some o
  | f :: fs, o => if f.offset = o then tile P fs (o + P.cellsOf f.type) else none
/-- Types that are opened so. -/
def plainT (P : Program) : Nat → TypeId → Bool
  | 0, _ => false
  | n + 1, t => match P.underlying t with
    | some .bool | some (.int _) | some .string => true
    | some (.slice e) => Nat.blt 0 (P.cellsOf e) && plainT P n e
    | some (.struct fs) => decide (tile P fs.toList 0 = some (P.cellsOf t)) && fs.toList.all (fun f => plainT P n f.type)
    | some (.array m e) => decide (m * P.cellsOf e = P.cellsOf t) && plainT P n e
    | _ => false
theorem CellsRep.append {k : Cx} {a b : List AV} {u v : List Value} (h : CellsRep k a u) (h' : CellsRep k b v) : CellsRep k (a ++ b) (u ++ v) := by
  refine ⟨by simp [h.1, h'.1], fun j x y hx hy => ?_⟩
  rcases Nat.lt_or_ge j a.length with hlt | hge
  · rw [List.getElem?_append_left hlt] at hx
    rw [List.getElem?_append_left (by rw [h.1]; exact hlt)] at hy
    exact h.2 j x y hx hy
  · rw [List.getElem?_append_right hge] at hx
    rw [List.getElem?_append_right (by rw [h.1]; exact hge), h.1] at hy
    exact h'.2 _ x y hx hy
theorem cellsRep_one {k : Cx} {a : AV} {u : Value} (h1 : u.oneCell' = true) (h : Rep k a u) : CellsRep k [a] [u] := by
  refine ⟨rfl, fun j x y hx hy => ?_⟩
  cases j with
  | zero => simp at hx hy; subst hx; subst hy; exact ⟨h1, h⟩
  | succ j => simp at hx
theorem cellsRep_nil (k : Cx) : CellsRep k [] [] := ⟨rfl, fun j x y hx => by simp at hx⟩
section
variable {H : Type} {enc : TypeId × Value → H} {P : Program} {w : World} {held : Bool}
theorem open_fields {n fuel : Nat} (ih : ∀ (t : TypeId) (cs : List Value) (x : DataW H × List MemPlace), plainT P n t = true → DataW.trod enc P w 0 (fun _ => true) held fuel t cs = some x → ∃ avs, isAV P n t avs ∧ CellsRep (k0 w) avs cs) :
    ∀ (fs : List Field) (o e : Nat) (cs : List Value), tile P fs o = some e → cs.length = e → fs.all (fun f => plainT P n f.type) = true →
      (∀ f ∈ fs, ∃ x, DataW.trod enc P w 0 (fun _ => true) held fuel f.type ((cs.drop f.offset).take (P.cellsOf f.type)) = some x) → ∃ avs, inFields P (isAV P n) fs avs ∧ CellsRep (k0 w) avs (cs.drop o) ∧ o ≤ e
  | [], o, e, cs, ht, hl, _, _ => by
    simp only [tile, Option.some.injEq] at ht
    exact ⟨[], rfl, by rw [List.drop_of_length_le (by omega)]; exact cellsRep_nil _, by omega⟩
  | f :: fs, o, e, cs, ht, hl, hp, hx => by
    unfold tile at ht
    split at ht
    · rename_i ho
      rw [List.all_cons, Bool.and_eq_true] at hp
      obtain ⟨avs, h1, h2, h3⟩ := open_fields ih fs _ e cs ht hl hp.2 (fun g hg => hx g (.tail _ hg))
      obtain ⟨x, hx1⟩ := hx f (.head _)
      obtain ⟨a, h4, h5⟩ := ih f.type _ x hp.1 hx1
      rw [ho] at h5
      refine ⟨a ++ avs, ⟨a, avs, rfl, ?_, h4, h1⟩, ?_, by omega⟩
      · rw [← h5.1, List.length_take, List.length_drop]; omega
      · have e1 : cs.drop o = (cs.drop o).take (P.cellsOf f.type) ++ cs.drop (o + P.cellsOf f.type) := by
          rw [← List.drop_drop, List.take_append_drop]
        rw [e1]
        exact h5.append h2
    · cases ht
theorem open_elems {n fuel : Nat} {e : TypeId} (ih : ∀ (cs : List Value) (x : DataW H × List MemPlace), DataW.trod enc P w 0 (fun _ => true) held fuel e cs = some x → ∃ avs, isAV P n e avs ∧ CellsRep (k0 w) avs cs) :
    ∀ (m : Nat) (cs : List Value), cs.length = m * P.cellsOf e → (∀ i, i < m → ∃ x, DataW.trod enc P w 0 (fun _ => true) held fuel e ((cs.drop (i * P.cellsOf e)).take (P.cellsOf e)) = some x) → ∃ avs, inElems (isAV P n e) (P.cellsOf e) m avs ∧ CellsRep (k0 w) avs cs
  | 0, cs, hl, _ => by
    have : cs = [] := List.eq_nil_of_length_eq_zero (by simpa using hl)
    subst this
    exact ⟨[], rfl, cellsRep_nil _⟩
  | m + 1, cs, hl, hx => by
    have hl' : cs.length = m * P.cellsOf e + P.cellsOf e := by rw [hl, Nat.add_mul, Nat.one_mul]
    obtain ⟨x, hx0⟩ := hx 0 (by omega)
    rw [Nat.zero_mul, List.drop_zero] at hx0
    obtain ⟨a, h1, h2⟩ := ih _ x hx0
    obtain ⟨b, h3, h4⟩ := open_elems ih m (cs.drop (P.cellsOf e)) (by rw [List.length_drop]; omega) (fun i hi => by
      obtain ⟨y, hy⟩ := hx (i + 1) (by omega)
      rw [Nat.add_mul, Nat.one_mul] at hy
      rw [List.drop_drop, Nat.add_comm (P.cellsOf e)]
      exact ⟨y, hy⟩)
    refine ⟨a ++ b, ⟨a, b, rfl, by rw [← h2.1, List.length_take]; omega, h1, h3⟩, ?_⟩
    rw [← List.take_append_drop (P.cellsOf e) cs]
    exact h2.append h4
theorem cells_get {a : Addr} {n : Nat} {cs : List Value} (h : w.cells? 0 a n = some cs) : cs.length = n ∧ ∀ j, j < n → ∃ u, cs[j]? = some u ∧ w.cell? (a.add j) = some u := by
  unfold World.cells? at h
  rw [if_pos (Nat.zero_le _)] at h
  refine ⟨by simpa using mapM_some_length h, fun j hj => ?_⟩
  have := mapM_some_get h j j (by simp [hj])
  have hl : j < cs.length := by rw [show cs.length = n by simpa using mapM_some_length h]; exact hj
  exact ⟨cs[j], List.getElem?_eq_getElem hl, by rw [this, List.getElem?_eq_getElem hl]⟩
theorem cell_plain {a : Addr} {u : Value} (h : w.cell? a = some u) : a.spot = none ∧ a.block < w.heap.size := by
  unfold World.cell? at h
  split at h
  · rename_i c t f hb
    split at h
    · cases h
    · rename_i hs
      exact ⟨by cases hh : a.spot <;> simp_all, (Array.getElem?_eq_some_iff.1 hb).1⟩
  · cases h
theorem choose_list {α : Type} {Q : Nat → α → Prop} : ∀ (n : Nat), (∀ i, i < n → ∃ x, Q i x) → ∃ l : List α, l.length = n ∧ ∀ i x, l[i]? = some x → Q i x
  | 0, _ => ⟨[], rfl, fun i x h => by simp at h⟩
  | n + 1, h => by
    obtain ⟨l, h1, h2⟩ := choose_list n (fun i hi => h i (by omega))
    obtain ⟨x, hx⟩ := h n (by omega)
    refine ⟨l ++ [x], by simp [h1], fun i y hy => ?_⟩
    rcases Nat.lt_or_ge i l.length with hlt | hge
    · rw [List.getElem?_append_left hlt] at hy
      exact h2 i y hy
    · rw [List.getElem?_append_right hge] at hy
      rcases Nat.eq_zero_or_pos (i - l.length) with h0 | h0
      · rw [h0] at hy
        simp at hy
        subst hy
        rwa [show i = n by omega]
      · rw [List.getElem?_eq_none (by simp; omega)] at hy
        cases hy
theorem open_cells : ∀ (n : Nat) (t : TypeId) (fuel : Nat) (cs : List Value) (x : DataW H × List MemPlace), plainT P n t = true → DataW.trod enc P w 0 (fun _ => true) held fuel t cs = some x → ∃ avs, isAV P n t avs ∧ CellsRep (k0 w) avs cs
  | 0, _, _, _, _, h, _ => by cases h
  | n + 1, t, fuel, cs, x, hp, h => by
    unfold plainT at hp
    split at hp
    · rename_i ht
      obtain ⟨b, rfl, _⟩ := DataW.trod_bool ht h
      exact ⟨_, by simp only [isAV, ht]; exact ⟨b, rfl⟩, cellsRep_one rfl (.v rfl)⟩
    · rename_i kk ht
      obtain ⟨m, rfl, _, hw⟩ := DataW.trod_int ht h
      exact ⟨_, by simp only [isAV, ht]; exact ⟨m, rfl, hw⟩, cellsRep_one rfl (.v rfl)⟩
    · rename_i ht
      obtain ⟨s, rfl, _, hs⟩ := DataW.trod_string ht h
      exact ⟨_, by simp only [isAV, ht]; exact ⟨s, rfl, hs⟩, cellsRep_one rfl (.v rfl)⟩
    · rename_i e ht
      rw [Bool.and_eq_true, Nat.blt_eq] at hp
      obtain ⟨hpos, hpe⟩ := hp
      rcases DataW.trod_slice ht h with ⟨rfl, _⟩ | ⟨a, len, cap, elems, rest, fu, rfl, rfl, _, _, hlc, hcm, hel, hget, hsp, _⟩
      · exact ⟨_, by simp only [isAV, ht]; exact ⟨[], rfl, by simp [maxLen], fun el h => by cases h⟩, cellsRep_one rfl (.slnil (by simp))⟩
      · obtain ⟨hrl, hrest⟩ := hsp rfl
        have hcell : ∀ i, i < len → ∃ (el : List AV × (Nat → Value)), (el.1.length = P.cellsOf e ∧ isAV P n e el.1) ∧ ∀ j b, el.1[j]? = some b → w.cell? ((a.add (i * P.cellsOf e)).add j) = some (el.2 j) ∧ (el.2 j).oneCell' = true ∧ Rep (k0 w) b (el.2 j) := fun i hi => by
          have h1 := hget i hi
          rw [List.getElem?_eq_getElem (show i < elems.length by omega), Option.bind_eq_some_iff] at h1
          obtain ⟨ci, h2, h3⟩ := h1
          obtain ⟨avs, h4, h5⟩ := open_cells n e fu ci _ hpe h3
          obtain ⟨h6, h7⟩ := cells_get h2
          refine ⟨(avs, fun j => (ci[j]?).getD undef), ⟨by rw [← h6, h5.1], h4⟩, fun j b hb => ?_⟩
          have hj : j < ci.length := by rw [h5.1]; exact (List.getElem?_eq_some_iff.1 hb).1
          obtain ⟨u, h8, h9⟩ := h7 j (by omega)
          simp only [h8, Option.getD_some]
          exact ⟨h9, h5.2 j b u hb h8⟩
        obtain ⟨els, hl, hels⟩ := choose_list len hcell
        have hav : isAV P (n + 1) t [.sl none false (P.cellsOf e) (els.map (·.1))] := by
          simp only [isAV, ht]
          refine ⟨els.map (·.1), rfl, by rw [List.length_map]; omega, fun el hm => ?_⟩
          obtain ⟨p, hpm, rfl⟩ := List.mem_map.1 hm
          obtain ⟨i, hi⟩ := List.mem_iff_getElem?.1 hpm
          exact (hels i p hi).1
        refine ⟨_, hav, cellsRep_one rfl ?_⟩
        by_cases hc0 : cap = 0
        · subst hc0
          have h0 : len = 0 := by omega
          subst h0
          rw [List.eq_nil_of_length_eq_zero hl]
          exact .sle (by simp)
        · have hplain : ∃ b o, a = ⟨b, o, none⟩ ∧ b < w.heap.size := by
            have hfirst : ∃ cs, w.cells? 0 a (P.cellsOf e) = some cs := by
              by_cases hl0 : 0 < len
              · have h1 := hget 0 hl0
                rw [List.getElem?_eq_getElem (show 0 < elems.length by omega), Option.bind_eq_some_iff] at h1
                obtain ⟨ci, h2, _⟩ := h1
                rw [Nat.zero_mul] at h2
                exact ⟨ci, by simpa [Addr.add] using h2⟩
              · have h1 := hrest 0 (by omega)
                rw [List.getElem?_eq_getElem (show 0 < rest.length by omega), Option.bind_eq_some_iff] at h1
                obtain ⟨ci, h2, _⟩ := h1
                rw [show len + 0 = 0 by omega, Nat.zero_mul] at h2
                exact ⟨ci, by simpa [Addr.add] using h2⟩
            obtain ⟨ci, h2⟩ := hfirst
            obtain ⟨_, h7⟩ := cells_get h2
            obtain ⟨u, _, h9⟩ := h7 0 hpos
            have := cell_plain h9
            simp only [Addr.add, if_true] at this
            obtain ⟨b, o, s⟩ := a
            obtain ⟨h10, h11⟩ := this
            simp only at h10 h11
            subst h10
            exact ⟨b, o, rfl, h11⟩
          obtain ⟨b, o, rfl, hb⟩ := hplain
          have hgoal : Rep (k0 w) (.sl none false (P.cellsOf e) (els.map (·.1))) (.slice (some ⟨b, o, none⟩) (els.map (·.1)).length cap) := by
            have hat : ∀ (i j : Nat) (q : List AV) (c : AV), (els.map (·.1))[i]? = some q → q[j]? = some c → ∃ p, els[i]? = some p ∧ p.1 = q ∧ w.cell? ⟨b, o + (i * P.cellsOf e + j), none⟩ = some (p.2 j) ∧ (p.2 j).oneCell' = true ∧ Rep (k0 w) c (p.2 j) := fun i j q c hq hc => by
              rw [List.getElem?_map, Option.map_eq_some_iff] at hq
              obtain ⟨p, hp1, rfl⟩ := hq
              obtain ⟨_, h12⟩ := hels i p hp1
              obtain ⟨h13, h14⟩ := h12 j c hc
              refine ⟨p, hp1, rfl, ?_, h14⟩
              have e1 : ((⟨b, o, none⟩ : Addr).add (i * P.cellsOf e)).add j = ⟨b, o + (i * P.cellsOf e + j), none⟩ := by
                rw [Addr.add_mid, Addr.add_mid, Nat.add_assoc]
              rwa [e1] at h13
            refine .sl (f := fun i j => ((els[i]?).map (fun p => p.2 j)).getD undef) (by simp) (by rw [List.length_map]; omega) (by rw [List.length_map]; omega) (by simp) (fun i q hq => ?_) (fun _ => ⟨hb, k0_live w b⟩) (fun i j q c hq hc => ?_) (fun i j q c hq hc => ?_)
            · rw [List.getElem?_map, Option.map_eq_some_iff] at hq
              obtain ⟨p, hp1, rfl⟩ := hq
              exact (hels i p hp1).1.1
            · obtain ⟨p, h15, _, h16, h17, _⟩ := hat i j q c hq hc
              simp only [h15, Option.map_some, Option.getD_some]
              exact ⟨h16, h17⟩
            · obtain ⟨p, h15, _, h16, h17, h18⟩ := hat i j q c hq hc
              simp only [h15, Option.map_some, Option.getD_some]
              exact h18
          rw [List.length_map, hl] at hgoal
          exact hgoal
    · rename_i fs ht
      rw [Bool.and_eq_true, decide_eq_true_eq] at hp
      obtain ⟨xs, fu, rfl, _, hl, hxl, hf⟩ := DataW.trod_struct ht h
      obtain ⟨avs, h1, h2, _⟩ := open_fields (fun t cs x => open_cells n t fu cs x) fs.toList 0 _ cs hp.1 hl hp.2 (fun f hfm => by
        obtain ⟨i, hi⟩ := List.mem_iff_getElem?.1 hfm
        have hi' : fs[i]? = some f := by simpa using hi
        have hlt : i < xs.length := by rw [hxl]; exact (Array.getElem?_eq_some_iff.1 hi').1
        exact ⟨xs[i], by rw [hf i f hi', List.getElem?_eq_getElem hlt]⟩)
      exact ⟨avs, by simp only [isAV, ht]; exact h1, by simpa using h2⟩
    · rename_i m e ht
      rw [Bool.and_eq_true, decide_eq_true_eq] at hp
      obtain ⟨xs, fu, rfl, _, hl, hxl, hf⟩ := DataW.trod_array ht h
      obtain ⟨avs, h1, h2⟩ := open_elems (fun cs x => open_cells n e fu cs x hp.2) m cs (by rw [hl, hp.1]) (fun i hi => ⟨xs[i], by rw [hf i hi, List.getElem?_eq_getElem (by omega)]⟩)
      exact ⟨avs, by simp only [isAV, ht]; exact h1, h2⟩
    · cases hp
/-- An argument. -/
def argAV (P : Program) (t : TypeId) (avs : List AV) : AV := match P.underlying t with
  | some (.struct _) | some (.array _ _) => .agg avs
  | _ => avs.headD (.tup [])
theorem open_arg {n base : Nat} {t : TypeId} {v : Value} {d : DataW H} {ps : List MemPlace} (hp : plainT P n t = true) (hv : Value.okWide P w .any base t v) (h : DataW.Trod enc P w 0 (fun _ => true) held t v d ps) : ∃ avs, isAV P n t avs ∧ Rep (k0 w) (argAV P t avs) v := by
  obtain ⟨fuel, hf⟩ := h
  obtain ⟨avs, h1, h2⟩ := open_cells n t fuel _ _ hp hf
  refine ⟨avs, h1, ?_⟩
  have hagg : (∃ cs, v = .agg cs) → Rep (k0 w) (.agg avs) v := by
    rintro ⟨cs, rfl⟩
    have h3 : (Value.agg cs).cells = cs := rfl
    rw [h3] at h2
    exact .agg (by simpa using h2.1) (fun j u hu => by
      have hj : j < avs.length := by rw [← h2.1]; simpa using (Array.getElem?_eq_some_iff.1 hu).1
      exact (h2.2 j _ u (List.getElem?_eq_getElem hj) (by simpa using hu)).1) (fun j a u ha hu => (h2.2 j a u ha (by simpa using hu)).2)
  have hone : v.cells.toList = [v] → Rep (k0 w) (avs.headD (.tup [])) v := fun h3 => by
    rw [h3] at h2
    obtain ⟨h4, h5⟩ := h2
    match avs, h4 with
    | [a], _ => exact (h5 0 a v rfl rfl).2
  cases n with
  | zero => cases hp
  | succ n =>
    unfold plainT at hp
    unfold argAV
    split at hp
    · rename_i ht
      rw [ht]
      simp only [Value.okWide, ht, Cell.okWide, Cell.ok] at hv
      exact hone (by cases v <;> first | rfl | (simp at hv))
    · rename_i kk ht
      rw [ht]
      simp only [Value.okWide, ht, Cell.okWide, Cell.ok] at hv
      exact hone (by cases v <;> first | rfl | (simp at hv))
    · rename_i ht
      rw [ht]
      simp only [Value.okWide, ht, Cell.okWide, Cell.ok] at hv
      exact hone (by cases v <;> first | rfl | (simp at hv))
    · rename_i e ht; rw [ht]; obtain ⟨a, l, c, rfl⟩ := Go.WideShapes.okWide_slice ht hv; exact hone rfl
    · rename_i fs ht; rw [ht]; obtain ⟨cs, rfl, _⟩ := Go.WideShapes.okWide_struct ht hv; exact hagg ⟨cs, rfl⟩
    · rename_i m e ht
      rw [ht]
      have : ∃ cs, v = .agg cs := by
        simp only [Value.okWide, ht] at hv
        obtain ⟨cs, h1, _⟩ := hv
        exact ⟨cs, h1⟩
      exact hagg this
    · cases hp
theorem list_of {α β : Type} {g : α → β} {Q : α → Prop} : ∀ (l : List β), (∀ b ∈ l, ∃ x, b = g x ∧ Q x) → ∃ xs : List α, l = xs.map g ∧ ∀ x ∈ xs, Q x
  | [], _ => ⟨[], rfl, fun x h => by cases h⟩
  | b :: l, h => by
    obtain ⟨x, rfl, hq⟩ := h b (.head _)
    obtain ⟨xs, rfl, h2⟩ := list_of l (fun c hc => h c (.tail _ hc))
    exact ⟨x :: xs, rfl, fun y hy => by
      rcases List.mem_cons.1 hy with rfl | hy
      · exact hq
      · exact h2 y hy⟩
end
end Go.Proofs.YtbpoeggmpjepfaaDoor.Ab

/- Bytes that came in, opened. -/
set_option linter.unusedVariables false
set_option linter.unusedSimpArgs false
set_option maxRecDepth 20000
namespace Go.Proofs.YtbpoeggmpjepfaaDoor.Ab
open Go Go.RowKit
theorem open_bytes {P : Program} {n : Nat} {t e : TypeId} {avs : List AV} (ht : P.underlying t = some (.slice e)) (he : P.underlying e = some (.int .u8)) (hc : P.cellsOf e = 1) (h : isAV P (n + 2) t avs) : ∃ l : List UInt8, avs = [.sl none false 1 (bys l)] ∧ l.length ≤ maxLen := by
  simp only [isAV, ht, he, hc] at h
  obtain ⟨els, rfl, hl, h⟩ := h
  obtain ⟨xs, rfl, _⟩ := list_of (g := fun b : UInt8 => [AV.v (.int .u8 b.toNat)]) (Q := fun _ => True) els (fun el hel => by
    obtain ⟨_, m, rfl, hm⟩ := h el hel
    obtain ⟨h0, h1⟩ := wf_u8 hm
    refine ⟨UInt8.ofNat m.toNat, ?_, trivial⟩
    have : (UInt8.ofNat m.toNat).toNat = m.toNat := by simp; omega
    simp only [this, List.cons.injEq, AV.v.injEq, Value.int.injEq, true_and, and_true]
    omega)
  exact ⟨xs, rfl, by simpa using hl⟩
end Go.Proofs.YtbpoeggmpjepfaaDoor.Ab

/- Classes, facts and what changes them, that came in, opened. -/
set_option linter.unusedVariables false
set_option linter.unusedSimpArgs false
set_option maxRecDepth 20000
namespace Go.Proofs.YtbpoeggmpjepfaaDoor.Ab
open Go Go.RowKit
theorem open_list {P : Program} {n : Nat} {t e : TypeId} {sz : Nat} {avs : List AV} {α : Type} (g : α → List AV) (Q : α → Prop) (ht : P.underlying t = some (.slice e)) (hc : P.cellsOf e = sz) (h : isAV P (n + 1) t avs) (he : ∀ el, isAV P n e el → ∃ x, el = g x ∧ Q x) : ∃ l : List α, avs = [.sl none false sz (l.map g)] ∧ (∀ x ∈ l, Q x) ∧ l.length ≤ maxLen := by
  simp only [isAV, ht, hc] at h
  obtain ⟨els, rfl, hl, h⟩ := h
  obtain ⟨xs, rfl, hq⟩ := list_of (g := g) (Q := Q) els (fun el hel => he el (h el hel).2)
  exact ⟨xs, rfl, hq, by simpa using hl⟩
theorem open_v {n : Nat} {avs : List AV} (h : isAV Tryd.prog (n + 2) 30 avs) : ∃ v : Vl, avs = vc v ∧ (0 ≤ v.k ∧ v.k < 256) ∧ (-9223372036854775808 ≤ v.n ∧ v.n < 9223372036854775808) := by
  obtain ⟨a, r1, rfl, _, ⟨k, rfl, hk⟩, b, r2, rfl, _, ⟨m, rfl, hm⟩, c, r3, rfl, _, ⟨s, rfl, hs⟩, rfl⟩ := h
  exact ⟨⟨k, m, s⟩, rfl, wf_u8 hk, wf_i64 hm⟩
theorem open_s {n : Nat} {avs : List AV} (h : isAV Tryd.prog (n + 1) 9 avs) : ∃ s : ByteArray, avs = str1 s ∧ True := by
  obtain ⟨s, rfl, _⟩ : ∃ s, avs = [AV.v (.string s)] ∧ s.size ≤ maxLen := h
  exact ⟨s, rfl, trivial⟩
theorem open_c {n : Nat} {avs : List AV} (h : isAV Tryd.prog (n + 3) 100 avs) : ∃ c : Cls, avs = cc c ∧ True := by
  obtain ⟨a, r1, rfl, _, ⟨s, rfl, _⟩, b, r2, rfl, _, hb, rfl⟩ := h
  obtain ⟨l, rfl, _, _⟩ := open_list (e := 9) (sz := 1) str1 (fun _ => True) (by kernel_rfl) (by kernel_rfl) hb (fun el hel => open_s hel)
  exact ⟨⟨s, l⟩, rfl, trivial⟩
theorem open_f {n : Nat} {avs : List AV} (h : isAV Tryd.prog (n + 4) 52 avs) : ∃ f : Fc, avs = fc f ∧ ∀ v ∈ f.vals, (0 ≤ v.k ∧ v.k < 256) ∧ (-9223372036854775808 ≤ v.n ∧ v.n < 9223372036854775808) := by
  obtain ⟨a, r1, rfl, _, ⟨m, rfl, hm⟩, b, r2, rfl, _, ⟨s, rfl, _⟩, c, r3, rfl, _, hc, rfl⟩ := h
  obtain ⟨l, rfl, hq, _⟩ := open_list (e := 30) (sz := 3) vc (fun v => (0 ≤ v.k ∧ v.k < 256) ∧ (-9223372036854775808 ≤ v.n ∧ v.n < 9223372036854775808)) (by kernel_rfl) (by kernel_rfl) hc (fun el hel => open_v hel)
  exact ⟨⟨m, s, l⟩, rfl, hq⟩
theorem open_b {n : Nat} {avs : List AV} (h : isAV Tryd.prog (n + 3) 73 avs) : ∃ b : Bd, avs = bc b ∧ (0 ≤ b.val.k ∧ b.val.k < 256) := by
  obtain ⟨a, r1, rfl, _, ⟨s, rfl, _⟩, b, r2, rfl, _, hb, rfl⟩ := h
  obtain ⟨v, rfl, hk, _⟩ := open_v hb
  exact ⟨⟨s, v⟩, rfl, hk⟩
theorem open_cs {n : Nat} {avs : List AV} (h : isAV Tryd.prog (n + 4) 41 avs) : ∃ l : List Cls, avs = [.sl none false 2 (l.map cc)] := by
  obtain ⟨l, rfl, _⟩ := open_list (e := 100) (sz := 2) cc (fun _ => True) (by kernel_rfl) (by kernel_rfl) h (fun el hel => open_c hel)
  exact ⟨l, rfl⟩
theorem open_bs {n : Nat} {avs : List AV} (h : isAV Tryd.prog (n + 4) 23 avs) : ∃ l : List Bd, avs = [.sl none false 4 (l.map bc)] := by
  obtain ⟨l, rfl, _⟩ := open_list (e := 73) (sz := 4) bc (fun b => 0 ≤ b.val.k ∧ b.val.k < 256) (by kernel_rfl) (by kernel_rfl) h (fun el hel => open_b hel)
  exact ⟨l, rfl⟩
end Go.Proofs.YtbpoeggmpjepfaaDoor.Ab

/- Items, rules, programs, numbers that came in, opened (nothing asked of them). -/
set_option linter.unusedVariables false
set_option linter.unusedSimpArgs false
set_option maxRecDepth 20000
namespace Go.Proofs.YtbpoeggmpjepfaaDoor.Ab
open Go Go.RowKit
theorem o7_tst {n : Nat} {avs : List AV} (h : isAV Tryd.prog (n + 3) 71 avs) : ∃ t : Tst, avs = tc t ∧ (0 ≤ t.p ∧ t.p < 256) := by
  obtain ⟨a, r1, rfl, _, ⟨m, rfl, hm⟩, b, r2, rfl, _, ⟨s, rfl, _⟩, c, r3, rfl, _, hc, rfl⟩ := h
  obtain ⟨v, rfl, hk, _⟩ := open_v hc
  exact ⟨⟨m, s, v⟩, rfl, wf_u8 hm⟩
theorem o7_atr {n : Nat} {avs : List AV} (h : isAV Tryd.prog (n + 5) 69 avs) : ∃ a : Atr, avs = ac a ∧ True := by
  obtain ⟨a, r1, rfl, _, ⟨s, rfl, _⟩, b, r2, rfl, _, hb, c, r3, rfl, _, hc, rfl⟩ := h
  obtain ⟨o, rfl, _⟩ := open_list (e := 30) (sz := 3) vc (fun v => True) (by kernel_rfl) (by kernel_rfl) hb (fun el hel => by obtain ⟨v, h, _⟩ := open_v hel; exact ⟨v, h, trivial⟩)
  obtain ⟨t, rfl, _⟩ := open_list (e := 71) (sz := 5) tc (fun v => True) (by kernel_rfl) (by kernel_rfl) hc (fun el hel => by obtain ⟨v, h, _⟩ := o7_tst hel; exact ⟨v, h, trivial⟩)
  exact ⟨⟨s, o, t⟩, rfl, trivial⟩
theorem o7_cnd {n : Nat} {avs : List AV} (h : isAV Tryd.prog (n + 7) 27 avs) : ∃ c : Cnd, avs = dc c ∧ True := by
  obtain ⟨a, r1, rfl, _, ⟨b, rfl⟩, b, r2, rfl, _, ⟨s, rfl, _⟩, c, r3, rfl, _, hc, rfl⟩ := h
  obtain ⟨l, rfl, _⟩ := open_list (e := 69) (sz := 3) ac (fun v => True) (by kernel_rfl) (by kernel_rfl) hc (fun el hel => o7_atr hel)
  exact ⟨⟨_, s, l⟩, rfl, trivial⟩
theorem o7_itm {n : Nat} {avs : List AV} (h : isAV Tryd.prog (n + 3) 32 avs) : ∃ x : Itm, avs = itc x ∧ True := by
  obtain ⟨a, r1, rfl, _, ⟨k, rfl, hk⟩, b, r2, rfl, _, hb, c, r3, rfl, _, ⟨s, rfl, _⟩, rfl⟩ := h
  obtain ⟨v, rfl, _, _⟩ := open_v hb
  exact ⟨⟨k, v, s⟩, rfl, trivial⟩
theorem o7_itl {n : Nat} {avs : List AV} (h : isAV Tryd.prog (n + 4) 22 avs) : ∃ l : List Itm, avs = itl l ∧ True := by
  obtain ⟨l, rfl, _⟩ := open_list (e := 32) (sz := 5) itc (fun _ => True) (by kernel_rfl) (by kernel_rfl) h (fun el hel => o7_itm hel)
  exact ⟨l, rfl, trivial⟩
theorem o7_sgl {n : Nat} {avs : List AV} (h : isAV Tryd.prog (n + 5) 104 avs) : ∃ s : Sgl, avs = sgc s ∧ True := by
  obtain ⟨a, r1, rfl, _, ⟨s, rfl, _⟩, b, r2, rfl, _, hb, rfl⟩ := h
  obtain ⟨l, rfl, _⟩ := o7_itl hb
  exact ⟨⟨s, l⟩, rfl, trivial⟩
theorem o7_acn {n : Nat} {avs : List AV} (h : isAV Tryd.prog (n + 7) 96 avs) : ∃ a : Acn, avs = anc a ∧ True := by
  obtain ⟨a, r1, rfl, _, ⟨k, rfl, hk⟩, b, r2, rfl, _, ⟨s, rfl, _⟩, c, r3, rfl, _, ⟨m, rfl, hm⟩, d, r4, rfl, _, ⟨v, rfl, _⟩, e, r5, rfl, _, he, f, r6, rfl, _, hf, rfl⟩ := h
  obtain ⟨ss, rfl, _⟩ := open_list (e := 104) (sz := 2) sgc (fun _ => True) (by kernel_rfl) (by kernel_rfl) he (fun el hel => o7_sgl hel)
  obtain ⟨es, rfl, _⟩ := open_list (e := 22) (sz := 1) itl (fun _ => True) (by kernel_rfl) (by kernel_rfl) hf (fun el hel => o7_itl hel)
  exact ⟨⟨k, s, m, v, ss, es⟩, rfl, trivial⟩
theorem o7_rul {n : Nat} {avs : List AV} (h : isAV Tryd.prog (n + 9) 59 avs) : ∃ r : Rul, avs = ruc r ∧ True := by
  obtain ⟨a, r1, rfl, _, ⟨s, rfl, _⟩, b, r2, rfl, _, hb, c, r3, rfl, _, hc, rfl⟩ := h
  obtain ⟨cs, rfl, hcs, _⟩ := open_list (e := 27) (sz := 3) dc (fun _ => True) (by kernel_rfl) (by kernel_rfl) hb (fun el hel => o7_cnd hel)
  obtain ⟨ns, rfl, _⟩ := open_list (e := 96) (sz := 6) anc (fun _ => True) (by kernel_rfl) (by kernel_rfl) hc (fun el hel => o7_acn hel)
  exact ⟨⟨s, cs, ns⟩, rfl, trivial⟩
theorem o7_prg {n : Nat} {avs : List AV} (h : isAV Tryd.prog (n + 11) 44 avs) : ∃ p : Prg, avs = pgc p ∧ True := by
  obtain ⟨a, r1, rfl, _, ha, b, r2, rfl, _, hb, rfl⟩ := h
  obtain ⟨cs, rfl, _⟩ := open_list (e := 100) (sz := 2) cc (fun _ => True) (by kernel_rfl) (by kernel_rfl) ha (fun el hel => open_c hel)
  obtain ⟨rs, rfl, hrs, _⟩ := open_list (e := 59) (sz := 3) ruc (fun _ => True) (by kernel_rfl) (by kernel_rfl) hb (fun el hel => o7_rul hel)
  exact ⟨⟨cs, rs⟩, rfl, trivial⟩
theorem open_i1 {n : Nat} {avs : List AV} (h : isAV Tryd.prog (n + 1) 3 avs) : ∃ m : Int, avs = int1 m ∧ True := by
  obtain ⟨m, rfl, _⟩ : ∃ m, avs = [AV.v (.int .i64 m)] ∧ (Lit.int .i64 m).wf = true := h
  exact ⟨m, rfl, trivial⟩
theorem open_u8 {n : Nat} {avs : List AV} (h : isAV Tryd.prog (n + 1) 5 avs) : ∃ m : Int, avs = [.v (.int .u8 m)] ∧ 0 ≤ m ∧ m < 256 := by
  obtain ⟨m, rfl, hm⟩ : ∃ m, avs = [AV.v (.int .u8 m)] ∧ (Lit.int .u8 m).wf = true := h
  exact ⟨m, rfl, wf_u8 hm⟩
end Go.Proofs.YtbpoeggmpjepfaaDoor.Ab
