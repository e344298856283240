/- The texts KL, RJ, CA, CF, AbRm, RK, RL, RM, RN, one behind the other. -/
import Derived.Test.YtbpoeggmpjepfaaDoorM1
import Derived.Test.YtbpoeggmpjepfaaDoorM2
import Derived.Test.YtbpoeggmpjepfaaDoorM3
import Derived.Test.YtbpoeggmpjepfaaDoorM4
import Derived.Test.YtbpoeggmpjepfaaDoorM5
import Derived.Test.YtbpoeggmpjepfaaDoorM6
import Derived.Test.YtbpoeggmpjepfaaDoorM7
import Derived.Test.YtbpoeggmpjepfaaDoorM8
import Derived.Test.YtbpoeggmpjepfaaDoorM9
import Derived.Test.YtbpoeggmpjepfaaDoorM10
/- Programs that are small enough: the walk. -/
set_option linter.unusedVariables false
set_option linter.unusedSimpArgs false
set_option maxRecDepth 20000
namespace Go.Proofs.YtbpoeggmpjepfaaDoor.Ab
open Go
attribute [local irreducible] thn inb endR CJ LJ OpJ DJ DA DB AllocK
theorem all_no {α : Type} {f : α → Bool} {x : α} {r l : List α} (h : (x :: r).all f = l.all f) (hx : f x = false) : l.all f = false := by rw [← h, List.all_cons, hx]; rfl
theorem all_yes {α : Type} {f : α → Bool} {x : α} {r l : List α} (h : (x :: r).all f = l.all f) (hx : f x = true) : r.all f = l.all f := by rw [← h, List.all_cons, hx]; rfl
theorem all_end {α : Type} {f : α → Bool} {l : List α} (h : ([] : List α).all f = l.all f) : l.all f = true := h.symm
def ltIb (x : Itm) : Bool := decide (x.var.size ≤ 60) && decide (x.val.s.size ≤ 60)
def ltEb (l : List Itm) : Bool := decide (l.length ≤ 40) && l.all ltIb
def ltVb (v : Vl) : Bool := decide (v.s.size ≤ 60)
def ltTb (x : Tst) : Bool := decide (x.v.size ≤ 60) && decide (x.val.s.size ≤ 60)
def ltsb (a : Atr) : Bool := a.ones.all ltVb && a.tests.all ltTb
def ltAb (a : Atr) : Bool := decide (a.attr.size ≤ 60) && decide (a.ones.length ≤ 12) && decide (a.tests.length ≤ 12) && ltsb a
def ltCb (c : Cnd) : Bool := decide (c.attrs.length ≤ 10) && decide (c.cls.size ≤ 60) && c.attrs.all ltAb
def ltSb (s : Sgl) : Bool := decide (s.attr.size ≤ 60) && ltEb s.expr
def ltNb (a : Acn) : Bool := decide (a.sets.length ≤ 10) && decide (a.exprs.length ≤ 12) && decide (a.cls.size ≤ 60) && decide (a.var.size ≤ 60) && a.sets.all ltSb && a.exprs.all ltEb
def ltRb (r : Rul) : Bool := decide (r.conds.length ≤ 8) && decide (r.acts.length ≤ 12) && decide (r.name.size ≤ 60) && r.conds.all ltCb && r.acts.all ltNb
def ltWb (s : ByteArray) : Bool := decide (s.size ≤ 60)
def ltLb (c : Cls) : Bool := decide (c.name.size ≤ 60) && decide (c.attrs.length ≤ 10) && c.attrs.all ltWb
def ltPb (p : Prg) : Bool := decide (p.classes.length ≤ 20) && decide (p.rules.length ≤ 6) && p.classes.all ltLb && p.rules.all ltRb
set_option maxHeartbeats 1000000 in
theorem p_lightItems (l : List Itm) : Pure Tryd.prog 65 [.sl none false 5 (l.map itc)] (.v (.bool (ltEb l))) := by
  refine enterW Tryd.func65 rfl rfl rfl rfl (fun σ => ?_)
  have hl1 : (l.map itc).length = l.length := List.length_map ..
  by_cases hl : 40 < l.length
  · repeat' (first|(first|(refine jl ?_;first|refine j1 ?_|refine j4 ?_)|(refine jc ?_;first|refine c1 ?_|refine c2 ?_|refine c7 ?_)|refine n2 ?_|refine n11 ?_)|(refine c9 (fun h=>?_) (fun h=>?_)<;>((try simp only [Bool.or_eq_true, Bool.and_eq_true, Bool.or_eq_false_iff, Bool.and_eq_false_iff, Bool.not_eq_true', Bool.not_eq_false', decide_eq_true_eq, decide_eq_false_iff_not, Bool.false_eq_true, Bool.true_eq_false, reduceCtorEq] at h) <;> (try simp (disch := omega) only [sb_bt, w64, Int.reduceAdd, Int.reduceToNat, Int.toNat_natCast, not_true_eq_false, false_or] at h) <;> (try (exfalso; omega)))))
    refine gives (by repeat' (first | exact St.le_refl _ | refine St.le_any ?_)) (fin_one (.wk (Wk.of_eq ?_)))
    simp [ltEb, ofLeaf]
    omega
  · have hl2 : l.length ≤ 40 := by omega
    repeat' (first|(first|(refine jl ?_;first|refine j1 ?_|refine j4 ?_)|(refine jc ?_;first|refine c1 ?_|refine c2 ?_|refine c5 ?_|refine c6 ?_)|refine n1 ?_)|(refine c9 (fun h=>?_) (fun h=>?_)<;>((try simp only [Bool.or_eq_true, Bool.and_eq_true, Bool.or_eq_false_iff, Bool.and_eq_false_iff, Bool.not_eq_true', Bool.not_eq_false', decide_eq_true_eq, decide_eq_false_iff_not, Bool.false_eq_true, Bool.true_eq_false, reduceCtorEq] at h) <;> (try simp (disch := omega) only [sb_bt, w64, Int.reduceAdd, Int.reduceToNat, Int.toNat_natCast, not_true_eq_false, false_or] at h) <;> (try (exfalso; omega)))))
    refine cj_for (fun i : Nat => i ≤ l.length ∧ (l.drop i).all ltIb = l.all ltIb) (fun i => [(3, .v (.int .i64 i))]) (fun _ => _) (fun i => l.length - i) 0 ⟨Nat.zero_le _, rfl⟩ ⟨⟨_, rfl, fun _ _ h => h⟩, trivial⟩ (St.le_refl _) (fun i0 hi => ?_)
    obtain ⟨hi0, hs0⟩ := hi
    rcases hd : l.drop i0 with _ | ⟨x0, r0⟩
    · have z0 := dropn hd
      rw [hd] at hs0
      repeat' (first|(first|(refine jl ?_;first|refine j1 ?_|refine j4 ?_)|(refine jc ?_;first|refine c1 ?_|refine c2 ?_|refine c7 ?_|refine c8 ?_)|refine n1 ?_|refine n3 ?_|refine n7 ?_|refine n8 ?_|refine n11 ?_)|(refine c9 (fun h=>?_) (fun h=>?_)<;>((try simp only [Bool.or_eq_true, Bool.and_eq_true, Bool.or_eq_false_iff, Bool.and_eq_false_iff, Bool.not_eq_true', Bool.not_eq_false', decide_eq_true_eq, decide_eq_false_iff_not, Bool.false_eq_true, Bool.true_eq_false, reduceCtorEq] at h) <;> (try simp (disch := omega) only [sb_bt, w64, Int.reduceAdd, Int.reduceToNat, Int.toNat_natCast, not_true_eq_false, false_or] at h) <;> (try (exfalso; omega)))))
      have q := all_end hs0
      refine gives (by repeat' (first | exact St.le_refl _ | refine St.le_any ?_)) (fin_one (.wk (Wk.of_eq ?_)))
      simp [ltEb, ofLeaf, q, hl2]
    · obtain ⟨u0, v0, w0⟩ := dropc hd
      have e0 := get_map itc w0
      rw [hd] at hs0
      repeat' (first|(first|(refine jl ?_;first|refine j7 ?_|refine jbl ?_|refine j1 ?_|refine j4 ?_|refine j6 ?_|refine j9 ?_|refine ji1 ?_|refine ji3 ?_)|(refine jc ?_;first|refine c1 ?_|refine c2 ?_|refine c5 ?_|refine c6 ?_|refine c7 ?_)|refine n1 ?_|refine n2 ?_|refine n5 ?_|refine n6 ?_|refine n10 ?_|refine n11 ?_)|(refine c9 (fun h=>?_) (fun h=>?_)<;>((try simp only [Bool.or_eq_true, Bool.and_eq_true, Bool.or_eq_false_iff, Bool.and_eq_false_iff, Bool.not_eq_true', Bool.not_eq_false', decide_eq_true_eq, decide_eq_false_iff_not, Bool.false_eq_true, Bool.true_eq_false, reduceCtorEq] at h) <;> (try simp (disch := omega) only [sb_bt, w64, Int.reduceAdd, Int.reduceToNat, Int.toNat_natCast, not_true_eq_false, false_or] at h) <;> (try (exfalso; omega)))))
      · have q := all_no hs0 (by first | (simp [ltIb]; done) | (simp [ltIb]; omega))
        refine gives (by repeat' (first | exact St.le_refl _ | refine St.le_any ?_)) (fin_one (.wk (Wk.of_eq ?_)))
        simp [ltEb, ofLeaf, q]
      · exact nx_forS (i0 + 1) ⟨by omega, by rw [v0]; exact all_yes hs0 (by first | (simp [ltIb]; done) | (simp [ltIb]; omega))⟩ (by omega) ⟨⟨_, rfl, wk1 (by omega)⟩, trivial⟩ (by repeat' (first | exact St.le_refl _ | refine St.le_any ?_))
set_option maxHeartbeats 1000000 in
theorem p_lightTests (a : Atr) : Pure Tryd.prog 64 [.agg (ac a)] (.v (.bool (ltsb a))) := by
  refine enterW Tryd.func64 rfl rfl rfl rfl (fun σ => ?_)
  obtain ⟨an, ao, at_⟩ := a
  refine cj_lenA 0 1 (fun hm1 => ?_)
  refine cj_lenA 0 2 (fun hm2 => ?_)
  dsimp only at hm1 hm2
  have hl1 : (ao.map vc).length = ao.length := List.length_map ..
  have hl2 : (at_.map tc).length = at_.length := List.length_map ..
  repeat' (first|(first|(refine jl ?_;first|refine j1 ?_|refine j4 ?_|refine j12 (fun id hid=>?_))|(refine jc ?_;first|refine c1 ?_|refine c2 ?_|refine c5 ?_)))
  refine cj_for (fun i : Nat => i ≤ ao.length ∧ (ao.drop i).all ltVb = ao.all ltVb) (fun i => [(3, .v (.int .i64 i))]) (fun _ => _) (fun i => ao.length - i) 0 ⟨Nat.zero_le _, rfl⟩ ⟨⟨_, rfl, fun _ _ h => h⟩, trivial⟩ (St.le_refl _) (fun i0 hi => ?_)
  obtain ⟨hi0, hs0⟩ := hi
  rcases hd : ao.drop i0 with _ | ⟨x0, r0⟩
  · have z0 := dropn hd
    rw [hd] at hs0
    have q0 := all_end hs0
    repeat' (first|(first|(refine jl ?_;first|refine j1 ?_|refine j4 ?_|refine j14 ?_)|(refine jc ?_;first|refine c1 ?_|refine c2 ?_|refine c5 ?_|refine c8 ?_)|refine n1 ?_|refine n3 ?_|refine n7 ?_|refine n8 ?_)|(refine c9 (fun h=>?_) (fun h=>?_)<;>((try simp only [Bool.or_eq_true, Bool.and_eq_true, Bool.or_eq_false_iff, Bool.and_eq_false_iff, Bool.not_eq_true', Bool.not_eq_false', decide_eq_true_eq, decide_eq_false_iff_not, Bool.false_eq_true, Bool.true_eq_false, reduceCtorEq] at h) <;> (try simp (disch := omega) only [sb_bt, w64, Int.reduceAdd, Int.reduceToNat, Int.toNat_natCast, not_true_eq_false, false_or] at h) <;> (try (exfalso; omega)))))
    refine cj_for (fun i : Nat => i ≤ at_.length ∧ (at_.drop i).all ltTb = at_.all ltTb) (fun i => [(4, .v (.int .i64 i))]) (fun _ => _) (fun i => at_.length - i) 0 ⟨Nat.zero_le _, rfl⟩ ⟨⟨_, rfl, fun _ _ h => h⟩, trivial⟩ (St.le_refl _) (fun i1 hi => ?_)
    obtain ⟨hi1, hs1⟩ := hi
    rcases hd : at_.drop i1 with _ | ⟨x1, r1⟩
    · have z1 := dropn hd
      rw [hd] at hs1
      repeat' (first|(first|(refine jl ?_;first|refine j1 ?_|refine j4 ?_|refine j14 ?_)|(refine jc ?_;first|refine c1 ?_|refine c2 ?_|refine c7 ?_|refine c8 ?_)|refine n1 ?_|refine n3 ?_|refine n7 ?_|refine n8 ?_|refine n11 ?_)|(refine c9 (fun h=>?_) (fun h=>?_)<;>((try simp only [Bool.or_eq_true, Bool.and_eq_true, Bool.or_eq_false_iff, Bool.and_eq_false_iff, Bool.not_eq_true', Bool.not_eq_false', decide_eq_true_eq, decide_eq_false_iff_not, Bool.false_eq_true, Bool.true_eq_false, reduceCtorEq] at h) <;> (try simp (disch := omega) only [sb_bt, w64, Int.reduceAdd, Int.reduceToNat, Int.toNat_natCast, not_true_eq_false, false_or] at h) <;> (try (exfalso; omega)))))
      have q1 := all_end hs1
      refine gives (by repeat' (first | exact St.le_refl _ | refine St.le_any ?_)) (fin_one (.wk (Wk.of_eq ?_)))
      simp [ltsb, ofLeaf, q0, q1]
    · obtain ⟨u1, v1, w1⟩ := dropc hd
      have e1 := get_map tc w1
      rw [hd] at hs1
      repeat' (first|(first|(refine jl ?_;first|refine j7 ?_|refine jbl ?_|refine j1 ?_|refine j4 ?_|refine j6 ?_|refine j9 ?_|refine j14 ?_|refine j16 ?_|refine ji1 ?_|refine ji3 ?_)|(refine jc ?_;first|refine c1 ?_|refine c2 ?_|refine c5 ?_|refine c6 ?_|refine c7 ?_)|refine n1 ?_|refine n2 ?_|refine n5 ?_|refine n6 ?_|refine n10 ?_|refine n11 ?_)|(refine c9 (fun h=>?_) (fun h=>?_)<;>((try simp only [Bool.or_eq_true, Bool.and_eq_true, Bool.or_eq_false_iff, Bool.and_eq_false_iff, Bool.not_eq_true', Bool.not_eq_false', decide_eq_true_eq, decide_eq_false_iff_not, Bool.false_eq_true, Bool.true_eq_false, reduceCtorEq] at h) <;> (try simp (disch := omega) only [sb_bt, w64, Int.reduceAdd, Int.reduceToNat, Int.toNat_natCast, not_true_eq_false, false_or] at h) <;> (try (exfalso; omega)))))
      · have q1 := all_no hs1 (by first | (simp [ltTb]; done) | (simp [ltTb]; omega))
        refine gives (by repeat' (first | exact St.le_refl _ | refine St.le_any ?_)) (fin_one (.wk (Wk.of_eq ?_)))
        simp [ltsb, ofLeaf, q1]
      · exact nx_forS (i1 + 1) ⟨by omega, by rw [v1]; exact all_yes hs1 (by first | (simp [ltTb]; done) | (simp [ltTb]; omega))⟩ (by omega) ⟨⟨_, rfl, wk1 (by omega)⟩, trivial⟩ (by repeat' (first | exact St.le_refl _ | refine St.le_any ?_))
  · obtain ⟨u0, v0, w0⟩ := dropc hd
    have e0 := get_map vc w0
    rw [hd] at hs0
    repeat' (first|(first|(refine jl ?_;first|refine jbl ?_|refine j1 ?_|refine j4 ?_|refine j6 ?_|refine j14 ?_|refine ji1 ?_)|(refine jc ?_;first|refine c1 ?_|refine c2 ?_|refine c5 ?_|refine c6 ?_|refine c7 ?_)|refine n1 ?_|refine n2 ?_|refine n5 ?_|refine n6 ?_|refine n10 ?_|refine n11 ?_)|(refine c9 (fun h=>?_) (fun h=>?_)<;>((try simp only [Bool.or_eq_true, Bool.and_eq_true, Bool.or_eq_false_iff, Bool.and_eq_false_iff, Bool.not_eq_true', Bool.not_eq_false', decide_eq_true_eq, decide_eq_false_iff_not, Bool.false_eq_true, Bool.true_eq_false, reduceCtorEq] at h) <;> (try simp (disch := omega) only [sb_bt, w64, Int.reduceAdd, Int.reduceToNat, Int.toNat_natCast, not_true_eq_false, false_or] at h) <;> (try (exfalso; omega)))))
    · have q0 := all_no hs0 (by first | (simp [ltVb]; done) | (simp [ltVb]; omega))
      refine gives (by repeat' (first | exact St.le_refl _ | refine St.le_any ?_)) (fin_one (.wk (Wk.of_eq ?_)))
      simp [ltsb, ofLeaf, q0]
    · exact nx_forS (i0 + 1) ⟨by omega, by rw [v0]; exact all_yes hs0 (by first | (simp [ltVb]; done) | (simp [ltVb]; omega))⟩ (by omega) ⟨⟨_, rfl, wk1 (by omega)⟩, trivial⟩ (by repeat' (first | exact St.le_refl _ | refine St.le_any ?_))
set_option maxHeartbeats 4000000 in
theorem p_lightRule (r : Rul) : Pure Tryd.prog 47 [.agg (ruc r)] (.v (.bool (ltRb r))) := by
  refine enterW Tryd.func47 rfl rfl rfl rfl (fun σ => ?_)
  obtain ⟨rn, rc, ra⟩ := r
  have hl1 : (rc.map dc).length = rc.length := List.length_map ..
  have hl2 : (ra.map anc).length = ra.length := List.length_map ..
  by_cases hl : 8 < rc.length ∨ 12 < ra.length ∨ 60 < rn.size
  · repeat' (first|(first|(refine jl ?_;first|refine j7 ?_|refine j1 ?_|refine j4 ?_|refine j9 ?_|refine j12 (fun id hid=>?_)|refine j14 ?_|refine j16 ?_)|(refine jc ?_;first|refine c1 ?_|refine c2 ?_|refine c7 ?_)|refine n2 ?_|refine n11 ?_)|(refine c9 (fun h=>?_) (fun h=>?_)<;>((try simp only [Bool.or_eq_true, Bool.and_eq_true, Bool.or_eq_false_iff, Bool.and_eq_false_iff, Bool.not_eq_true', Bool.not_eq_false', decide_eq_true_eq, decide_eq_false_iff_not, Bool.false_eq_true, Bool.true_eq_false, reduceCtorEq] at h) <;> (try simp (disch := omega) only [sb_bt, w64, Int.reduceAdd, Int.reduceToNat, Int.toNat_natCast, not_true_eq_false, false_or] at h) <;> (try (exfalso; omega)))))
    refine gives (by repeat' (first | exact St.le_refl _ | refine St.le_any ?_)) (fin_one (.wk (Wk.of_eq ?_)))
    simp [ltRb, ofLeaf]
    omega
  · have hn1 : rc.length ≤ 8 := by omega
    have hn2 : ra.length ≤ 12 := by omega
    have hn3 : rn.size ≤ 60 := by omega
    repeat' (first|(first|(refine jl ?_;first|refine j7 ?_|refine j1 ?_|refine j4 ?_|refine j9 ?_|refine j12 (fun id hid=>?_)|refine j14 ?_|refine j16 ?_)|(refine jc ?_;first|refine c1 ?_|refine c2 ?_|refine c5 ?_|refine c6 ?_)|refine n1 ?_)|(refine c9 (fun h=>?_) (fun h=>?_)<;>((try simp only [Bool.or_eq_true, Bool.and_eq_true, Bool.or_eq_false_iff, Bool.and_eq_false_iff, Bool.not_eq_true', Bool.not_eq_false', decide_eq_true_eq, decide_eq_false_iff_not, Bool.false_eq_true, Bool.true_eq_false, reduceCtorEq] at h) <;> (try simp (disch := omega) only [sb_bt, w64, Int.reduceAdd, Int.reduceToNat, Int.toNat_natCast, not_true_eq_false, false_or] at h) <;> (try (exfalso; omega)))))
    refine cj_for (fun i : Nat => i ≤ rc.length ∧ (rc.drop i).all ltCb = rc.all ltCb) (fun i => [(3, .v (.int .i64 i))]) (fun _ => _) (fun i => rc.length - i) 0 ⟨Nat.zero_le _, rfl⟩ ⟨⟨_, rfl, fun _ _ h => h⟩, trivial⟩ (St.le_refl _) (fun i0 hi => ?_)
    obtain ⟨hi0, hs0⟩ := hi
    rcases hd : rc.drop i0 with _ | ⟨x0, r0⟩
    · have z0 := dropn hd
      rw [hd] at hs0
      have q0 := all_end hs0
      repeat' (first|(first|(refine jl ?_;first|refine j1 ?_|refine j4 ?_|refine j14 ?_)|(refine jc ?_;first|refine c1 ?_|refine c2 ?_|refine c5 ?_|refine c8 ?_)|refine n1 ?_|refine n3 ?_|refine n7 ?_|refine n8 ?_)|(refine c9 (fun h=>?_) (fun h=>?_)<;>((try simp only [Bool.or_eq_true, Bool.and_eq_true, Bool.or_eq_false_iff, Bool.and_eq_false_iff, Bool.not_eq_true', Bool.not_eq_false', decide_eq_true_eq, decide_eq_false_iff_not, Bool.false_eq_true, Bool.true_eq_false, reduceCtorEq] at h) <;> (try simp (disch := omega) only [sb_bt, w64, Int.reduceAdd, Int.reduceToNat, Int.toNat_natCast, not_true_eq_false, false_or] at h) <;> (try (exfalso; omega)))))
      refine cj_for (fun i : Nat => i ≤ ra.length ∧ (ra.drop i).all ltNb = ra.all ltNb) (fun i => [(6, .v (.int .i64 i))]) (fun _ => _) (fun i => ra.length - i) 0 ⟨Nat.zero_le _, rfl⟩ ⟨⟨_, rfl, fun _ _ h => h⟩, trivial⟩ (St.le_refl _) (fun i2 hi => ?_)
      obtain ⟨hi2, hs2⟩ := hi
      rcases hd : ra.drop i2 with _ | ⟨x2, r2⟩
      · have z2 := dropn hd
        rw [hd] at hs2
        repeat' (first|(first|(refine jl ?_;first|refine j1 ?_|refine j4 ?_|refine j14 ?_)|(refine jc ?_;first|refine c1 ?_|refine c2 ?_|refine c7 ?_|refine c8 ?_)|refine n1 ?_|refine n3 ?_|refine n7 ?_|refine n8 ?_|refine n11 ?_)|(refine c9 (fun h=>?_) (fun h=>?_)<;>((try simp only [Bool.or_eq_true, Bool.and_eq_true, Bool.or_eq_false_iff, Bool.and_eq_false_iff, Bool.not_eq_true', Bool.not_eq_false', decide_eq_true_eq, decide_eq_false_iff_not, Bool.false_eq_true, Bool.true_eq_false, reduceCtorEq] at h) <;> (try simp (disch := omega) only [sb_bt, w64, Int.reduceAdd, Int.reduceToNat, Int.toNat_natCast, not_true_eq_false, false_or] at h) <;> (try (exfalso; omega)))))
        have q2 := all_end hs2
        refine gives (by repeat' (first | exact St.le_refl _ | refine St.le_any ?_)) (fin_one (.wk (Wk.of_eq ?_)))
        simp [ltRb, ofLeaf, hn1, hn2, hn3, q0, q2]
      · obtain ⟨u2, v2, w2⟩ := dropc hd
        have e2 := get_map anc w2
        rw [hd] at hs2
        obtain ⟨ak, al, an, av, as_, ae⟩ := x2
        have hm1 : (as_.map sgc).length = as_.length := List.length_map ..
        have hm2 : (ae.map itl).length = ae.length := List.length_map ..
        by_cases hb : 10 < as_.length ∨ 12 < ae.length ∨ 60 < al.size ∨ 60 < av.size
        · repeat' (first|(first|(refine jl ?_;first|refine j7 ?_|refine jbl ?_|refine j1 ?_|refine j4 ?_|refine j9 ?_|refine j13 (fun id hid=>?_)|refine j14 ?_|refine j17t ?_|refine j16 ?_|refine ji1 ?_)|(refine jc ?_;first|refine c1 ?_|refine c2 ?_|refine c5 ?_|refine c6 ?_|refine c7 ?_)|refine n1 ?_|refine n2 ?_|refine n5 ?_|refine n6 ?_|refine n11 ?_)|(refine c9 (fun h=>?_) (fun h=>?_)<;>((try simp only [Bool.or_eq_true, Bool.and_eq_true, Bool.or_eq_false_iff, Bool.and_eq_false_iff, Bool.not_eq_true', Bool.not_eq_false', decide_eq_true_eq, decide_eq_false_iff_not, Bool.false_eq_true, Bool.true_eq_false, reduceCtorEq] at h) <;> (try simp (disch := omega) only [sb_bt, w64, Int.reduceAdd, Int.reduceToNat, Int.toNat_natCast, not_true_eq_false, false_or] at h) <;> (try (exfalso; omega)))))
          have q2 := all_no hs2 (by simp [ltNb]; omega)
          refine gives (by repeat' (first | exact St.le_refl _ | refine St.le_any ?_)) (fin_one (.wk (Wk.of_eq ?_)))
          simp [ltRb, ofLeaf, q2]
        · have hb1 : as_.length ≤ 10 := by omega
          have hb2 : ae.length ≤ 12 := by omega
          have hb3 : al.size ≤ 60 := by omega
          have hb4 : av.size ≤ 60 := by omega
          repeat' (first|(first|(refine jl ?_;first|refine j7 ?_|refine jbl ?_|refine j1 ?_|refine j4 ?_|refine j9 ?_|refine j13 (fun id hid=>?_)|refine j14 ?_|refine j17t ?_|refine j16 ?_|refine ji1 ?_)|(refine jc ?_;first|refine c1 ?_|refine c2 ?_|refine c5 ?_|refine c6 ?_)|refine n1 ?_)|(refine c9 (fun h=>?_) (fun h=>?_)<;>((try simp only [Bool.or_eq_true, Bool.and_eq_true, Bool.or_eq_false_iff, Bool.and_eq_false_iff, Bool.not_eq_true', Bool.not_eq_false', decide_eq_true_eq, decide_eq_false_iff_not, Bool.false_eq_true, Bool.true_eq_false, reduceCtorEq] at h) <;> (try simp (disch := omega) only [sb_bt, w64, Int.reduceAdd, Int.reduceToNat, Int.toNat_natCast, not_true_eq_false, false_or] at h) <;> (try (exfalso; omega)))))
          refine cj_for (fun i : Nat => i ≤ as_.length ∧ (as_.drop i).all ltSb = as_.all ltSb) (fun i => [(8, .v (.int .i64 i))]) (fun _ => _) (fun i => as_.length - i) 0 ⟨Nat.zero_le _, rfl⟩ ⟨⟨_, rfl, fun _ _ h => h⟩, trivial⟩ (St.le_refl _) (fun i3 hi => ?_)
          obtain ⟨hi3, hs3⟩ := hi
          rcases hd : as_.drop i3 with _ | ⟨x3, r3⟩
          · have z3 := dropn hd
            rw [hd] at hs3
            have q3 := all_end hs3
            repeat' (first|(first|(refine jl ?_;first|refine j1 ?_|refine j4 ?_|refine j14 ?_)|(refine jc ?_;first|refine c1 ?_|refine c2 ?_|refine c5 ?_|refine c8 ?_)|refine n1 ?_|refine n3 ?_|refine n7 ?_|refine n8 ?_)|(refine c9 (fun h=>?_) (fun h=>?_)<;>((try simp only [Bool.or_eq_true, Bool.and_eq_true, Bool.or_eq_false_iff, Bool.and_eq_false_iff, Bool.not_eq_true', Bool.not_eq_false', decide_eq_true_eq, decide_eq_false_iff_not, Bool.false_eq_true, Bool.true_eq_false, reduceCtorEq] at h) <;> (try simp (disch := omega) only [sb_bt, w64, Int.reduceAdd, Int.reduceToNat, Int.toNat_natCast, not_true_eq_false, false_or] at h) <;> (try (exfalso; omega)))))
            refine cj_for (fun i : Nat => i ≤ ae.length ∧ (ae.drop i).all ltEb = ae.all ltEb) (fun i => [(9, .v (.int .i64 i))]) (fun _ => _) (fun i => ae.length - i) 0 ⟨Nat.zero_le _, rfl⟩ ⟨⟨_, rfl, fun _ _ h => h⟩, trivial⟩ (St.le_refl _) (fun i4 hi => ?_)
            obtain ⟨hi4, hs4⟩ := hi
            rcases hd : ae.drop i4 with _ | ⟨x4, r4⟩
            · have z4 := dropn hd
              rw [hd] at hs4
              have q4 := all_end hs4
              repeat' (first|(first|(refine jl ?_;first|refine j1 ?_|refine j4 ?_|refine j6 ?_|refine j14 ?_)|(refine jc ?_;first|refine c1 ?_|refine c2 ?_|refine c8 ?_)|refine n1 ?_|refine n3 ?_|refine n7 ?_|refine n8 ?_|refine n10 ?_)|(refine c9 (fun h=>?_) (fun h=>?_)<;>((try simp only [Bool.or_eq_true, Bool.and_eq_true, Bool.or_eq_false_iff, Bool.and_eq_false_iff, Bool.not_eq_true', Bool.not_eq_false', decide_eq_true_eq, decide_eq_false_iff_not, Bool.false_eq_true, Bool.true_eq_false, reduceCtorEq] at h) <;> (try simp (disch := omega) only [sb_bt, w64, Int.reduceAdd, Int.reduceToNat, Int.toNat_natCast, not_true_eq_false, false_or] at h) <;> (try (exfalso; omega)))))
              exact nx_forS (i2 + 1) ⟨by omega, by rw [v2]; exact all_yes hs2 (by simp [ltNb, hb1, hb2, hb3, hb4, q3, q4])⟩ (by omega) ⟨⟨_, rfl, wk1 (by omega)⟩, trivial⟩ (by repeat' (first | exact St.le_refl _ | refine St.le_any ?_))
            · obtain ⟨u4, v4, w4⟩ := dropc hd
              have e4 := get_map itl w4
              rw [hd] at hs4
              have k1 := p_lightItems x4
              cases hb5 : ltEb x4
              · rw [hb5] at k1
                repeat' (first|(first|(refine jl ?_;first|refine jbl ?_|refine j1 ?_|refine j4 ?_|refine j14 ?_|refine ji1 ?_|refine jp (k1) ?_)|(refine jc ?_;first|refine c1 ?_|refine c2 ?_|refine c5 ?_|refine c6 ?_|refine c7 ?_)|refine n1 ?_|refine n2 ?_|refine n5 ?_|refine n6 ?_|refine n11 ?_)|(refine c9 (fun h=>?_) (fun h=>?_)<;>((try simp only [Bool.or_eq_true, Bool.and_eq_true, Bool.or_eq_false_iff, Bool.and_eq_false_iff, Bool.not_eq_true', Bool.not_eq_false', decide_eq_true_eq, decide_eq_false_iff_not, Bool.false_eq_true, Bool.true_eq_false, reduceCtorEq] at h) <;> (try simp (disch := omega) only [sb_bt, w64, Int.reduceAdd, Int.reduceToNat, Int.toNat_natCast, not_true_eq_false, false_or] at h) <;> (try (exfalso; omega)))))
                all_goals first
                  | (exfalso; simp at h; done)
                  | (exfalso; simp at h; omega)
                  | (have q4 := all_no hs4 hb5
                     have q2 := all_no hs2 (by simp [ltNb, q4])
                     refine gives (by repeat' (first | exact St.le_refl _ | refine St.le_any ?_)) (fin_one (.wk (Wk.of_eq ?_)))
                     simp [ltRb, ofLeaf, q2])
              · rw [hb5] at k1
                repeat' (first|(first|(refine jl ?_;first|refine jbl ?_|refine j1 ?_|refine j4 ?_|refine j6 ?_|refine j14 ?_|refine ji1 ?_|refine jp (k1) ?_)|(refine jc ?_;first|refine c1 ?_|refine c2 ?_|refine c5 ?_|refine c6 ?_)|refine n1 ?_|refine n10 ?_)|(refine c9 (fun h=>?_) (fun h=>?_)<;>((try simp only [Bool.or_eq_true, Bool.and_eq_true, Bool.or_eq_false_iff, Bool.and_eq_false_iff, Bool.not_eq_true', Bool.not_eq_false', decide_eq_true_eq, decide_eq_false_iff_not, Bool.false_eq_true, Bool.true_eq_false, reduceCtorEq] at h) <;> (try simp (disch := omega) only [sb_bt, w64, Int.reduceAdd, Int.reduceToNat, Int.toNat_natCast, not_true_eq_false, false_or] at h) <;> (try (exfalso; omega)))))
                all_goals first
                  | (exfalso; simp at h; done)
                  | (exfalso; simp at h; omega)
                  | (exact nx_forS (i4 + 1) ⟨by omega, by rw [v4]; exact all_yes hs4 hb5⟩ (by omega) ⟨⟨_, rfl, wk1 (by omega)⟩, trivial⟩ (by repeat' (first | exact St.le_refl _ | refine St.le_any ?_)))
          · obtain ⟨u3, v3, w3⟩ := dropc hd
            have e3 := get_map sgc w3
            rw [hd] at hs3
            have k1 := p_lightItems x3.expr
            cases hb5 : ltEb x3.expr
            · rw [hb5] at k1
              repeat' (first|(first|(refine jl ?_;first|refine j7 ?_|refine jbl ?_|refine j1 ?_|refine j4 ?_|refine j6 ?_|refine j9 ?_|refine j14 ?_|refine j16 ?_|refine ji1 ?_|refine ji3 ?_|refine jcq (hp:=fun hc=>k1) ?_)|(refine jc ?_;first|refine c1 ?_|refine c2 ?_|refine c5 ?_|refine c6 ?_|refine c7 ?_)|refine n1 ?_|refine n2 ?_|refine n5 ?_|refine n6 ?_|refine n10 ?_|refine n11 ?_)|(refine c9 (fun h=>?_) (fun h=>?_)<;>((try simp only [Bool.or_eq_true, Bool.and_eq_true, Bool.or_eq_false_iff, Bool.and_eq_false_iff, Bool.not_eq_true', Bool.not_eq_false', decide_eq_true_eq, decide_eq_false_iff_not, Bool.false_eq_true, Bool.true_eq_false, reduceCtorEq] at h) <;> (try simp (disch := omega) only [sb_bt, w64, Int.reduceAdd, Int.reduceToNat, Int.toNat_natCast, not_true_eq_false, false_or] at h) <;> (try (exfalso; omega)))))
              all_goals first
                | (exfalso; simp at h; done)
                | (exfalso; simp at h; omega)
                | (have q3 := all_no hs3 (by simp [ltSb, hb5])
                   have q2 := all_no hs2 (by simp [ltNb, q3])
                   refine gives (by repeat' (first | exact St.le_refl _ | refine St.le_any ?_)) (fin_one (.wk (Wk.of_eq ?_)))
                   simp [ltRb, ofLeaf, q2])
            · rw [hb5] at k1
              by_cases hz : 60 < x3.attr.size
              · repeat' (first|(first|(refine jl ?_;first|refine j7 ?_|refine jbl ?_|refine j1 ?_|refine j4 ?_|refine j9 ?_|refine j14 ?_|refine j16 ?_|refine ji1 ?_|refine ji3 ?_|refine jcq (hp:=fun hc=>k1) ?_)|(refine jc ?_;first|refine c1 ?_|refine c2 ?_|refine c5 ?_|refine c6 ?_|refine c7 ?_)|refine n1 ?_|refine n2 ?_|refine n5 ?_|refine n6 ?_|refine n11 ?_)|(refine c9 (fun h=>?_) (fun h=>?_)<;>((try simp only [Bool.or_eq_true, Bool.and_eq_true, Bool.or_eq_false_iff, Bool.and_eq_false_iff, Bool.not_eq_true', Bool.not_eq_false', decide_eq_true_eq, decide_eq_false_iff_not, Bool.false_eq_true, Bool.true_eq_false, reduceCtorEq] at h) <;> (try simp (disch := omega) only [sb_bt, w64, Int.reduceAdd, Int.reduceToNat, Int.toNat_natCast, not_true_eq_false, false_or] at h) <;> (try (exfalso; omega)))))
                all_goals first
                  | (exfalso; simp at h; done)
                  | (exfalso; simp at h; omega)
                  | (have q3 := all_no hs3 (by simp [ltSb, hb5]; omega)
                     have q2 := all_no hs2 (by simp [ltNb, q3])
                     refine gives (by repeat' (first | exact St.le_refl _ | refine St.le_any ?_)) (fin_one (.wk (Wk.of_eq ?_)))
                     simp [ltRb, ofLeaf, q2])
              · repeat' (first|(first|(refine jl ?_;first|refine j7 ?_|refine jbl ?_|refine j1 ?_|refine j4 ?_|refine j6 ?_|refine j9 ?_|refine j14 ?_|refine j16 ?_|refine ji1 ?_|refine ji3 ?_|refine jcq (hp:=fun hc=>k1) ?_)|(refine jc ?_;first|refine c1 ?_|refine c2 ?_|refine c5 ?_|refine c6 ?_|refine c7 ?_)|refine n1 ?_|refine n2 ?_|refine n5 ?_|refine n6 ?_|refine n10 ?_|refine n11 ?_)|(refine c9 (fun h=>?_) (fun h=>?_)<;>((try simp only [Bool.or_eq_true, Bool.and_eq_true, Bool.or_eq_false_iff, Bool.and_eq_false_iff, Bool.not_eq_true', Bool.not_eq_false', decide_eq_true_eq, decide_eq_false_iff_not, Bool.false_eq_true, Bool.true_eq_false, reduceCtorEq] at h) <;> (try simp (disch := omega) only [sb_bt, w64, Int.reduceAdd, Int.reduceToNat, Int.toNat_natCast, not_true_eq_false, false_or] at h) <;> (try (exfalso; omega)))))
                all_goals first
                  | (exfalso; simp at h; done)
                  | (exfalso; simp at h; omega)
                  | (exact nx_forS (i3 + 1) ⟨by omega, by rw [v3]; exact all_yes hs3 (by simp [ltSb, hb5]; omega)⟩ (by omega) ⟨⟨_, rfl, wk1 (by omega)⟩, trivial⟩ (by repeat' (first | exact St.le_refl _ | refine St.le_any ?_)))
    · obtain ⟨u0, v0, w0⟩ := dropc hd
      have e0 := get_map dc w0
      rw [hd] at hs0
      obtain ⟨cn, cl, ca⟩ := x0
      have hm1 : (ca.map ac).length = ca.length := List.length_map ..
      by_cases hb : 10 < ca.length ∨ 60 < cl.size
      · repeat' (first|(first|(refine jl ?_;first|refine j7 ?_|refine jbl ?_|refine j1 ?_|refine j4 ?_|refine j9 ?_|refine j14 ?_|refine j16 ?_|refine ji1 ?_|refine ji3 ?_)|(refine jc ?_;first|refine c1 ?_|refine c2 ?_|refine c5 ?_|refine c6 ?_|refine c7 ?_)|refine n1 ?_|refine n2 ?_|refine n5 ?_|refine n6 ?_|refine n11 ?_)|(refine c9 (fun h=>?_) (fun h=>?_)<;>((try simp only [Bool.or_eq_true, Bool.and_eq_true, Bool.or_eq_false_iff, Bool.and_eq_false_iff, Bool.not_eq_true', Bool.not_eq_false', decide_eq_true_eq, decide_eq_false_iff_not, Bool.false_eq_true, Bool.true_eq_false, reduceCtorEq] at h) <;> (try simp (disch := omega) only [sb_bt, w64, Int.reduceAdd, Int.reduceToNat, Int.toNat_natCast, not_true_eq_false, false_or] at h) <;> (try (exfalso; omega)))))
        have q0 := all_no hs0 (by simp [ltCb]; omega)
        refine gives (by repeat' (first | exact St.le_refl _ | refine St.le_any ?_)) (fin_one (.wk (Wk.of_eq ?_)))
        simp [ltRb, ofLeaf, q0]
      · have hb1 : ca.length ≤ 10 := by omega
        have hb2 : cl.size ≤ 60 := by omega
        repeat' (first|(first|(refine jl ?_;first|refine j7 ?_|refine jbl ?_|refine j1 ?_|refine j4 ?_|refine j9 ?_|refine j14 ?_|refine j16 ?_|refine ji1 ?_|refine ji3 ?_)|(refine jc ?_;first|refine c1 ?_|refine c2 ?_|refine c5 ?_|refine c6 ?_)|refine n1 ?_)|(refine c9 (fun h=>?_) (fun h=>?_)<;>((try simp only [Bool.or_eq_true, Bool.and_eq_true, Bool.or_eq_false_iff, Bool.and_eq_false_iff, Bool.not_eq_true', Bool.not_eq_false', decide_eq_true_eq, decide_eq_false_iff_not, Bool.false_eq_true, Bool.true_eq_false, reduceCtorEq] at h) <;> (try simp (disch := omega) only [sb_bt, w64, Int.reduceAdd, Int.reduceToNat, Int.toNat_natCast, not_true_eq_false, false_or] at h) <;> (try (exfalso; omega)))))
        refine cj_for (fun i : Nat => i ≤ ca.length ∧ (ca.drop i).all ltAb = ca.all ltAb) (fun i => [(5, .v (.int .i64 i))]) (fun _ => _) (fun i => ca.length - i) 0 ⟨Nat.zero_le _, rfl⟩ ⟨⟨_, rfl, fun _ _ h => h⟩, trivial⟩ (St.le_refl _) (fun i1 hi => ?_)
        obtain ⟨hi1, hs1⟩ := hi
        rcases hd : ca.drop i1 with _ | ⟨x1, r1⟩
        · have z1 := dropn hd
          rw [hd] at hs1
          have q1 := all_end hs1
          repeat' (first|(first|(refine jl ?_;first|refine j1 ?_|refine j4 ?_|refine j6 ?_)|(refine jc ?_;first|refine c1 ?_|refine c2 ?_|refine c8 ?_)|refine n1 ?_|refine n3 ?_|refine n7 ?_|refine n8 ?_|refine n10 ?_)|(refine c9 (fun h=>?_) (fun h=>?_)<;>((try simp only [Bool.or_eq_true, Bool.and_eq_true, Bool.or_eq_false_iff, Bool.and_eq_false_iff, Bool.not_eq_true', Bool.not_eq_false', decide_eq_true_eq, decide_eq_false_iff_not, Bool.false_eq_true, Bool.true_eq_false, reduceCtorEq] at h) <;> (try simp (disch := omega) only [sb_bt, w64, Int.reduceAdd, Int.reduceToNat, Int.toNat_natCast, not_true_eq_false, false_or] at h) <;> (try (exfalso; omega)))))
          exact nx_forS (i0 + 1) ⟨by omega, by rw [v0]; exact all_yes hs0 (by simp [ltCb, hb1, hb2, q1])⟩ (by omega) ⟨⟨_, rfl, wk1 (by omega)⟩, trivial⟩ (by repeat' (first | exact St.le_refl _ | refine St.le_any ?_))
        · obtain ⟨u1, v1, w1⟩ := dropc hd
          have e1 := get_map ac w1
          rw [hd] at hs1
          have k1 := p_lightTests x1
          have hm3 : (x1.ones.map vc).length = x1.ones.length := List.length_map ..
          have hm4 : (x1.tests.map tc).length = x1.tests.length := List.length_map ..
          cases hb5 : ltsb x1
          · rw [hb5] at k1
            repeat' (first|(first|(refine jl ?_;first|refine j7 ?_|refine jbl ?_|refine j1 ?_|refine j4 ?_|refine j6 ?_|refine j9 ?_|refine ji1 ?_|refine ji3 ?_|refine jcq (hp:=fun hc=>k1) ?_)|(refine jc ?_;first|refine c1 ?_|refine c2 ?_|refine c5 ?_|refine c6 ?_|refine c7 ?_)|refine n1 ?_|refine n2 ?_|refine n5 ?_|refine n6 ?_|refine n10 ?_|refine n11 ?_)|(refine c9 (fun h=>?_) (fun h=>?_)<;>((try simp only [Bool.or_eq_true, Bool.and_eq_true, Bool.or_eq_false_iff, Bool.and_eq_false_iff, Bool.not_eq_true', Bool.not_eq_false', decide_eq_true_eq, decide_eq_false_iff_not, Bool.false_eq_true, Bool.true_eq_false, reduceCtorEq] at h) <;> (try simp (disch := omega) only [sb_bt, w64, Int.reduceAdd, Int.reduceToNat, Int.toNat_natCast, not_true_eq_false, false_or] at h) <;> (try (exfalso; omega)))))
            all_goals first
              | (exfalso; simp at h; done)
              | (exfalso; simp at h; omega)
              | (have q1 := all_no hs1 (by simp [ltAb, hb5])
                 have q0 := all_no hs0 (by simp [ltCb, q1])
                 refine gives (by repeat' (first | exact St.le_refl _ | refine St.le_any ?_)) (fin_one (.wk (Wk.of_eq ?_)))
                 simp [ltRb, ofLeaf, q0])
          · rw [hb5] at k1
            by_cases hz : 60 < x1.attr.size ∨ 12 < x1.ones.length ∨ 12 < x1.tests.length
            · repeat' (first|(first|(refine jl ?_;first|refine j7 ?_|refine jbl ?_|refine j1 ?_|refine j4 ?_|refine j9 ?_|refine ji1 ?_|refine ji3 ?_|refine jcq (hp:=fun hc=>k1) ?_)|(refine jc ?_;first|refine c1 ?_|refine c2 ?_|refine c5 ?_|refine c6 ?_|refine c7 ?_)|refine n1 ?_|refine n2 ?_|refine n5 ?_|refine n6 ?_|refine n11 ?_)|(refine c9 (fun h=>?_) (fun h=>?_)<;>((try simp only [Bool.or_eq_true, Bool.and_eq_true, Bool.or_eq_false_iff, Bool.and_eq_false_iff, Bool.not_eq_true', Bool.not_eq_false', decide_eq_true_eq, decide_eq_false_iff_not, Bool.false_eq_true, Bool.true_eq_false, reduceCtorEq] at h) <;> (try simp (disch := omega) only [sb_bt, w64, Int.reduceAdd, Int.reduceToNat, Int.toNat_natCast, not_true_eq_false, false_or] at h) <;> (try (exfalso; omega)))))
              all_goals first
                | (exfalso; simp at h; done)
                | (exfalso; simp at h; omega)
                | (have q1 := all_no hs1 (by simp [ltAb, hb5]; omega)
                   have q0 := all_no hs0 (by simp [ltCb, q1])
                   refine gives (by repeat' (first | exact St.le_refl _ | refine St.le_any ?_)) (fin_one (.wk (Wk.of_eq ?_)))
                   simp [ltRb, ofLeaf, q0])
            · repeat' (first|(first|(refine jl ?_;first|refine j7 ?_|refine jbl ?_|refine j1 ?_|refine j4 ?_|refine j6 ?_|refine j9 ?_|refine ji1 ?_|refine ji3 ?_|refine jcq (hp:=fun hc=>k1) ?_)|(refine jc ?_;first|refine c1 ?_|refine c2 ?_|refine c5 ?_|refine c6 ?_|refine c7 ?_)|refine n1 ?_|refine n2 ?_|refine n5 ?_|refine n6 ?_|refine n10 ?_|refine n11 ?_)|(refine c9 (fun h=>?_) (fun h=>?_)<;>((try simp only [Bool.or_eq_true, Bool.and_eq_true, Bool.or_eq_false_iff, Bool.and_eq_false_iff, Bool.not_eq_true', Bool.not_eq_false', decide_eq_true_eq, decide_eq_false_iff_not, Bool.false_eq_true, Bool.true_eq_false, reduceCtorEq] at h) <;> (try simp (disch := omega) only [sb_bt, w64, Int.reduceAdd, Int.reduceToNat, Int.toNat_natCast, not_true_eq_false, false_or] at h) <;> (try (exfalso; omega)))))
              all_goals first
                | (exfalso; simp at h; done)
                | (exfalso; simp at h; omega)
                | (exact nx_forS (i1 + 1) ⟨by omega, by rw [v1]; exact all_yes hs1 (by simp [ltAb, hb5]; omega)⟩ (by omega) ⟨⟨_, rfl, wk1 (by omega)⟩, trivial⟩ (by repeat' (first | exact St.le_refl _ | refine St.le_any ?_)))
set_option maxHeartbeats 2000000 in
theorem p_light15 (p : Prg) : Pure Tryd.prog 29 [.agg (pgc p)] (.v (.bool (ltPb p))) := by
  refine enterW Tryd.func29 rfl rfl rfl rfl (fun σ => ?_)
  obtain ⟨pc, pr⟩ := p
  have hl1 : (pc.map cc).length = pc.length := List.length_map ..
  have hl2 : (pr.map ruc).length = pr.length := List.length_map ..
  by_cases hl : 20 < pc.length ∨ 6 < pr.length
  · repeat' (first|(first|(refine jl ?_;first|refine j7 ?_|refine j1 ?_|refine j4 ?_|refine j9 ?_|refine j12 (fun id hid=>?_)|refine j14 ?_|refine j16 ?_)|(refine jc ?_;first|refine c1 ?_|refine c2 ?_|refine c7 ?_)|refine n2 ?_|refine n11 ?_)|(refine c9 (fun h=>?_) (fun h=>?_)<;>((try simp only [Bool.or_eq_true, Bool.and_eq_true, Bool.or_eq_false_iff, Bool.and_eq_false_iff, Bool.not_eq_true', Bool.not_eq_false', decide_eq_true_eq, decide_eq_false_iff_not, Bool.false_eq_true, Bool.true_eq_false, reduceCtorEq] at h) <;> (try simp (disch := omega) only [sb_bt, w64, Int.reduceAdd, Int.reduceToNat, Int.toNat_natCast, not_true_eq_false, false_or] at h) <;> (try (exfalso; omega)))))
    refine gives (by repeat' (first | exact St.le_refl _ | refine St.le_any ?_)) (fin_one (.wk (Wk.of_eq ?_)))
    simp [ltPb, ofLeaf]
    omega
  · have hn1 : pc.length ≤ 20 := by omega
    have hn2 : pr.length ≤ 6 := by omega
    repeat' (first|(first|(refine jl ?_;first|refine j7 ?_|refine j1 ?_|refine j4 ?_|refine j9 ?_|refine j12 (fun id hid=>?_)|refine j14 ?_|refine j16 ?_)|(refine jc ?_;first|refine c1 ?_|refine c2 ?_|refine c5 ?_|refine c6 ?_)|refine n1 ?_)|(refine c9 (fun h=>?_) (fun h=>?_)<;>((try simp only [Bool.or_eq_true, Bool.and_eq_true, Bool.or_eq_false_iff, Bool.and_eq_false_iff, Bool.not_eq_true', Bool.not_eq_false', decide_eq_true_eq, decide_eq_false_iff_not, Bool.false_eq_true, Bool.true_eq_false, reduceCtorEq] at h) <;> (try simp (disch := omega) only [sb_bt, w64, Int.reduceAdd, Int.reduceToNat, Int.toNat_natCast, not_true_eq_false, false_or] at h) <;> (try (exfalso; omega)))))
    refine cj_for (fun i : Nat => i ≤ pc.length ∧ (pc.drop i).all ltLb = pc.all ltLb) (fun i => [(3, .v (.int .i64 i))]) (fun _ => _) (fun i => pc.length - i) 0 ⟨Nat.zero_le _, rfl⟩ ⟨⟨_, rfl, fun _ _ h => h⟩, trivial⟩ (St.le_refl _) (fun i0 hi => ?_)
    obtain ⟨hi0, hs0⟩ := hi
    rcases hd : pc.drop i0 with _ | ⟨x0, r0⟩
    · have z0 := dropn hd
      rw [hd] at hs0
      have q0 := all_end hs0
      repeat' (first|(first|(refine jl ?_;first|refine j1 ?_|refine j4 ?_|refine j14 ?_)|(refine jc ?_;first|refine c1 ?_|refine c2 ?_|refine c5 ?_|refine c8 ?_)|refine n1 ?_|refine n3 ?_|refine n7 ?_|refine n8 ?_)|(refine c9 (fun h=>?_) (fun h=>?_)<;>((try simp only [Bool.or_eq_true, Bool.and_eq_true, Bool.or_eq_false_iff, Bool.and_eq_false_iff, Bool.not_eq_true', Bool.not_eq_false', decide_eq_true_eq, decide_eq_false_iff_not, Bool.false_eq_true, Bool.true_eq_false, reduceCtorEq] at h) <;> (try simp (disch := omega) only [sb_bt, w64, Int.reduceAdd, Int.reduceToNat, Int.toNat_natCast, not_true_eq_false, false_or] at h) <;> (try (exfalso; omega)))))
      refine cj_for (fun i : Nat => i ≤ pr.length ∧ (pr.drop i).all ltRb = pr.all ltRb) (fun i => [(6, .v (.int .i64 i))]) (fun _ => _) (fun i => pr.length - i) 0 ⟨Nat.zero_le _, rfl⟩ ⟨⟨_, rfl, fun _ _ h => h⟩, trivial⟩ (St.le_refl _) (fun i2 hi => ?_)
      obtain ⟨hi2, hs2⟩ := hi
      rcases hd : pr.drop i2 with _ | ⟨x2, r2⟩
      · have z2 := dropn hd
        rw [hd] at hs2
        repeat' (first|(first|(refine jl ?_;first|refine j1 ?_|refine j4 ?_|refine j14 ?_)|(refine jc ?_;first|refine c1 ?_|refine c2 ?_|refine c7 ?_|refine c8 ?_)|refine n1 ?_|refine n3 ?_|refine n7 ?_|refine n8 ?_|refine n11 ?_)|(refine c9 (fun h=>?_) (fun h=>?_)<;>((try simp only [Bool.or_eq_true, Bool.and_eq_true, Bool.or_eq_false_iff, Bool.and_eq_false_iff, Bool.not_eq_true', Bool.not_eq_false', decide_eq_true_eq, decide_eq_false_iff_not, Bool.false_eq_true, Bool.true_eq_false, reduceCtorEq] at h) <;> (try simp (disch := omega) only [sb_bt, w64, Int.reduceAdd, Int.reduceToNat, Int.toNat_natCast, not_true_eq_false, false_or] at h) <;> (try (exfalso; omega)))))
        have q2 := all_end hs2
        refine gives (by repeat' (first | exact St.le_refl _ | refine St.le_any ?_)) (fin_one (.wk (Wk.of_eq ?_)))
        simp [ltPb, ofLeaf, hn1, hn2, q0, q2]
      · obtain ⟨u2, v2, w2⟩ := dropc hd
        have e2 := get_map ruc w2
        rw [hd] at hs2
        have k1 := p_lightRule x2
        cases hb5 : ltRb x2
        · rw [hb5] at k1
          repeat' (first|(first|(refine jl ?_;first|refine jbl ?_|refine j1 ?_|refine j4 ?_|refine j14 ?_|refine ji1 ?_|refine jp (k1) ?_)|(refine jc ?_;first|refine c1 ?_|refine c2 ?_|refine c5 ?_|refine c6 ?_|refine c7 ?_)|refine n1 ?_|refine n2 ?_|refine n5 ?_|refine n6 ?_|refine n11 ?_)|(refine c9 (fun h=>?_) (fun h=>?_)<;>((try simp only [Bool.or_eq_true, Bool.and_eq_true, Bool.or_eq_false_iff, Bool.and_eq_false_iff, Bool.not_eq_true', Bool.not_eq_false', decide_eq_true_eq, decide_eq_false_iff_not, Bool.false_eq_true, Bool.true_eq_false, reduceCtorEq] at h) <;> (try simp (disch := omega) only [sb_bt, w64, Int.reduceAdd, Int.reduceToNat, Int.toNat_natCast, not_true_eq_false, false_or] at h) <;> (try (exfalso; omega)))))
          all_goals first
            | (exfalso; simp at h; done)
            | (exfalso; simp at h; omega)
            | (have q2 := all_no hs2 hb5
               refine gives (by repeat' (first | exact St.le_refl _ | refine St.le_any ?_)) (fin_one (.wk (Wk.of_eq ?_)))
               simp [ltPb, ofLeaf, q2])
        · rw [hb5] at k1
          repeat' (first|(first|(refine jl ?_;first|refine jbl ?_|refine j1 ?_|refine j4 ?_|refine j6 ?_|refine j14 ?_|refine ji1 ?_|refine jp (k1) ?_)|(refine jc ?_;first|refine c1 ?_|refine c2 ?_|refine c5 ?_|refine c6 ?_)|refine n1 ?_|refine n10 ?_)|(refine c9 (fun h=>?_) (fun h=>?_)<;>((try simp only [Bool.or_eq_true, Bool.and_eq_true, Bool.or_eq_false_iff, Bool.and_eq_false_iff, Bool.not_eq_true', Bool.not_eq_false', decide_eq_true_eq, decide_eq_false_iff_not, Bool.false_eq_true, Bool.true_eq_false, reduceCtorEq] at h) <;> (try simp (disch := omega) only [sb_bt, w64, Int.reduceAdd, Int.reduceToNat, Int.toNat_natCast, not_true_eq_false, false_or] at h) <;> (try (exfalso; omega)))))
          all_goals first
            | (exfalso; simp at h; done)
            | (exfalso; simp at h; omega)
            | (exact nx_forS (i2 + 1) ⟨by omega, by rw [v2]; exact all_yes hs2 hb5⟩ (by omega) ⟨⟨_, rfl, wk1 (by omega)⟩, trivial⟩ (by repeat' (first | exact St.le_refl _ | refine St.le_any ?_)))
    · obtain ⟨u0, v0, w0⟩ := dropc hd
      have e0 := get_map cc w0
      rw [hd] at hs0
      obtain ⟨cn, ca⟩ := x0
      have hm1 : (ca.map str1).length = ca.length := List.length_map ..
      by_cases hb : 60 < cn.size ∨ 10 < ca.length
      · repeat' (first|(first|(refine jl ?_;first|refine j7 ?_|refine jbl ?_|refine j1 ?_|refine j4 ?_|refine j9 ?_|refine j13 (fun id hid=>?_)|refine j14 ?_|refine j17t ?_|refine j16 ?_|refine ji1 ?_)|(refine jc ?_;first|refine c1 ?_|refine c2 ?_|refine c5 ?_|refine c6 ?_|refine c7 ?_)|refine n1 ?_|refine n2 ?_|refine n5 ?_|refine n6 ?_|refine n11 ?_)|(refine c9 (fun h=>?_) (fun h=>?_)<;>((try simp only [Bool.or_eq_true, Bool.and_eq_true, Bool.or_eq_false_iff, Bool.and_eq_false_iff, Bool.not_eq_true', Bool.not_eq_false', decide_eq_true_eq, decide_eq_false_iff_not, Bool.false_eq_true, Bool.true_eq_false, reduceCtorEq] at h) <;> (try simp (disch := omega) only [sb_bt, w64, Int.reduceAdd, Int.reduceToNat, Int.toNat_natCast, not_true_eq_false, false_or] at h) <;> (try (exfalso; omega)))))
        have q0 := all_no hs0 (by simp [ltLb]; omega)
        refine gives (by repeat' (first | exact St.le_refl _ | refine St.le_any ?_)) (fin_one (.wk (Wk.of_eq ?_)))
        simp [ltPb, ofLeaf, q0]
      · have hb1 : cn.size ≤ 60 := by omega
        have hb2 : ca.length ≤ 10 := by omega
        repeat' (first|(first|(refine jl ?_;first|refine j7 ?_|refine jbl ?_|refine j1 ?_|refine j4 ?_|refine j9 ?_|refine j13 (fun id hid=>?_)|refine j14 ?_|refine j17t ?_|refine j16 ?_|refine ji1 ?_)|(refine jc ?_;first|refine c1 ?_|refine c2 ?_|refine c5 ?_|refine c6 ?_)|refine n1 ?_)|(refine c9 (fun h=>?_) (fun h=>?_)<;>((try simp only [Bool.or_eq_true, Bool.and_eq_true, Bool.or_eq_false_iff, Bool.and_eq_false_iff, Bool.not_eq_true', Bool.not_eq_false', decide_eq_true_eq, decide_eq_false_iff_not, Bool.false_eq_true, Bool.true_eq_false, reduceCtorEq] at h) <;> (try simp (disch := omega) only [sb_bt, w64, Int.reduceAdd, Int.reduceToNat, Int.toNat_natCast, not_true_eq_false, false_or] at h) <;> (try (exfalso; omega)))))
        refine cj_for (fun i : Nat => i ≤ ca.length ∧ (ca.drop i).all ltWb = ca.all ltWb) (fun i => [(5, .v (.int .i64 i))]) (fun _ => _) (fun i => ca.length - i) 0 ⟨Nat.zero_le _, rfl⟩ ⟨⟨_, rfl, fun _ _ h => h⟩, trivial⟩ (St.le_refl _) (fun i1 hi => ?_)
        obtain ⟨hi1, hs1⟩ := hi
        rcases hd : ca.drop i1 with _ | ⟨x1, r1⟩
        · have z1 := dropn hd
          rw [hd] at hs1
          have q1 := all_end hs1
          repeat' (first|(first|(refine jl ?_;first|refine j1 ?_|refine j4 ?_|refine j6 ?_|refine j14 ?_)|(refine jc ?_;first|refine c1 ?_|refine c2 ?_|refine c8 ?_)|refine n1 ?_|refine n3 ?_|refine n7 ?_|refine n8 ?_|refine n10 ?_)|(refine c9 (fun h=>?_) (fun h=>?_)<;>((try simp only [Bool.or_eq_true, Bool.and_eq_true, Bool.or_eq_false_iff, Bool.and_eq_false_iff, Bool.not_eq_true', Bool.not_eq_false', decide_eq_true_eq, decide_eq_false_iff_not, Bool.false_eq_true, Bool.true_eq_false, reduceCtorEq] at h) <;> (try simp (disch := omega) only [sb_bt, w64, Int.reduceAdd, Int.reduceToNat, Int.toNat_natCast, not_true_eq_false, false_or] at h) <;> (try (exfalso; omega)))))
          exact nx_forS (i0 + 1) ⟨by omega, by rw [v0]; exact all_yes hs0 (by simp [ltLb, hb1, hb2, q1])⟩ (by omega) ⟨⟨_, rfl, wk1 (by omega)⟩, trivial⟩ (by repeat' (first | exact St.le_refl _ | refine St.le_any ?_))
        · obtain ⟨u1, v1, w1⟩ := dropc hd
          have e1 := get_map str1 w1
          rw [hd] at hs1
          repeat' (first|(first|(refine jl ?_;first|refine jbl ?_|refine j1 ?_|refine j4 ?_|refine j6 ?_|refine j14 ?_|refine ji1 ?_)|(refine jc ?_;first|refine c1 ?_|refine c2 ?_|refine c5 ?_|refine c6 ?_|refine c7 ?_)|refine n1 ?_|refine n2 ?_|refine n5 ?_|refine n6 ?_|refine n10 ?_|refine n11 ?_)|(refine c9 (fun h=>?_) (fun h=>?_)<;>((try simp only [Bool.or_eq_true, Bool.and_eq_true, Bool.or_eq_false_iff, Bool.and_eq_false_iff, Bool.not_eq_true', Bool.not_eq_false', decide_eq_true_eq, decide_eq_false_iff_not, Bool.false_eq_true, Bool.true_eq_false, reduceCtorEq] at h) <;> (try simp (disch := omega) only [sb_bt, w64, Int.reduceAdd, Int.reduceToNat, Int.toNat_natCast, not_true_eq_false, false_or] at h) <;> (try (exfalso; omega)))))
          · have q1 := all_no hs1 (by simp [ltWb]; omega)
            have q0 := all_no hs0 (by simp [ltLb, q1])
            refine gives (by repeat' (first | exact St.le_refl _ | refine St.le_any ?_)) (fin_one (.wk (Wk.of_eq ?_)))
            simp [ltPb, ofLeaf, q0]
          · exact nx_forS (i1 + 1) ⟨by omega, by rw [v1]; exact all_yes hs1 (by simp [ltWb]; omega)⟩ (by omega) ⟨⟨_, rfl, wk1 (by omega)⟩, trivial⟩ (by repeat' (first | exact St.le_refl _ | refine St.le_any ?_))
end Go.Proofs.YtbpoeggmpjepfaaDoor.Ab

/- Programs and facts small enough for a statement; numbers without one. -/
set_option linter.unusedVariables false
set_option linter.unusedSimpArgs false
set_option maxRecDepth 20000
namespace Go.Proofs.YtbpoeggmpjepfaaDoor.Ab
open Go
attribute [local irreducible] thn inb endR CJ LJ OpJ DJ DA DB AllocK
def few4 (r : Rul) : Bool := decide (r.conds.length ≤ 4)
noncomputable def L21 (p : Prg) (facts : List Fc) (most : Int) : Int := if ltPb p = true ∧ (facts.length : Int) ≤ most ∧ p.rules.all few4 = true ∧ facts.all (fun f => lightB p.classes f []) = true then 0 else 1
set_option maxHeartbeats 4000000 in
theorem p_light21 (nl : Option Bool) (full : Bool) (p : Prg) (facts : List Fc) (most : Int) : Pure Tryd.prog 13 [.agg (pgc p), .sl nl full 3 (facts.map fc), .v (.int .i64 most)] (.v (.int .i64 (L21 p facts most))) := by
  refine enterW Tryd.func13 rfl rfl rfl rfl (fun σ => ?_)
  refine cj_len 1 (fun hm0 => ?_)
  have hn1 : (facts.map fc).length = facts.length := List.length_map ..
  have k1 := p_light15 p
  by_cases hc : ltPb p = true ∧ (facts.length : Int) ≤ most
  · obtain ⟨hp1, hp2⟩ := hc
    have e : L21 p facts most = if p.rules.all few4 = true ∧ facts.all (fun f => lightB p.classes f []) = true then 0 else 1 := by
      unfold L21
      simp only [hp1, hp2, true_and]
    rw [e]
    rw [hp1] at k1
    obtain ⟨pc, pr⟩ := p
    dsimp only
    have hn2 : (pr.map ruc).length = pr.length := List.length_map ..
    have hpr : pr.length ≤ 6 := by
      unfold ltPb at hp1
      simp only [Bool.and_eq_true, decide_eq_true_eq] at hp1
      exact hp1.1.1.2
    repeat' (first|(first|(refine jl ?_;first|refine j7 ?_|refine j1 ?_|refine j4 ?_|refine j9 ?_|refine j12 (fun id hid=>?_)|refine j14 ?_|refine jp (k1) ?_)|(refine jc ?_;first|refine c1 ?_|refine c2 ?_|refine c5 ?_|refine c6 ?_)|refine n1 ?_)|(refine c9 (fun h=>?_) (fun h=>?_)<;>((try simp only [Bool.or_eq_true, Bool.and_eq_true, Bool.or_eq_false_iff, Bool.and_eq_false_iff, Bool.not_eq_true', Bool.not_eq_false', decide_eq_true_eq, decide_eq_false_iff_not, Bool.false_eq_true, Bool.true_eq_false, reduceCtorEq] at h) <;> (try simp (disch := omega) only [sb_bt, w64, Int.reduceAdd, Int.reduceToNat, Int.toNat_natCast, not_true_eq_false, false_or] at h) <;> (try (exfalso; omega)))))
    all_goals first | (exfalso; simp at h; done) | (exfalso; simp at h; omega) | (exfalso; omega) | skip
    first | refine cj_id 3 (fun b3 e => ?_) | refine lj_id 3 (fun b3 e => ?_)
    subst e
    refine cj_fp 3 rfl (St.set_same _ _ _) ?_
    rw [St.del_set (by assumption)]
    refine cj_for (fun i : Nat => i ≤ pr.length ∧ (pr.drop i).all few4 = pr.all few4) (fun i => [(7, .v (.int .i64 i))]) (fun _ => σ) (fun i => pr.length - i) 0 ⟨Nat.zero_le _, rfl⟩ ⟨⟨_, rfl, fun _ _ h => h⟩, trivial⟩ (St.le_refl _) (fun i hi => ?_)
    obtain ⟨h1, h3⟩ := hi
    rcases hd : pr.drop i with _ | ⟨x, r⟩
    · have z1 := dropn hd
      rw [hd] at h3
      rw [all_end h3]
      simp only [true_and]
      repeat' (first|(first|(refine jl ?_;first|refine jbl ?_|refine j1 ?_|refine j4 ?_)|(refine jc ?_;first|refine c1 ?_|refine c2 ?_|refine c5 ?_|refine c8 ?_)|refine n1 ?_|refine n3 ?_|refine n7 ?_|refine n8 ?_)|(refine c9 (fun h=>?_) (fun h=>?_)<;>((try simp only [Bool.or_eq_true, Bool.and_eq_true, Bool.or_eq_false_iff, Bool.and_eq_false_iff, Bool.not_eq_true', Bool.not_eq_false', decide_eq_true_eq, decide_eq_false_iff_not, Bool.false_eq_true, Bool.true_eq_false, reduceCtorEq] at h) <;> (try simp (disch := omega) only [sb_bt, w64, Int.reduceAdd, Int.reduceToNat, Int.toNat_natCast, not_true_eq_false, false_or] at h) <;> (try (exfalso; omega)))))
      all_goals first | (exfalso; omega) | skip
      refine cj_for (fun i : Nat => i ≤ facts.length ∧ (facts.drop i).all (fun f => lightB pc f []) = facts.all (fun f => lightB pc f [])) (fun i => [(8, .v (.int .i64 i))]) (fun _ => σ) (fun i => facts.length - i) 0 ⟨Nat.zero_le _, rfl⟩ ⟨⟨_, rfl, fun _ _ h => h⟩, trivial⟩ (St.le_refl _) (fun i hi => ?_)
      obtain ⟨h1, h3⟩ := hi
      rcases hd : facts.drop i with _ | ⟨f, r⟩
      · have z1 := dropn hd
        rw [hd] at h3
        rw [all_end h3]
        repeat' (first|(first|(refine jl ?_;first|refine j1 ?_|refine j4 ?_)|(refine jc ?_;first|refine c1 ?_|refine c2 ?_|refine c7 ?_|refine c8 ?_)|refine n1 ?_|refine n3 ?_|refine n7 ?_|refine n8 ?_|refine n11 ?_)|(refine c9 (fun h=>?_) (fun h=>?_)<;>((try simp only [Bool.or_eq_true, Bool.and_eq_true, Bool.or_eq_false_iff, Bool.and_eq_false_iff, Bool.not_eq_true', Bool.not_eq_false', decide_eq_true_eq, decide_eq_false_iff_not, Bool.false_eq_true, Bool.true_eq_false, reduceCtorEq] at h) <;> (try simp (disch := omega) only [sb_bt, w64, Int.reduceAdd, Int.reduceToNat, Int.toNat_natCast, not_true_eq_false, false_or] at h) <;> (try (exfalso; omega)))))
        all_goals first | (exfalso; omega) | skip
        exact gvs (Fin.refl _ _ _)
      · obtain ⟨u1, u2, u3⟩ := dropc hd
        have u4 := get_map fc u3
        rw [hd, ← u2] at h3
        have kf : Pure Tryd.prog 30 [.sl none false 2 (pc.map cc), .agg (fc f), .sl (some true) true 1 []] (.v (.bool (lightB pc f []))) :=
          Pure.wka (bs := _) (p_light none none false false pc f []) (show WkL [.sl none false 2 (pc.map cc), .agg (fc f), .sl (some true) true 1 []] _ from ⟨Wk.refl _, Wk.refl _, Wk.nil _ _ _ _, trivial⟩)
        cases hl : lightB pc f [] with
        | true =>
          rw [hl] at kf
          repeat' (first|(first|(refine jl ?_;first|refine j1 ?_|refine j4 ?_|refine j6 ?_)|(refine dl ?_;first|refine dbl ?_|refine d1 ?_|refine d4 ?_|refine di1 ?_|refine dp (kf) ?_)|(refine jc ?_;first|refine c1 ?_|refine c2 ?_|refine c5 ?_|refine c6 ?_|refine cq ?_)|refine n1 ?_|refine n10 ?_)|(refine c9 (fun h=>?_) (fun h=>?_)<;>((try simp only [Bool.or_eq_true, Bool.and_eq_true, Bool.or_eq_false_iff, Bool.and_eq_false_iff, Bool.not_eq_true', Bool.not_eq_false', decide_eq_true_eq, decide_eq_false_iff_not, Bool.false_eq_true, Bool.true_eq_false, reduceCtorEq] at h) <;> (try simp (disch := omega) only [sb_bt, w64, Int.reduceAdd, Int.reduceToNat, Int.toNat_natCast, not_true_eq_false, false_or] at h) <;> (try (exfalso; omega)))))
          all_goals first | (exfalso; omega) | (exfalso; simp at h; done) | skip
          exact nx_forS (i + 1) ⟨by omega, all_yes h3 hl⟩ (by omega) ⟨⟨_, rfl, wk1 (by omega)⟩, trivial⟩ (St.le_refl _)
        | false =>
          rw [hl] at kf
          repeat' (first|(first|(refine jl ?_;first|refine j1 ?_|refine j4 ?_)|(refine dl ?_;first|refine dbl ?_|refine d1 ?_|refine d4 ?_|refine di1 ?_|refine dp (kf) ?_)|(refine jc ?_;first|refine c1 ?_|refine c2 ?_|refine c5 ?_|refine c6 ?_|refine c7 ?_|refine cq ?_)|refine n1 ?_|refine n2 ?_|refine n5 ?_|refine n6 ?_|refine n11 ?_)|(refine c9 (fun h=>?_) (fun h=>?_)<;>((try simp only [Bool.or_eq_true, Bool.and_eq_true, Bool.or_eq_false_iff, Bool.and_eq_false_iff, Bool.not_eq_true', Bool.not_eq_false', decide_eq_true_eq, decide_eq_false_iff_not, Bool.false_eq_true, Bool.true_eq_false, reduceCtorEq] at h) <;> (try simp (disch := omega) only [sb_bt, w64, Int.reduceAdd, Int.reduceToNat, Int.toNat_natCast, not_true_eq_false, false_or] at h) <;> (try (exfalso; omega)))))
          all_goals first | (exfalso; omega) | (exfalso; simp at h; done) | skip
          rw [all_no h3 hl]
          exact gvs (Fin.refl _ _ _)
    · obtain ⟨u1, u2, u3⟩ := dropc hd
      have u4 := get_map ruc u3
      rw [hd, ← u2] at h3
      obtain ⟨xn, xc, xa⟩ := x
      have hn3 : (xc.map dc).length = xc.length := List.length_map ..
      repeat' (first|(first|(refine jl ?_;first|refine jbl ?_|refine j1 ?_|refine j4 ?_|refine j6 ?_|refine ji1 ?_)|(refine jc ?_;first|refine c1 ?_|refine c2 ?_|refine c5 ?_|refine c6 ?_|refine c7 ?_)|refine n1 ?_|refine n2 ?_|refine n5 ?_|refine n6 ?_|refine n10 ?_|refine n11 ?_)|(refine c9 (fun h=>?_) (fun h=>?_)<;>((try simp only [Bool.or_eq_true, Bool.and_eq_true, Bool.or_eq_false_iff, Bool.and_eq_false_iff, Bool.not_eq_true', Bool.not_eq_false', decide_eq_true_eq, decide_eq_false_iff_not, Bool.false_eq_true, Bool.true_eq_false, reduceCtorEq] at h) <;> (try simp (disch := omega) only [sb_bt, w64, Int.reduceAdd, Int.reduceToNat, Int.toNat_natCast, not_true_eq_false, false_or] at h) <;> (try (exfalso; omega)))))
      all_goals first | (exfalso; omega) | skip
      · rw [all_no h3 (decide_eq_false (by dsimp only; omega))]
        simp only [Bool.false_eq_true, false_and, if_false]
        exact gvs (Fin.refl _ _ _)
      · exact nx_forS (i + 1) ⟨by omega, all_yes h3 (decide_eq_true (by dsimp only; omega))⟩ (by omega) ⟨⟨_, rfl, wk1 (by omega)⟩, trivial⟩ (St.le_refl _)
  · have e : L21 p facts most = 1 := by
      unfold L21
      rw [if_neg (fun e => hc ⟨e.1, e.2.1⟩)]
    rw [e]
    cases hp : ltPb p with
    | true =>
      rw [hp] at k1
      obtain ⟨pc, pr⟩ := p
      repeat' (first|(first|(refine jl ?_;first|refine j7 ?_|refine j1 ?_|refine j4 ?_|refine j9 ?_|refine j12 (fun id hid=>?_)|refine j14 ?_|refine jp (k1) ?_)|(refine jc ?_;first|refine c1 ?_|refine c2 ?_|refine c5 ?_|refine c6 ?_|refine c7 ?_)|refine n1 ?_|refine n2 ?_|refine n11 ?_)|(refine c9 (fun h=>?_) (fun h=>?_)<;>((try simp only [Bool.or_eq_true, Bool.and_eq_true, Bool.or_eq_false_iff, Bool.and_eq_false_iff, Bool.not_eq_true', Bool.not_eq_false', decide_eq_true_eq, decide_eq_false_iff_not, Bool.false_eq_true, Bool.true_eq_false, reduceCtorEq] at h) <;> (try simp (disch := omega) only [sb_bt, w64, Int.reduceAdd, Int.reduceToNat, Int.toNat_natCast, not_true_eq_false, false_or] at h) <;> (try (exfalso; omega)))))
      all_goals first
        | exact gvs (Fin.refl _ _ _)
        | (exfalso; refine hc ⟨hp, ?_⟩; simp at h; omega)
        | (exfalso; refine hc ⟨hp, ?_⟩; omega)
    | false =>
      rw [hp] at k1
      obtain ⟨pc, pr⟩ := p
      repeat' (first|(first|(refine jl ?_;first|refine j7 ?_|refine j1 ?_|refine j4 ?_|refine j9 ?_|refine j12 (fun id hid=>?_)|refine j14 ?_|refine jp (k1) ?_)|(refine jc ?_;first|refine c1 ?_|refine c2 ?_|refine c5 ?_|refine c6 ?_|refine c7 ?_)|refine n1 ?_|refine n2 ?_|refine n11 ?_)|(refine c9 (fun h=>?_) (fun h=>?_)<;>((try simp only [Bool.or_eq_true, Bool.and_eq_true, Bool.or_eq_false_iff, Bool.and_eq_false_iff, Bool.not_eq_true', Bool.not_eq_false', decide_eq_true_eq, decide_eq_false_iff_not, Bool.false_eq_true, Bool.true_eq_false, reduceCtorEq] at h) <;> (try simp (disch := omega) only [sb_bt, w64, Int.reduceAdd, Int.reduceToNat, Int.toNat_natCast, not_true_eq_false, false_or] at h) <;> (try (exfalso; omega)))))
      all_goals first
        | exact gvs (Fin.refl _ _ _)
        | (exfalso; simp at h; done)
def withoutL (l : List Int) (n : Int) : List Int := l.filter (fun x => !decide (x = n))
theorem p_without (nl : Option Bool) (full : Bool) (l : List Int) (n : Int) (hl : l.length ≤ 60000) : Pure Tryd.prog 16 [.sl nl full 1 (l.map int1), .v (.int .i64 n)] (.sl none false 1 ((withoutL l n).map int1)) := by
  refine enterW Tryd.func16 rfl rfl rfl rfl (fun σ => ?_)
  have hn : (l.map int1).length = l.length := List.length_map ..
  repeat' (first|(first|(refine jl ?_;first|refine j1 ?_|refine j4 ?_)|(refine jc ?_;first|refine c1 ?_|refine c2 ?_|refine c5 ?_)))
  refine cj_ghost (ghost_nil (t := 5) 1 3 rfl (fun w0 hw0 => ?_))
  refine cj_for (fun s : Nat × Nat × List Int => s.1 ≤ l.length ∧ σ s.2.1 = none ∧ s.2.2 ++ withoutL (l.drop s.1) n = withoutL l n ∧ s.2.2.length ≤ s.1) (fun s => [(6, .v (.int .i64 s.1)), (5, .osl s.2.1 1 0 s.2.2.length)]) (fun s => σ.set s.2.1 (.row 1 3 (s.2.2.map int1))) (fun s => l.length - s.1) (0, w0, []) ⟨Nat.zero_le _, hw0, rfl, Nat.le_refl _⟩ ⟨⟨_, rfl, fun _ _ h => h⟩, ⟨_, rfl, fun _ _ h => h⟩, trivial⟩ (St.le_refl _) (fun s hs2 => ?_)
  obtain ⟨i, w, out⟩ := s
  dsimp only at hs2 ⊢
  obtain ⟨h1, h2, h3, h4⟩ := hs2
  have hno : (out.map int1).length = out.length := List.length_map ..
  rcases hd : l.drop i with _ | ⟨x, r⟩
  · have z1 := dropn hd
    rw [hd] at h3
    have h3 : out = withoutL l n := by rw [← h3]; exact (List.append_nil _).symm
    rw [← h3]
    repeat' (first|(first|(refine jl ?_;first|refine j1 ?_|refine j4 ?_)|(refine jc ?_;first|refine c1 ?_|refine c2 ?_|refine c7 ?_|refine c8 ?_)|refine n1 ?_|refine n3 ?_|refine n7 ?_|refine n8 ?_|refine n11 ?_)|(refine c9 (fun h=>?_) (fun h=>?_)<;>((try simp only [Bool.or_eq_true, Bool.and_eq_true, Bool.or_eq_false_iff, Bool.and_eq_false_iff, Bool.not_eq_true', Bool.not_eq_false', decide_eq_true_eq, decide_eq_false_iff_not, Bool.false_eq_true, Bool.true_eq_false, reduceCtorEq] at h) <;> (try simp (disch := omega) only [sb_bt, w64, Int.reduceAdd, Int.reduceToNat, Int.toNat_natCast, not_true_eq_false, false_or] at h) <;> (try (exfalso; omega)))))
    all_goals first | (exfalso; omega) | skip
    exact gvs (fin_fz (St.set_same _ _ _) h2 hno.symm rfl (fun _ => rfl))
  · obtain ⟨u1, u2, u3⟩ := dropc hd
    have u4 := get_map int1 u3
    rw [hd] at h3
    by_cases hx : x = n
    · have e : withoutL (x :: r) n = withoutL r n := by unfold withoutL; rw [List.filter_cons, decide_eq_true hx]; rfl
      rw [e, ← u2] at h3
      repeat' (first|(first|(refine jl ?_;first|refine jbl ?_|refine j1 ?_|refine j4 ?_|refine j6 ?_|refine ji1 ?_)|(refine jc ?_;first|refine c1 ?_|refine c2 ?_|refine c5 ?_|refine c6 ?_)|refine n1 ?_|refine n10 ?_)|(refine c9 (fun h=>?_) (fun h=>?_)<;>((try simp only [Bool.or_eq_true, Bool.and_eq_true, Bool.or_eq_false_iff, Bool.and_eq_false_iff, Bool.not_eq_true', Bool.not_eq_false', decide_eq_true_eq, decide_eq_false_iff_not, Bool.false_eq_true, Bool.true_eq_false, reduceCtorEq] at h) <;> (try simp (disch := omega) only [sb_bt, w64, Int.reduceAdd, Int.reduceToNat, Int.toNat_natCast, not_true_eq_false, false_or] at h) <;> (try (exfalso; omega)))))
      all_goals first | (exfalso; omega) | (exfalso; exact h hx) | skip
      exact nx_forS (i + 1, w, out) ⟨by dsimp only; omega, h2, h3, by dsimp only; omega⟩ (by dsimp only; omega) ⟨⟨_, rfl, wk1 (by omega)⟩, ⟨_, rfl, fun _ _ h => h⟩, trivial⟩ (St.le_refl _)
    · have e : withoutL (x :: r) n = x :: withoutL r n := by unfold withoutL; rw [List.filter_cons, decide_eq_false hx]; rfl
      rw [e, ← u2] at h3
      have hap : (out.map int1).take out.length ++ [int1 x] = (out ++ [x]).map int1 := by rw [List.take_of_length_le (by omega), List.map_append]; rfl
      repeat' (first|(first|(refine jl ?_;first|refine jbl ?_|refine j1 ?_|refine j4 ?_|refine ji1 ?_|refine jlit ?_)|(refine jc ?_;first|refine c1 ?_|refine c2 ?_|refine c5 ?_|refine c6 ?_)|refine n1 ?_)|(refine c9 (fun h=>?_) (fun h=>?_)<;>((try simp only [Bool.or_eq_true, Bool.and_eq_true, Bool.or_eq_false_iff, Bool.and_eq_false_iff, Bool.not_eq_true', Bool.not_eq_false', decide_eq_true_eq, decide_eq_false_iff_not, Bool.false_eq_true, Bool.true_eq_false, reduceCtorEq] at h) <;> (try simp (disch := omega) only [sb_bt, w64, Int.reduceAdd, Int.reduceToNat, Int.toNat_natCast, not_true_eq_false, false_or] at h) <;> (try (exfalso; omega)))))
      all_goals first | (exfalso; omega) | (exfalso; exact hx h) | skip
      refine japo (n := out.length) (m := out.length + 1) (news := [int1 x]) (fun w2 hw2 => ?_) hap rfl (hn := by omega) (hb := by dsimp only [List.length]; omega)
      repeat (first|(refine jl ?_;first|refine j1 ?_|refine j6 ?_)|(refine jc ?_;first|refine c2 ?_)|refine n1 ?_|refine n10 ?_)
      refine nx_forS (i + 1, w2, out ++ [x]) ⟨by dsimp only; omega, St.ns1 hw2, by dsimp only; rw [List.append_assoc]; exact h3, by dsimp only; rw [List.length_append, List.length_singleton]; omega⟩ (by dsimp only; omega) ⟨⟨_, rfl, wk1 (by omega)⟩, ⟨_, rfl, Wk.of_eq (by dsimp only; rw [List.length_append, List.length_singleton])⟩, trivial⟩ (St.le_set2 (St.leX_same (St.leX_del (St.leX_any (St.leX_refl _ _) h2) h2)) (St.set_same _ _ _))
end Go.Proofs.YtbpoeggmpjepfaaDoor.Ab

/- An attribute's value; what every right program makes. -/
set_option linter.unusedVariables false
set_option linter.unusedSimpArgs false
set_option maxRecDepth 20000
namespace Go.Proofs.YtbpoeggmpjepfaaDoor.Ab
open Go
attribute [local irreducible] thn inb endR CJ LJ OpJ DJ DA DB AllocK

def getV (l : List Cls) (f : Fc) (nm : ByteArray) : Vl := if checkF l f = 0 then if attrB nm (ofC l f).attrs = true then (f.vals[(attrN nm (ofC l f).attrs).toNat]?).getD noV else noV else noV
def getB (l : List Cls) (f : Fc) (nm : ByteArray) : Bool := if checkF l f = 0 then attrB nm (ofC l f).attrs else false
end Go.Proofs.YtbpoeggmpjepfaaDoor.Ab

/- What a changed fact has: the plain law. -/
set_option linter.unusedVariables false
set_option linter.unusedSimpArgs false
set_option maxRecDepth 20000
namespace Go.Proofs.YtbpoeggmpjepfaaDoor.Ab
open Go

theorem attr_get {nm : ByteArray} {ns : List ByteArray} (h : attrB nm ns = true) : ns[(attrN nm ns).toNat]? = some nm := by
  have h0 := h
  unfold attrB at h
  rw [decide_eq_true_eq] at h
  unfold attrN
  rw [if_neg (by omega)]
  obtain ⟨j, x, h1, h2, h3⟩ := idxG_get (isS nm) ns 0 h
  unfold attrI
  rw [h1]
  have hx : x = nm := by
    have h4 : isS nm x = true := by first | exact h3 | exact h3.1
    simpa [isS] using h4
  subst hx
  simpa using h2
theorem attr_inj {a b : ByteArray} {ns : List ByteArray} (ha : attrB a ns = true) (hb : attrB b ns = true) (h : (attrN a ns).toNat = (attrN b ns).toNat) : a = b := by
  have h1 := attr_get ha
  have h2 := attr_get hb
  rw [h, h2] at h1
  cases h1; rfl
theorem withGo_spec {ns : List ByteArray} : ∀ (s d : List Bd) (vs : List Vl), (withGo ns d s vs).1 = 0 → ns.length = vs.length →
    (∀ b ∈ s, attrB b.name ns = true ∧ valE b.val = 0 ∧ d.any (isB b.name) = false) ∧ (∀ k : Nat, (∀ b ∈ s, (attrN b.name ns).toNat ≠ k) → (withGo ns d s vs).2[k]? = vs[k]?) ∧ (∀ b ∈ s, (withGo ns d s vs).2[(attrN b.name ns).toNat]? = some b.val)
  | [], d, vs, _, _ => ⟨fun b h => (by cases h), fun k _ => rfl, fun b h => (by cases h)⟩
  | b :: r, d, vs, h, hl => by
    unfold withGo at h ⊢
    by_cases ha : attrB b.name ns = false
    · rw [if_pos ha] at h; cases h
    · rw [if_neg ha] at h ⊢
      rw [Bool.not_eq_false] at ha
      by_cases hd : d.any (isB b.name) = true
      · rw [if_pos hd] at h; cases h
      · rw [if_neg hd] at h ⊢
        rw [Bool.not_eq_true] at hd
        by_cases hv : valE b.val = 0
        · rw [if_pos hv] at h ⊢
          obtain ⟨h1, h2, h3⟩ := withGo_spec r (d ++ [b]) (vs.set (attrN b.name ns).toNat b.val) h (by rw [List.length_set]; exact hl)
          have hne : ∀ b' ∈ r, (attrN b'.name ns).toNat ≠ (attrN b.name ns).toNat := fun b' hb' e => by
            obtain ⟨g1, _, g3⟩ := h1 b' hb'
            have := attr_inj g1 ha e
            rw [List.any_append, Bool.or_eq_false_iff] at g3
            have g4 := g3.2
            simp [isB, this] at g4
          have hlt : (attrN b.name ns).toNat < vs.length := by
            rw [← hl]
            exact (List.getElem?_eq_some_iff.1 (attr_get ha)).1
          refine ⟨fun b' hb' => ?_, fun k hk => ?_, fun b' hb' => ?_⟩
          · rcases List.mem_cons.1 hb' with rfl | hb'
            · exact ⟨ha, hv, hd⟩
            · obtain ⟨g1, g2, g3⟩ := h1 b' hb'
              rw [List.any_append, Bool.or_eq_false_iff] at g3
              exact ⟨g1, g2, g3.1⟩
          · rw [h2 k fun b' hb' => hk b' (.tail _ hb'), List.getElem?_set_ne (hk b (.head _))]
          · rcases List.mem_cons.1 hb' with rfl | hb'
            · rw [h2 _ hne, List.getElem?_set_self hlt]
            · exact h3 b' hb'
        · rw [if_neg hv] at h; exact absurd h hv
/-- All that a fact that was changed has. -/
theorem with_spec {l : List Cls} {f : Fc} {n : Int} {sets : List Bd} (h : (withR l f n sets).1 = 0) : checkF l f = 0 ∧ checkF l (withF l f n sets) = 0 ∧ (withF l f n sets).tag = n ∧ (withF l f n sets).cls = f.cls ∧
    (∀ nm, getB l (withF l f n sets) nm = getB l f nm) ∧ (∀ nm, ∀ b ∈ sets, b.name = nm → getV l (withF l f n sets) nm = b.val ∧ getB l (withF l f n sets) nm = true) ∧ (∀ nm, sets.any (isB nm) = false → getV l (withF l f n sets) nm = getV l f nm) := by
  have hlen := withR_len h
  have hF : withF l f n sets = ⟨n, f.cls, (withR l f n sets).2⟩ := by unfold withF; rw [if_pos h]
  have hc0 : checkF l f = 0 := by
    unfold withR at h
    by_cases hc : checkF l f = 0
    · exact hc
    · rw [if_pos hc] at h; exact absurd h hc
  have htn : tagB n = true := by
    unfold withR at h
    rw [if_neg (fun e => e hc0)] at h
    cases ht : tagB n with
    | true => rfl
    | false => rw [if_pos ht] at h; cases h
  obtain ⟨_, c, hc1, hc2, hc3, hc4⟩ := checkF_zero hc0
  have hR : withR l f n sets = withGo c.attrs [] sets f.vals := by
    unfold withR
    rw [if_neg (fun e => e hc0), if_neg (by rw [htn]; decide), hc2]
  rw [hR] at h hF hlen
  obtain ⟨s1, s2, s3⟩ := withGo_spec sets [] f.vals h hc3.symm
  generalize (withGo c.attrs [] sets f.vals).2 = us at *
  have hall : ∀ v ∈ us, valE v = 0 := fun v hv => by
    obtain ⟨k, hk⟩ := List.mem_iff_getElem?.1 hv
    by_cases hex : ∃ b ∈ sets, (attrN b.name c.attrs).toNat = k
    · obtain ⟨b, hb, rfl⟩ := hex
      rw [s3 b hb] at hk
      cases hk
      exact (s1 b hb).2.1
    · rw [s2 k fun b hb e => hex ⟨b, hb, e⟩] at hk
      exact hc4 v (List.mem_of_getElem? hk)
  have hcg : checkF l (withF l f n sets) = 0 := by
    rw [hF]
    unfold checkF
    dsimp only
    rw [if_neg (by rw [htn]; decide), hc1]
    dsimp only
    rw [if_neg (by omega)]
    exact firstE_of hall
  have hog : ofC l (withF l f n sets) = c := by
    rw [hF]
    unfold ofC
    dsimp only
    rw [if_neg (by rw [htn]; decide), hc1]; rfl
  have hvg : (withF l f n sets).vals = us := by rw [hF]
  refine ⟨hc0, hcg, by rw [hF], by rw [hF], fun nm => ?_, fun nm b hb hnm => ?_, fun nm hany => ?_⟩
  · unfold getB
    rw [if_pos hc0, if_pos hcg, hog, hc2]
  · subst hnm
    have ha := (s1 b hb).1
    unfold getV getB
    rw [if_pos hcg, if_pos hcg, hog, if_pos ha, hvg, s3 b hb]
    exact ⟨rfl, ha⟩
  · unfold getV
    rw [if_pos hcg, if_pos hc0, hog, hc2, hvg]
    by_cases ha : attrB nm c.attrs = true
    · rw [if_pos ha, if_pos ha, s2 _ fun b hb e => ?_]
      have := attr_inj (s1 b hb).1 ha e
      rw [List.any_eq_false] at hany
      exact hany b hb (by simp [isB, this])
    · rw [if_neg ha, if_neg ha]
end Go.Proofs.YtbpoeggmpjepfaaDoor.Ab

/- Abstract values over the model's memory: append that makes a row of our own; append of nothing. -/
set_option linter.unusedVariables false
set_option linter.unusedSimpArgs false
set_option maxRecDepth 20000
namespace Go.Proofs.YtbpoeggmpjepfaaDoor.Ab
open Go
section
variable {P : Program} {nt : Nat} {ops : Array Oper} {Q : Post} {fr : Fr} {σ : St} {rest : List Oper} {t : Tmp} {ty : TypeId} {pos : String} {aft : Array Edge}
theorem japn (by_ : Nat) {lt et : TypeId} {sz n : Nat} {x y : Operand} {nl : Option Bool} {full : Bool} {els news all : List (List AV)} {ts : Array TypeId} {a : AV} (h : ∀ id, σ id = none → LJ P nt ops Q rest ((t, .osl id sz 0 n) :: fr) (σ.set id (.row sz et all))) (hne : news ≠ []) (hall : els ++ news = all) (hlen : els.length + news.length = n) (hb : (els.length + news.length) * by_ ≤ 140737488355328) (hts : ts = #[lt, lt] := by exact rfl) (ht : P.underlying lt = some (.slice et) := by exact rfl) (hsz : sizeIs P et = some sz := by exact rfl) (hz : (zeroIs P et).map (·.length) = some sz := by exact rfl) (hpos : Nat.blt 0 sz = true := by exact rfl) (hby : bytesIs P et = some by_ := by exact rfl) (hb1 : Nat.blt 0 by_ = true := by exact rfl) (hx : ev fr x = some (.sl nl full sz els) := by exact rfl) (hfull : full = true ∨ nl = some true := by first | exact .inl rfl | exact .inr rfl) (hy : ev fr y = some a := by exact rfl) (hs : srcOf σ a = some (sz, news) := by exact rfl) (hd : fits nt (some t) = true := by exact rfl) : LJ P nt ops Q (⟨some t, .call { callee := .builtin .append, args := #[x, y], argTypes := ts }, ty, pos, aft, none⟩ :: rest) fr σ := by
  subst hall
  subst hlen
  exact lj_fc (C := fun id => σ id = none) (mk := fun id => .osl id sz 0 (els.length + news.length)) (st := fun id => σ.set id (.row sz et (els ++ news))) hd (fun R hR => opj_append_new rfl hts (elem_of ht hsz hz hpos) hby hx hfull hy hs hne hb (Nat.blt_eq.mp hb1) hR) h
theorem jape (by_ : Nat) {lt et : TypeId} {sz : Nat} {x y : Operand} {nl : Option Bool} {full : Bool} {els : List (List AV)} {ts : Array TypeId} {a : AV} (h : LJ P nt ops Q rest ((t, .sl nl full sz els) :: fr) σ) (hb : els.length * by_ ≤ 140737488355328) (hs : srcOf σ a = some (sz, []) := by exact rfl) (hts : ts = #[lt, lt] := by exact rfl) (ht : P.underlying lt = some (.slice et) := by exact rfl) (hsz : sizeIs P et = some sz := by exact rfl) (hz : (zeroIs P et).map (·.length) = some sz := by exact rfl) (hpos : Nat.blt 0 sz = true := by exact rfl) (hby : bytesIs P et = some by_ := by exact rfl) (hb1 : Nat.blt 0 by_ = true := by exact rfl) (hx : ev fr x = some (.sl nl full sz els) := by exact rfl) (hfull : full = true ∨ nl = some true := by first | exact .inl rfl | exact .inr rfl) (hy : ev fr y = some a := by exact rfl) (hd : fits nt (some t) = true := by exact rfl) : LJ P nt ops Q (⟨some t, .call { callee := .builtin .append, args := #[x, y], argTypes := ts }, ty, pos, aft, none⟩ :: rest) fr σ :=
  lj_v hd (fun R hR => opj_append_sl rfl hts (elem_of ht hsz hz hpos) hby hx hfull hy hs (by simpa using hb) (Nat.blt_eq.mp hb1) (fun _ => hR) (fun h => absurd rfl h)) h
end
end Go.Proofs.YtbpoeggmpjepfaaDoor.Ab

/- What a rule does: its tags. -/
set_option linter.unusedVariables false
set_option linter.unusedSimpArgs false
set_option maxRecDepth 20000
namespace Go.Proofs.YtbpoeggmpjepfaaDoor.Ab
open Go
def tagOne (l : List Cls) (e : Eff) (th : List Int) (nx : Int) : Option (List Int × Int) := match e with
  | .made f => if f.tag = nx ∧ checkF l f = 0 then some (th ++ [nx], nx + 1) else none
  | .removed t => if t ∈ th ∧ t ≠ 0 then some (withoutL th t, nx) else none
  | _ => some (th, nx)
def tagGo (l : List Cls) : List Eff → List Int → Int → Option (List Int × Int)
  | [], th, nx => some (th, nx)
  | e :: r, th, nx => match tagOne l e th nx with
    | none => none
    | some x => tagGo l r x.1 x.2
theorem tagGo_app (l : List Cls) : ∀ (a b : List Eff) (th : List Int) (nx : Int) (x : List Int × Int), tagGo l a th nx = some x → tagGo l (a ++ b) th nx = tagGo l b x.1 x.2
  | [], b, th, nx, x, h => by cases h; rfl
  | e :: r, b, th, nx, x, h => by
    unfold tagGo at h
    cases ho : tagOne l e th nx with
    | none => rw [ho] at h; cases h
    | some y =>
      rw [ho] at h
      show (match tagOne l e th nx with
        | none => none
        | some x => tagGo l (r ++ b) x.1 x.2) = _
      rw [ho]
      exact tagGo_app l r b _ _ x h
theorem tagGo_one {l : List Cls} {a : List Eff} {e : Eff} {th : List Int} {nx : Int} {x y : List Int × Int} (h : tagGo l a th nx = some x) (he : tagOne l e x.1 x.2 = some y) : tagGo l (a ++ [e]) th nx = some y := by
  rw [tagGo_app l a [e] th nx x h]
  show (match tagOne l e x.1 x.2 with
    | none => none
    | some x => tagGo l [] x.1 x.2) = _
  rw [he]
  rfl
theorem mem_without {l : List Int} {n x : Int} : x ∈ withoutL l n ↔ x ∈ l ∧ x ≠ n := by
  unfold withoutL
  rw [List.mem_filter, Bool.not_eq_true', decide_eq_false_iff_not]
theorem without_len {l : List Int} {n : Int} (h : n ∈ l) : (withoutL l n).length ≠ l.length := fun e => by
  unfold withoutL at e
  have := List.length_filter_eq_length_iff.1 e n h
  simp at this
theorem without_le (l : List Int) (n : Int) : (withoutL l n).length ≤ l.length := List.length_filter_le _ _
theorem gone_snoc {out : List Eff} {e : Eff} {t : Int} : goneB (out ++ [e]) t = false ↔ goneB out t = false ∧ isRem t e = false := by
  unfold goneB
  rw [List.any_append, Bool.or_eq_false_iff]
  simp
/-- What is kept from act to act. -/
structure TagI (l : List Cls) (tags : List Int) (nx : Int) (s : Rs) (th : List Int) : Prop where
  go : tagGo l s.out tags nx = some (th, s.nx)
  has : ∀ f ∈ s.hv, f.tag ≠ 0 → goneB s.out f.tag = false → f.tag ∈ th
theorem TagI.made {l : List Cls} {tags : List Int} {nx : Int} {bd : List Bd} {hv : List Fc} {out : List Eff} {n : Int} {th : List Int} {f : Fc} (h : TagI l tags nx ⟨bd, hv, out, n⟩ th) (ht : f.tag = n) (hc : checkF l f = 0) : TagI l tags nx ⟨bd, hv, out ++ [.made f], n + 1⟩ (th ++ [n]) := by
  refine ⟨tagGo_one h.go (by unfold tagOne; dsimp only; rw [if_pos ⟨ht, hc⟩]), fun g hg h0 hn => ?_⟩
  exact List.mem_append_left _ (h.has g hg h0 (gone_snoc.1 hn).1)
theorem TagI.removed {l : List Cls} {tags : List Int} {nx : Int} {bd : List Bd} {hv : List Fc} {out : List Eff} {n : Int} {th : List Int} {t : Int} (h : TagI l tags nx ⟨bd, hv, out, n⟩ th) (ht : t ∈ th) (h0 : t ≠ 0) : TagI l tags nx ⟨bd, hv, out ++ [.removed t], n⟩ (withoutL th t) := by
  refine ⟨tagGo_one h.go (by unfold tagOne; dsimp only; rw [if_pos ⟨ht, h0⟩]), fun g hg hg0 hn => ?_⟩
  obtain ⟨n1, n2⟩ := gone_snoc.1 hn
  refine mem_without.2 ⟨h.has g hg hg0 n1, fun e => ?_⟩
  unfold isRem at n2
  rw [decide_eq_false_iff_not] at n2
  exact n2 e.symm
theorem TagI.act {l : List Cls} {tags : List Int} {nx : Int} {s : Rs} {th : List Int} {a : Acn} (h : TagI l tags nx s th) (he : (doA l s a).1 = 0) : ∃ th', TagI l tags nx (doA l s a).2 th' := by
  obtain ⟨bd, hv, out, n⟩ := s
  unfold doA at *
  split at he
  · rename_i hk
    rw [if_pos hk]
    unfold makeA at *
    split at he
    · rename_i h1; exact absurd he h1
    · rename_i h1
      rw [if_neg h1]
      split at he
      · rename_i h2; exact absurd he h2
      · rename_i h2
        rw [if_neg h2]
        dsimp only at *
        have h3 : makeR l n a.cls (setsGo bd a.sets []).2 = 0 := by simpa using h2
        have hq : (makeF l n a.cls (setsGo bd a.sets []).2).tag = n ∧ checkF l (makeF l n a.cls (setsGo bd a.sets []).2) = 0 := by
          unfold makeR at h3
          unfold makeF
          cases hf : findC a.cls l with
          | none => rw [hf] at h3; cases h3
          | some c =>
            rw [hf] at h3
            obtain ⟨_, w2, w3, _⟩ := with_spec h3
            exact ⟨w3, w2⟩
        exact ⟨_, h.made hq.1 hq.2⟩
  rename_i hk0
  rw [if_neg hk0]
  split at he
  · rename_i hk
    rw [if_pos hk]
    unfold modifyA at *
    split at he
    · rename_i h1; exact absurd he h1
    rename_i h1
    rw [if_neg h1]
    split at he
    · rename_i h2; exact absurd he h2
    rename_i h2
    rw [if_neg h2]
    split at he
    · rename_i h3; exact absurd he h3
    rename_i h3
    rw [if_neg h3]
    dsimp only at *
    obtain ⟨f1, f2, f3, f4, f5⟩ := factR_ok (show (factR hv out a.n).2 = 0 by simpa using h1)
    have h4 : (withR l (factR hv out a.n).1 n (setsGo bd a.sets []).2).1 = 0 := by simpa using h3
    obtain ⟨_, w2, w3, _⟩ := with_spec h4
    have i1 := h.removed (h.has _ (List.mem_of_getElem? f3) f4 f5) f4
    have i2 := i1.made w3 w2
    refine ⟨_, i2.go, fun g hg hg0 hn => ?_⟩
    dsimp only at hg hn
    rcases List.mem_or_eq_of_mem_set hg with hg | hg
    · exact i2.has g hg hg0 hn
    · rw [hg, w3]; exact List.mem_append_right _ (List.mem_singleton.2 rfl)
  rename_i hk1
  rw [if_neg hk1]
  split at he
  · rename_i hk
    rw [if_pos hk]
    unfold removeA at *
    split at he
    · rename_i h1
      rw [if_pos h1]
      obtain ⟨f1, f2, f3, f4, f5⟩ := factR_ok h1
      exact ⟨_, h.removed (h.has _ (List.mem_of_getElem? f3) f4 f5) f4⟩
    · rename_i h1; exact absurd he h1
  rename_i hk2
  rw [if_neg hk2]
  split at he
  · rename_i hk
    rw [if_pos hk]
    unfold bindA at *
    split at he
    · cases he
    · rename_i x r hx
      split at he
      · rename_i h1
        rw [if_pos h1]
        exact ⟨th, h.go, h.has⟩
      · rename_i h1; exact absurd he h1
  rename_i hk3
  rw [if_neg hk3]
  split at he
  · rename_i hk
    rw [if_pos hk]
    unfold writeA at *
    split at he
    · rename_i h1
      rw [if_pos h1]
      exact ⟨th, tagGo_one h.go rfl, fun g hg hg0 hn => h.has g hg hg0 (gone_snoc.1 hn).1⟩
    · rename_i h1; exact absurd he h1
  rename_i hk4
  rw [if_neg hk4]
  split at he
  · rename_i hk
    rw [if_pos hk]
    exact ⟨th, tagGo_one h.go rfl, fun g hg hg0 hn => h.has g hg hg0 (gone_snoc.1 hn).1⟩
  · cases he
theorem TagI.acts {l : List Cls} {tags : List Int} {nx : Int} : ∀ (as_ : List Acn) (s : Rs) (th : List Int), TagI l tags nx s th → (runGo l as_ s).1 = 0 → ∃ th', TagI l tags nx (runGo l as_ s).2 th'
  | [], s, th, h, _ => ⟨th, h⟩
  | a :: r, s, th, h, he => by
    rw [runGo_cons] at *
    split at he
    · rename_i h1
      rw [if_pos h1]
      obtain ⟨th', h'⟩ := h.act h1
      exact TagI.acts r _ th' h' he
    · rename_i h1; exact absurd he h1
theorem begin_tags {l : List Cls} {facts : List Fc} : ∀ (cs : List Cnd) (ts : List Int) (bd : List Bd) (r : List Bd × List Fc), beginGo l facts cs ts bd = some r → ∀ f ∈ r.2, f.tag ≠ 0 → f.tag ∈ ts
  | [], [], bd, r, h, f, hf, _ => by cases h; cases hf
  | [], _ :: _, bd, r, h, _, _, _ => by cases h
  | _ :: _, [], bd, r, h, _, _, _ => by cases h
  | c :: cs, t :: ts, bd, r, h, f, hf, h0 => by
    cases hn : c.neg with
    | true =>
      rw [beginGo_neg hn, Option.map_eq_some_iff] at h
      obtain ⟨y, h1, rfl⟩ := h
      rcases List.mem_cons.1 hf with e | e
      · rw [e] at h0; exact absurd rfl h0
      · exact List.mem_cons_of_mem _ (begin_tags cs ts bd y h1 f e h0)
    | false =>
      rw [beginGo_pos hn] at h
      cases hg : findT facts t with
      | none => rw [hg] at h; cases h
      | some g =>
        rw [hg] at h
        dsimp only at h
        cases hm : matchF l c g bd with
        | none => rw [hm] at h; cases h
        | some b =>
          rw [hm] at h
          dsimp only at h
          rw [Option.map_eq_some_iff] at h
          obtain ⟨y, h1, rfl⟩ := h
          rcases List.mem_cons.1 hf with e | e
          · have := List.find?_some hg
            unfold isT at this
            rw [e, of_decide_eq_true this]
            exact List.mem_cons_self ..
          · exact List.mem_cons_of_mem _ (begin_tags cs ts b y h1 f e h0)
/-- What a run leaves. -/
theorem run_tags (l : List Cls) (x : Rul) (facts : List Fc) (tags : List Int) (nx : Int) : ((runR l x facts tags nx).2.2 ≠ 0 ∧ (runR l x facts tags nx).1 = [] ∧ (runR l x facts tags nx).2.1 = 0) ∨ ((runR l x facts tags nx).2.2 = 0 ∧ ∃ th, tagGo l (runR l x facts tags nx).1 tags nx = some (th, (runR l x facts tags nx).2.1)) := by
  unfold runR
  cases hb : beginGo l facts x.conds tags [] with
  | none => left; exact ⟨by simp, rfl, rfl⟩
  | some y =>
    obtain ⟨bd, hv⟩ := y
    dsimp only
    by_cases he : (runGo l x.acts ⟨bd, hv, [], nx⟩).1 = 0
    · right
      rw [if_pos he]
      refine ⟨rfl, ?_⟩
      obtain ⟨th, h⟩ := TagI.acts x.acts ⟨bd, hv, [], nx⟩ tags ⟨rfl, fun f hf h0 _ => begin_tags _ _ _ _ hb f hf h0⟩ he
      exact ⟨th, h.go⟩
    · left
      rw [if_neg he]
      exact ⟨he, rfl, rfl⟩
end Go.Proofs.YtbpoeggmpjepfaaDoor.Ab

/- Law 27: ActTags. -/
set_option linter.unusedVariables false
set_option linter.unusedSimpArgs false
set_option maxRecDepth 20000
namespace Go.Proofs.YtbpoeggmpjepfaaDoor.Ab
open Go
theorem runGo_out {l : List Cls} : ∀ (as_ : List Acn) (s : Rs), okN as_.length s → (∀ a ∈ as_, okA a) → (runGo l as_ s).2.out.length ≤ 1000
  | [], s, h, _ => by have := h.out; show s.out.length ≤ 1000; omega
  | a :: r, s, h, ha => by
    rw [runGo_cons]
    split
    · exact runGo_out r _ (h.act (ha a (List.mem_cons_self ..))) (fun x hx => ha x (List.mem_cons_of_mem _ hx))
    · have := h.out; dsimp only; omega
theorem runR_out {l : List Cls} {x : Rul} {facts : List Fc} {tags : List Int} {nx : Int} (hc : x.conds.length ≤ 5) (hcs : ∀ c ∈ x.conds, c.attrs.length ≤ 12 ∧ ∀ a ∈ c.attrs, a.tests.length ≤ 12) (ha : x.acts.length ≤ 20) (has : ∀ a ∈ x.acts, okA a) (hf : ∀ f ∈ facts, (∀ v ∈ f.vals, v.s.size ≤ 60) ∧ f.vals.length ≤ 65536) : (runR l x facts tags nx).1.length ≤ 1000 := by
  have hk := fun r => begin_keep (l := l) hf x.conds tags [] r hcs (fun _ h => absurd h (List.not_mem_nil))
  have hb := fun r => @beginGo_len l facts x.conds tags [] r
  unfold runR
  cases e : beginGo l facts x.conds tags [] with
  | none => exact Nat.zero_le _
  | some bh =>
    obtain ⟨bd, hv⟩ := bh
    obtain ⟨k1, k2, k3⟩ := hk _ e
    obtain ⟨b1, b2⟩ := hb _ e
    dsimp only at *
    split
    · refine runGo_out _ _ ⟨?_, ?_, ?_, k1, k3⟩ has
      · have : ([] : List Bd).length = 0 := rfl
        dsimp only; omega
      · dsimp only; omega
      · dsimp only [List.length]; omega
    · exact Nat.zero_le _
theorem ltEb_of {l : List Itm} (h : ltEb l = true) : l.length ≤ 40 ∧ ∀ x ∈ l, x.val.s.size ≤ 60 := by
  unfold ltEb at h
  rw [Bool.and_eq_true, decide_eq_true_eq, List.all_eq_true] at h
  refine ⟨h.1, fun x hx => ?_⟩
  have := h.2 x hx
  unfold ltIb at this
  rw [Bool.and_eq_true, decide_eq_true_eq, decide_eq_true_eq] at this
  exact this.2
theorem ltNb_ok {a : Acn} (h : ltNb a = true) : okA a := by
  unfold ltNb at h
  simp only [Bool.and_eq_true, decide_eq_true_eq, List.all_eq_true] at h
  obtain ⟨⟨⟨⟨⟨h1, h2⟩, h3⟩, h4⟩, h5⟩, h6⟩ := h
  have hs : ∀ s ∈ a.sets, ltEb s.expr = true := fun s hs => by
    have := h5 s hs
    unfold ltSb at this
    rw [Bool.and_eq_true] at this
    exact this.2
  exact ⟨by omega, by omega, fun s m => by have := (ltEb_of (hs s m)).1; omega, fun e m => by have := (ltEb_of (h6 e m)).1; omega, fun s m => (ltEb_of (hs s m)).2, fun e m => (ltEb_of (h6 e m)).2⟩
theorem ltRb_ok {x : Rul} (h : ltRb x = true) : x.conds.length ≤ 8 ∧ (∀ c ∈ x.conds, c.attrs.length ≤ 12 ∧ ∀ a ∈ c.attrs, a.tests.length ≤ 12) ∧ x.acts.length ≤ 20 ∧ ∀ a ∈ x.acts, okA a := by
  unfold ltRb at h
  simp only [Bool.and_eq_true, decide_eq_true_eq, List.all_eq_true] at h
  obtain ⟨⟨⟨⟨h1, h2⟩, h3⟩, h4⟩, h5⟩ := h
  refine ⟨h1, fun c hc => ?_, by omega, fun a ha => ltNb_ok (h5 a ha)⟩
  have := h4 c hc
  unfold ltCb at this
  simp only [Bool.and_eq_true, decide_eq_true_eq, List.all_eq_true] at this
  refine ⟨by omega, fun a ha => ?_⟩
  have := this.2 a ha
  unfold ltAb at this
  simp only [Bool.and_eq_true, decide_eq_true_eq] at this
  exact this.1.2
theorem L21_ok {p : Prg} {facts : List Fc} {most : Int} (h : L21 p facts most = 0) : (facts.length : Int) ≤ most ∧ p.rules.length ≤ 6 ∧ (∀ c ∈ p.classes, c.attrs.length ≤ 20) ∧ (∀ x ∈ p.rules, x.conds.length ≤ 4 ∧ (∀ c ∈ x.conds, c.attrs.length ≤ 12 ∧ ∀ a ∈ c.attrs, a.tests.length ≤ 12) ∧ x.acts.length ≤ 20 ∧ ∀ a ∈ x.acts, okA a) ∧ ∀ f ∈ facts, (∀ v ∈ f.vals, v.s.size ≤ 60) ∧ f.vals.length ≤ 65536 := by
  unfold L21 at h
  split at h
  · rename_i hh
    obtain ⟨h1, h2, h3, h4⟩ := hh
    unfold ltPb at h1
    simp only [Bool.and_eq_true, decide_eq_true_eq, List.all_eq_true] at h1 h3 h4
    obtain ⟨⟨⟨p1, p2⟩, p3⟩, p4⟩ := h1
    refine ⟨h2, p2, fun c hc => ?_, fun x hx => ?_, fun f hf => ?_⟩
    · have := p3 c hc
      unfold ltLb at this
      simp only [Bool.and_eq_true, decide_eq_true_eq] at this
      omega
    · obtain ⟨_, g2, g3, g4⟩ := ltRb_ok (p4 x hx)
      have := h3 x hx
      unfold few4 at this
      exact ⟨of_decide_eq_true this, g2, g3, g4⟩
    · obtain ⟨⟨_, l2, _, _⟩, _, l3, _⟩ := lightB_iff (h4 f hf)
      exact ⟨l3, by omega⟩
  · cases h
attribute [local irreducible] thn inb endR CJ LJ OpJ DJ DA DB AllocK r3
theorem q_without {σ : St} {w : Nat} (l : List Int) (n : Int) (hw : σ w = some (.row 1 3 (l.map int1))) (hl : l.length ≤ 60000) : ACalls Tryd.prog 16 [.osl w 1 0 l.length, .v (.int .i64 n)] σ (fun e σ' => ∃ w', σ w' = none ∧ e = .ret (.osl w' 1 0 (withoutL l n).length) ∧ σ' = σ.set w' (.row 1 3 ((withoutL l n).map int1))) := by
  refine enter Tryd.func16 rfl rfl rfl rfl ?_
  have hn : (l.map int1).length = l.length := List.length_map ..
  repeat' (first|(first|(refine jl ?_;first|refine j1 ?_|refine j4 ?_)|(refine jc ?_;first|refine c1 ?_|refine c2 ?_|refine c5 ?_)))
  refine cj_ghost (ghost_nil (t := 5) 1 3 rfl (fun w0 hw0 => ?_))
  refine cj_for (fun s : Nat × Nat × List Int => s.1 ≤ l.length ∧ σ s.2.1 = none ∧ s.2.2 ++ withoutL (l.drop s.1) n = withoutL l n ∧ s.2.2.length ≤ s.1) (fun s => [(6, .v (.int .i64 s.1)), (5, .osl s.2.1 1 0 s.2.2.length)]) (fun s => σ.set s.2.1 (.row 1 3 (s.2.2.map int1))) (fun s => l.length - s.1) (0, w0, []) ⟨Nat.zero_le _, hw0, rfl, Nat.le_refl _⟩ ⟨⟨_, rfl, fun _ _ h => h⟩, ⟨_, rfl, fun _ _ h => h⟩, trivial⟩ (St.le_refl _) (fun s hs2 => ?_)
  obtain ⟨i, u, out⟩ := s
  dsimp only at hs2 ⊢
  obtain ⟨h1, h2, h3, h4⟩ := hs2
  have hno : (out.map int1).length = out.length := List.length_map ..
  have hwu : w ≠ u := fun e => by rw [e, h2] at hw; cases hw
  have hw2 : (σ.set u (.row 1 3 (out.map int1))) w = some (.row 1 3 (l.map int1)) := by rw [St.set_ne _ _ _ hwu]; exact hw
  rcases hd : l.drop i with _ | ⟨x, r⟩
  · have z1 := dropn hd
    rw [hd] at h3
    have h3 : out = withoutL l n := by rw [← h3]; exact (List.append_nil _).symm
    rw [← h3]
    repeat' (first|(first|(refine jl ?_;first|refine j1 ?_|refine j4 ?_)|(refine jc ?_;first|refine c1 ?_|refine c2 ?_|refine c7 ?_|refine c8 ?_)|refine n1 ?_|refine n3 ?_|refine n7 ?_|refine n8 ?_|refine n11 ?_)|(refine c9 (fun h=>?_) (fun h=>?_)<;>((try simp only [Bool.or_eq_true, Bool.and_eq_true, Bool.or_eq_false_iff, Bool.and_eq_false_iff, Bool.not_eq_true', Bool.not_eq_false', decide_eq_true_eq, decide_eq_false_iff_not, Bool.false_eq_true, Bool.true_eq_false, reduceCtorEq] at h) <;> (try simp (disch := omega) only [sb_bt, w64, Int.reduceAdd, Int.reduceToNat, Int.toNat_natCast, not_true_eq_false, false_or] at h) <;> (try (exfalso; omega)))))
    all_goals first | (exfalso; omega) | skip
    exact ⟨u, h2, rfl, rfl⟩
  · obtain ⟨u1, u2, u3⟩ := dropc hd
    have u4 : (l.map int1)[0 + ((i : Nat) : Int).toNat]? = some (int1 x) := by rw [Nat.zero_add]; exact get_map int1 u3
    rw [hd] at h3
    by_cases hx : x = n
    · have e : withoutL (x :: r) n = withoutL r n := by unfold withoutL; rw [List.filter_cons, decide_eq_true hx]; rfl
      rw [e, ← u2] at h3
      repeat' (first|(first|(refine jl ?_;first|refine j1 ?_|refine j4 ?_|refine j6 ?_|refine ji4 ?_|refine jle (hσ := hw2) u4 ?_)|(refine jc ?_;first|refine c1 ?_|refine c2 ?_|refine c5 ?_|refine c6 ?_)|refine n1 ?_|refine n10 ?_)|(refine c9 (fun h=>?_) (fun h=>?_)<;>((try simp only [Bool.or_eq_true, Bool.and_eq_true, Bool.or_eq_false_iff, Bool.and_eq_false_iff, Bool.not_eq_true', Bool.not_eq_false', decide_eq_true_eq, decide_eq_false_iff_not, Bool.false_eq_true, Bool.true_eq_false, reduceCtorEq] at h) <;> (try simp (disch := omega) only [sb_bt, w64, Int.reduceAdd, Int.reduceToNat, Int.toNat_natCast, not_true_eq_false, false_or] at h) <;> (try (exfalso; omega)))))
      all_goals first | (exfalso; omega) | (exfalso; exact h hx) | skip
      exact nx_forS (i + 1, u, out) ⟨by dsimp only; omega, h2, h3, by dsimp only; omega⟩ (by dsimp only; omega) ⟨⟨_, rfl, wk1 (by omega)⟩, ⟨_, rfl, fun _ _ h => h⟩, trivial⟩ (St.le_refl _)
    · have e : withoutL (x :: r) n = x :: withoutL r n := by unfold withoutL; rw [List.filter_cons, decide_eq_false hx]; rfl
      rw [e, ← u2] at h3
      have hap : (out.map int1).take out.length ++ [int1 x] = (out ++ [x]).map int1 := by rw [List.take_of_length_le (by omega), List.map_append]; rfl
      repeat' (first|(first|(refine jl ?_;first|refine j1 ?_|refine j4 ?_|refine ji4 ?_|refine jle (hσ := hw2) u4 ?_|refine jlit ?_)|(refine jc ?_;first|refine c1 ?_|refine c2 ?_|refine c5 ?_|refine c6 ?_)|refine n1 ?_)|(refine c9 (fun h=>?_) (fun h=>?_)<;>((try simp only [Bool.or_eq_true, Bool.and_eq_true, Bool.or_eq_false_iff, Bool.and_eq_false_iff, Bool.not_eq_true', Bool.not_eq_false', decide_eq_true_eq, decide_eq_false_iff_not, Bool.false_eq_true, Bool.true_eq_false, reduceCtorEq] at h) <;> (try simp (disch := omega) only [sb_bt, w64, Int.reduceAdd, Int.reduceToNat, Int.toNat_natCast, not_true_eq_false, false_or] at h) <;> (try (exfalso; omega)))))
      all_goals first | (exfalso; omega) | (exfalso; exact hx h) | skip
      refine japo (n := out.length) (m := out.length + 1) (news := [int1 x]) (fun w2 hw2 => ?_) hap rfl (hn := by omega) (hb := by dsimp only [List.length]; omega)
      repeat (first|(refine jl ?_;first|refine j1 ?_|refine j6 ?_)|(refine jc ?_;first|refine c2 ?_)|refine n1 ?_|refine n10 ?_)
      refine nx_forS (i + 1, w2, out ++ [x]) ⟨by dsimp only; omega, St.ns1 hw2, by dsimp only; rw [List.append_assoc]; exact h3, by dsimp only; rw [List.length_append, List.length_singleton]; omega⟩ (by dsimp only; omega) ⟨⟨_, rfl, wk1 (by omega)⟩, ⟨_, rfl, Wk.of_eq (by dsimp only; rw [List.length_append, List.length_singleton])⟩, trivial⟩ (St.le_set2 (St.leX_same (St.leX_del (St.leX_any (St.leX_refl _ _) h2) h2)) (St.set_same _ _ _))
end Go.Proofs.YtbpoeggmpjepfaaDoor.Ab

/- Law 27: ActTags, the walk. -/
set_option linter.unusedVariables false
set_option linter.unusedSimpArgs false
set_option maxRecDepth 20000
namespace Go.Proofs.YtbpoeggmpjepfaaDoor.Ab
open Go
attribute [local irreducible] thn inb endR CJ LJ OpJ DJ DA DB AllocK r3
set_option maxHeartbeats 16000000 in
theorem l_actTags (p : Prg) (facts : List Fc) (tags : List Int) (nx : Int) : Pure Tryd.prog 4 [.agg (pgc p), .agg [.sl none false 3 (facts.map fc), .sl none false 1 (tags.map int1), .v (.int .i64 nx)]] (.v (.bool true)) := by
  refine enterW Tryd.func4 rfl rfl rfl rfl (fun σ => ?_)
  have k0 := p_awake27
  have k1 := p_light21 none false p facts 10
  have hn1 : (facts.map fc).length = facts.length := List.length_map ..
  have hn2 : (tags.map int1).length = tags.length := List.length_map ..
  by_cases hL : L21 p facts 10 = 0
  · obtain ⟨m1, m2, m3, m4, m5⟩ := L21_ok hL
    rw [hL] at k1
    obtain ⟨pc, pr⟩ := p
    dsimp only at m2 m3 m4
    have hn3 : (pr.map ruc).length = pr.length := List.length_map ..
    iterate 6 (first|(refine jl ?_;first|refine j1 ?_|refine j4 ?_|refine j12 (fun id hid=>?_))|(refine jc ?_;first|refine c1 ?_|refine c2 ?_))
    refine cj_fp 3 rfl (St.set_same _ _ _) ?_
    rw [St.del_set (by assumption)]
    refine cj_fp 2 rfl (St.set_same _ _ _) ?_
    rw [St.del_set (by assumption)]
    repeat' (first|(first|(refine jl ?_;first|refine j7 ?_|refine jbl ?_|refine j1 ?_|refine j4 ?_|refine j9 ?_|refine jp (k0) ?_|refine jp (k1) ?_)|(refine jc ?_;first|refine c1 ?_|refine c2 ?_|refine c5 ?_|refine c6 ?_|refine c7 ?_)|refine n1 ?_|refine n2 ?_|refine n11 ?_)|(refine c9 (fun h=>?_) (fun h=>?_)<;>((try simp only [Bool.or_eq_true, Bool.and_eq_true, Bool.or_eq_false_iff, Bool.and_eq_false_iff, Bool.not_eq_true', Bool.not_eq_false', decide_eq_true_eq, decide_eq_false_iff_not, Bool.false_eq_true, Bool.true_eq_false, reduceCtorEq] at h) <;> (try simp (disch := omega) only [sb_bt, w64, Int.reduceAdd, Int.reduceToNat, Int.toNat_natCast, not_true_eq_false, false_or] at h) <;> (try (exfalso; omega)))))
    all_goals first | exact gvs (Fin.refl _ _ _) | skip
    refine cj_for (fun i : Nat => i ≤ facts.length) (fun i => [(5, .v (.int .i64 i))]) (fun _ => σ) (fun i => facts.length - i) 0 (Nat.zero_le _) ⟨⟨_, rfl, fun _ _ h => h⟩, trivial⟩ (St.le_refl _) (fun i hi => ?_)
    rcases hd : facts.drop i with _ | ⟨x, r⟩
    · have z1 := dropn hd
      repeat' (first|(first|(refine jl ?_;first|refine jbl ?_|refine j1 ?_|refine j4 ?_)|(refine jc ?_;first|refine c1 ?_|refine c2 ?_|refine c5 ?_|refine c8 ?_)|refine n1 ?_|refine n3 ?_|refine n7 ?_|refine n8 ?_)|(refine c9 (fun h=>?_) (fun h=>?_)<;>((try simp only [Bool.or_eq_true, Bool.and_eq_true, Bool.or_eq_false_iff, Bool.and_eq_false_iff, Bool.not_eq_true', Bool.not_eq_false', decide_eq_true_eq, decide_eq_false_iff_not, Bool.false_eq_true, Bool.true_eq_false, reduceCtorEq] at h) <;> (try simp (disch := omega) only [sb_bt, w64, Int.reduceAdd, Int.reduceToNat, Int.toNat_natCast, not_true_eq_false, false_or] at h) <;> (try (exfalso; omega)))))
      all_goals first | (exfalso; omega) | skip
      refine cj_for (fun i : Nat => i ≤ pr.length) (fun i => [(6, .v (.int .i64 i))]) (fun _ => σ) (fun i => pr.length - i) 0 (Nat.zero_le _) ⟨⟨_, rfl, fun _ _ h => h⟩, trivial⟩ (St.le_refl _) (fun i hi => ?_)
      rcases hd : pr.drop i with _ | ⟨x, r⟩
      · have z1 := dropn hd
        repeat' (first|(first|(refine jl ?_;first|refine jbl ?_|refine j1 ?_|refine j4 ?_|refine jp (k0) ?_)|(refine jc ?_;first|refine c1 ?_|refine c2 ?_|refine c7 ?_|refine c8 ?_)|refine n1 ?_|refine n3 ?_|refine n7 ?_|refine n8 ?_|refine n11 ?_)|(refine c9 (fun h=>?_) (fun h=>?_)<;>((try simp only [Bool.or_eq_true, Bool.and_eq_true, Bool.or_eq_false_iff, Bool.and_eq_false_iff, Bool.not_eq_true', Bool.not_eq_false', decide_eq_true_eq, decide_eq_false_iff_not, Bool.false_eq_true, Bool.true_eq_false, reduceCtorEq] at h) <;> (try simp (disch := omega) only [sb_bt, w64, Int.reduceAdd, Int.reduceToNat, Int.toNat_natCast, not_true_eq_false, false_or] at h) <;> (try (exfalso; omega)))))
        all_goals first | (exfalso; omega) | skip
        exact gvs (Fin.refl _ _ _)
      · obtain ⟨u1, u2, u3⟩ := dropc hd
        have u4 := get_map ruc u3
        obtain ⟨x1, x2, x3, x4⟩ := m4 x (List.mem_of_getElem? u3)
        have kr := p_run pc m3 x facts tags nx none none none false false false (by omega) x2 x3 x4 m5
        have ht := run_tags pc x facts tags nx
        have ho := runR_out (l := pc) (tags := tags) (nx := nx) (by omega) x2 x3 x4 m5
        generalize runR pc x facts tags nx = R at kr ht ho
        obtain ⟨E, n, e⟩ := R
        dsimp only at kr ht ho
        obtain ⟨xn, xc, xa⟩ := x
        have hne : (E.map efc).length = E.length := List.length_map ..
        rcases ht with ⟨t1, t2, t3⟩ | ⟨t1, th, t2⟩
        · subst t2
          subst t3
          repeat' (first|(first|(refine jl ?_;first|refine j7 ?_|refine jbl ?_|refine j1 ?_|refine j4 ?_|refine j6 ?_|refine j9 ?_)|(refine dl ?_;first|refine dbl ?_|refine d1 ?_|refine d4 ?_|refine di1 ?_|refine dp (kr) ?_)|(refine jc ?_;first|refine c1 ?_|refine c2 ?_|refine c5 ?_|refine c6 ?_|refine c7 ?_|refine c8 ?_|refine cq ?_)|refine n1 ?_|refine n2 ?_|refine n3 ?_|refine n5 ?_|refine n6 ?_|refine n8 ?_|refine n11 ?_)|(refine c9 (fun h=>?_) (fun h=>?_)<;>((try simp only [Bool.or_eq_true, Bool.and_eq_true, Bool.or_eq_false_iff, Bool.and_eq_false_iff, Bool.not_eq_true', Bool.not_eq_false', decide_eq_true_eq, decide_eq_false_iff_not, Bool.false_eq_true, Bool.true_eq_false, reduceCtorEq] at h) <;> (try simp (disch := omega) only [sb_bt, w64, Int.reduceAdd, Int.reduceToNat, Int.toNat_natCast, not_true_eq_false, false_or] at h) <;> (try (exfalso; omega)))))
          all_goals first | (exfalso; omega) | (exfalso; simp at h; done) | skip
          exact nx_forS (i + 1) (by omega) (by omega) ⟨⟨_, rfl, wk1 (by omega)⟩, trivial⟩ (St.le_refl _)
        · subst t1
          repeat' (first|(first|(refine jl ?_;first|refine jbl ?_|refine j1 ?_|refine j4 ?_|refine jlito (fun w0 hw0 => ?_))|(refine dl ?_;first|refine dbl ?_|refine d1 ?_|refine d4 ?_|refine di1 ?_|refine dp (kr) ?_)|(refine jc ?_;first|refine c1 ?_|refine c2 ?_|refine c5 ?_|refine c6 ?_|refine cq ?_)|refine n1 ?_)|(refine c9 (fun h=>?_) (fun h=>?_)<;>((try simp only [Bool.or_eq_true, Bool.and_eq_true, Bool.or_eq_false_iff, Bool.and_eq_false_iff, Bool.not_eq_true', Bool.not_eq_false', decide_eq_true_eq, decide_eq_false_iff_not, Bool.false_eq_true, Bool.true_eq_false, reduceCtorEq] at h) <;> (try simp (disch := omega) only [sb_bt, w64, Int.reduceAdd, Int.reduceToNat, Int.toNat_natCast, not_true_eq_false, false_or] at h) <;> (try (exfalso; omega)))))
          all_goals first | (exfalso; omega) | (exfalso; simp at h; done) | skip
          refine japo (id := w0) (els := []) (n := 0) (m := tags.length) (news := tags.map int1) (all := tags.map int1) (fun w hw => ?_) rfl (by omega) (hn := Nat.zero_le _) (hb := by omega)
          rw [St.del_set hw0]
          have hw := St.ns1 hw
          repeat (first|(refine jl ?_;first|refine jbl ?_|refine j1 ?_|refine j4 ?_)|(refine jc ?_;first|refine c1 ?_|refine c2 ?_|refine c5 ?_))
          refine cj_for (fun s : Nat × Nat × List Int × Int => s.1 ≤ E.length ∧ σ s.2.1 = none ∧ tagGo pc (E.drop s.1) s.2.2.1 s.2.2.2 = some (th, n) ∧ s.2.2.1.length ≤ 8 + s.1) (fun s => [(12, .v (.int .i64 s.1)), (10, .osl s.2.1 1 0 s.2.2.1.length), (11, .v (.int .i64 s.2.2.2))]) (fun s => σ.set s.2.1 (.row 1 3 (s.2.2.1.map int1))) (fun s => E.length - s.1) (0, w, tags, nx) ⟨Nat.zero_le _, hw, t2, by dsimp only; omega⟩ ⟨⟨_, rfl, fun _ _ h => h⟩, ⟨_, rfl, fun _ _ h => h⟩, ⟨_, rfl, fun _ _ h => h⟩, trivial⟩ (St.le_refl _) (fun s hs2 => ?_)
          obtain ⟨j, u, ts, ny⟩ := s
          dsimp only at hs2 ⊢
          obtain ⟨h1, h2, h3, h4⟩ := hs2
          have hno : (ts.map int1).length = ts.length := List.length_map ..
          rcases hd2 : E.drop j with _ | ⟨ef, rr⟩
          · have z1 := dropn hd2
            rw [hd2] at h3
            cases h3
            repeat' (first|(first|(refine jl ?_;first|refine j1 ?_|refine j4 ?_|refine j6 ?_)|(refine jc ?_;first|refine c1 ?_|refine c2 ?_|refine c6 ?_|refine c8 ?_)|refine n1 ?_|refine n3 ?_|refine n7 ?_|refine n8 ?_|refine n10 ?_)|(refine c9 (fun h=>?_) (fun h=>?_)<;>((try simp only [Bool.or_eq_true, Bool.and_eq_true, Bool.or_eq_false_iff, Bool.and_eq_false_iff, Bool.not_eq_true', Bool.not_eq_false', decide_eq_true_eq, decide_eq_false_iff_not, Bool.false_eq_true, Bool.true_eq_false, reduceCtorEq] at h) <;> (try simp (disch := omega) only [sb_bt, w64, Int.reduceAdd, Int.reduceToNat, Int.toNat_natCast, not_true_eq_false, false_or] at h) <;> (try (exfalso; omega)))))
            all_goals first | (exfalso; omega) | skip
            exact nx_forS (i + 1) (by omega) (by omega) ⟨⟨_, rfl, wk1 (by omega)⟩, trivial⟩ (St.le_any (St.le_refl _))
          · obtain ⟨v1, v2, v3⟩ := dropc hd2
            have v4 := get_map efc v3
            rw [hd2, ← v2] at h3
            unfold tagGo at h3
            cases ef with
            | made f =>
              by_cases hq : f.tag = ny ∧ checkF pc f = 0
              · rw [show tagOne pc (.made f) ts ny = some (ts ++ [ny], ny + 1) from if_pos hq] at h3
                dsimp only at h3
                obtain ⟨q1, q2⟩ := hq
                have q3 := (checkF_zero q2).1
                have kc := p_ccheck none false pc f
                rw [q2] at kc
                obtain ⟨ft, fn, fv⟩ := f
                dsimp only at q1 q3
                subst q1
                unfold tagB at q3
                simp only [Bool.and_eq_true, decide_eq_true_eq] at q3
                have hap : (ts.map int1).take ts.length ++ [int1 ft] = (ts ++ [ft]).map int1 := by rw [List.take_of_length_le (by omega), List.map_append]; rfl
                repeat' (first|(first|(refine jl ?_;first|refine jbl ?_|refine j1 ?_|refine j4 ?_|refine ji1 ?_|refine jlit ?_)|(refine dl ?_;first|refine d7 ?_|refine dbl ?_|refine d1 ?_|refine d4 ?_|refine d9 ?_|refine di1 ?_|refine di3 ?_|refine dpq (hp:=fun hc=>kc) ?_)|(refine jc ?_;first|refine c1 ?_|refine c2 ?_|refine c5 ?_|refine c6 ?_|refine cq ?_)|refine n1 ?_)|(refine c9 (fun h=>?_) (fun h=>?_)<;>((try simp only [Bool.or_eq_true, Bool.and_eq_true, Bool.or_eq_false_iff, Bool.and_eq_false_iff, Bool.not_eq_true', Bool.not_eq_false', decide_eq_true_eq, decide_eq_false_iff_not, Bool.false_eq_true, Bool.true_eq_false, reduceCtorEq] at h) <;> (try simp (disch := omega) only [sb_bt, w64, Int.reduceAdd, Int.reduceToNat, Int.toNat_natCast, not_true_eq_false, false_or] at h) <;> (try (exfalso; omega)))))
                all_goals first | (exfalso; omega) | (exfalso; simp at h; done) | skip
                refine japo (n := ts.length) (m := ts.length + 1) (news := [int1 ft]) (fun w2 hw2 => ?_) hap rfl (hn := by omega) (hb := by dsimp only [List.length]; omega)
                repeat (first|(refine jl ?_;first|refine j1 ?_|refine j4 ?_|refine j6 ?_)|(refine jc ?_;first|refine c2 ?_)|refine n1 ?_|refine n10 ?_)
                refine nx_forS (j + 1, w2, ts ++ [ft], ft + 1) ⟨by dsimp only; omega, St.ns1 hw2, h3, by dsimp only; rw [List.length_append, List.length_singleton]; omega⟩ (by dsimp only; omega) ⟨⟨_, rfl, wk1 (by omega)⟩, ⟨_, rfl, Wk.of_eq (by dsimp only; rw [List.length_append, List.length_singleton])⟩, ⟨_, rfl, Wk.of_eq (by dsimp only; rw [w64 (by omega) (by omega)])⟩, trivial⟩ (St.le_set2 (St.leX_same (St.leX_del (St.leX_any (St.leX_refl _ _) h2) h2)) (St.set_same _ _ _))
              · rw [show tagOne pc (.made f) ts ny = none from if_neg hq] at h3
                cases h3
            | removed t =>
              by_cases hq : t ∈ ts ∧ t ≠ 0
              · rw [show tagOne pc (.removed t) ts ny = some (withoutL ts t, ny) from if_pos hq] at h3
                dsimp only at h3
                obtain ⟨q1, q2⟩ := hq
                have q3 := without_len q1
                have q4 := without_le ts t
                repeat' (first|(first|(refine jl ?_;first|refine jbl ?_|refine j1 ?_|refine j4 ?_|refine ji1 ?_)|(refine jc ?_;first|refine c1 ?_|refine c2 ?_|refine c5 ?_|refine c6 ?_)|refine n1 ?_)|(refine c9 (fun h=>?_) (fun h=>?_)<;>((try simp only [Bool.or_eq_true, Bool.and_eq_true, Bool.or_eq_false_iff, Bool.and_eq_false_iff, Bool.not_eq_true', Bool.not_eq_false', decide_eq_true_eq, decide_eq_false_iff_not, Bool.false_eq_true, Bool.true_eq_false, reduceCtorEq] at h) <;> (try simp (disch := omega) only [sb_bt, w64, Int.reduceAdd, Int.reduceToNat, Int.toNat_natCast, not_true_eq_false, false_or] at h) <;> (try (exfalso; omega)))))
                all_goals first | (exfalso; omega) | (exfalso; simp at h; done) | skip
                refine lj_calls rfl rfl rfl (q_without ts t lkp (by omega)) (fun r σ2 hr2 => ?_) (fun x σ2 ⟨_, _, h, _⟩ => by cases h)
                obtain ⟨w2, hw2, e1, e2⟩ := hr2
                cases e1
                subst e2
                repeat' (first|(first|(refine jl ?_;first|refine j7 ?_|refine j1 ?_|refine j4 ?_|refine j6 ?_|refine j9 ?_|refine ji3 ?_)|(refine jc ?_;first|refine c1 ?_|refine c2 ?_|refine c6 ?_)|refine n1 ?_|refine n10 ?_)|(refine c9 (fun h=>?_) (fun h=>?_)<;>((try simp only [Bool.or_eq_true, Bool.and_eq_true, Bool.or_eq_false_iff, Bool.and_eq_false_iff, Bool.not_eq_true', Bool.not_eq_false', decide_eq_true_eq, decide_eq_false_iff_not, Bool.false_eq_true, Bool.true_eq_false, reduceCtorEq] at h) <;> (try simp (disch := omega) only [sb_bt, w64, Int.reduceAdd, Int.reduceToNat, Int.toNat_natCast, not_true_eq_false, false_or] at h) <;> (try (exfalso; omega)))))
                all_goals first | (exfalso; omega) | (exfalso; simp at h; done) | skip
                refine nx_forS (j + 1, w2, withoutL ts t, ny) ⟨by dsimp only; omega, St.ns1 hw2, h3, by dsimp only; omega⟩ (by dsimp only; omega) ⟨⟨_, rfl, wk1 (by omega)⟩, ⟨_, rfl, fun _ _ h => h⟩, ⟨_, rfl, fun _ _ h => h⟩, trivial⟩ (St.le_set2 (St.leX_same (St.leX_any (St.leX_refl _ _) h2)) (St.set_same _ _ _))
              · rw [show tagOne pc (.removed t) ts ny = none from if_neg hq] at h3
                cases h3
            | wrote s =>
              rw [show tagOne pc (.wrote s) ts ny = some (ts, ny) from rfl] at h3
              dsimp only at h3
              repeat' (first|(first|(refine jl ?_;first|refine jbl ?_|refine j1 ?_|refine j4 ?_|refine j6 ?_|refine ji1 ?_)|(refine jc ?_;first|refine c1 ?_|refine c2 ?_|refine c5 ?_|refine c6 ?_)|refine n1 ?_|refine n10 ?_)|(refine c9 (fun h=>?_) (fun h=>?_)<;>((try simp only [Bool.or_eq_true, Bool.and_eq_true, Bool.or_eq_false_iff, Bool.and_eq_false_iff, Bool.not_eq_true', Bool.not_eq_false', decide_eq_true_eq, decide_eq_false_iff_not, Bool.false_eq_true, Bool.true_eq_false, reduceCtorEq] at h) <;> (try simp (disch := omega) only [sb_bt, w64, Int.reduceAdd, Int.reduceToNat, Int.toNat_natCast, not_true_eq_false, false_or] at h) <;> (try (exfalso; omega)))))
              all_goals first | (exfalso; omega) | (exfalso; simp at h; done) | skip
              exact nx_forS (j + 1, u, ts, ny) ⟨by dsimp only; omega, h2, h3, by dsimp only; omega⟩ (by dsimp only; omega) ⟨⟨_, rfl, wk1 (by omega)⟩, ⟨_, rfl, fun _ _ h => h⟩, ⟨_, rfl, fun _ _ h => h⟩, trivial⟩ (St.le_refl _)
            | halted =>
              rw [show tagOne pc .halted ts ny = some (ts, ny) from rfl] at h3
              dsimp only at h3
              repeat' (first|(first|(refine jl ?_;first|refine jbl ?_|refine j1 ?_|refine j4 ?_|refine j6 ?_|refine ji1 ?_)|(refine jc ?_;first|refine c1 ?_|refine c2 ?_|refine c5 ?_|refine c6 ?_)|refine n1 ?_|refine n10 ?_)|(refine c9 (fun h=>?_) (fun h=>?_)<;>((try simp only [Bool.or_eq_true, Bool.and_eq_true, Bool.or_eq_false_iff, Bool.and_eq_false_iff, Bool.not_eq_true', Bool.not_eq_false', decide_eq_true_eq, decide_eq_false_iff_not, Bool.false_eq_true, Bool.true_eq_false, reduceCtorEq] at h) <;> (try simp (disch := omega) only [sb_bt, w64, Int.reduceAdd, Int.reduceToNat, Int.toNat_natCast, not_true_eq_false, false_or] at h) <;> (try (exfalso; omega)))))
              all_goals first | (exfalso; omega) | (exfalso; simp at h; done) | skip
              exact nx_forS (j + 1, u, ts, ny) ⟨by dsimp only; omega, h2, h3, by dsimp only; omega⟩ (by dsimp only; omega) ⟨⟨_, rfl, wk1 (by omega)⟩, ⟨_, rfl, fun _ _ h => h⟩, ⟨_, rfl, fun _ _ h => h⟩, trivial⟩ (St.le_refl _)
    · obtain ⟨u1, u2, u3⟩ := dropc hd
      have u4 := get_map fc u3
      obtain ⟨ft, fn, fv⟩ := x
      repeat' (first|(first|(refine jl ?_;first|refine jbl ?_|refine j1 ?_|refine j4 ?_|refine j6 ?_|refine jp (k0) ?_)|(refine dl ?_;first|refine dbl ?_|refine d1 ?_|refine d4 ?_|refine di1 ?_)|(refine jc ?_;first|refine c1 ?_|refine c2 ?_|refine c5 ?_|refine c6 ?_|refine c7 ?_|refine cq ?_)|refine n1 ?_|refine n2 ?_|refine n5 ?_|refine n6 ?_|refine n10 ?_|refine n11 ?_)|(refine c9 (fun h=>?_) (fun h=>?_)<;>((try simp only [Bool.or_eq_true, Bool.and_eq_true, Bool.or_eq_false_iff, Bool.and_eq_false_iff, Bool.not_eq_true', Bool.not_eq_false', decide_eq_true_eq, decide_eq_false_iff_not, Bool.false_eq_true, Bool.true_eq_false, reduceCtorEq] at h) <;> (try simp (disch := omega) only [sb_bt, w64, Int.reduceAdd, Int.reduceToNat, Int.toNat_natCast, not_true_eq_false, false_or] at h) <;> (try (exfalso; omega)))))
      all_goals first | (exfalso; omega) | skip
      · exact gvs (Fin.refl _ _ _)
      · exact nx_forS (i + 1) (by omega) (by omega) ⟨⟨_, rfl, wk1 (by omega)⟩, trivial⟩ (St.le_refl _)
  · have e : L21 p facts 10 = 1 := by
      unfold L21 at hL ⊢
      split
      · rename_i h; rw [if_pos h] at hL; exact absurd rfl hL
      · rfl
    rw [e] at k1
    obtain ⟨pc, pr⟩ := p
    repeat' (first|(first|(refine jl ?_;first|refine j7 ?_|refine j1 ?_|refine j4 ?_|refine j9 ?_|refine j12 (fun id hid=>?_)|refine j14 ?_|refine j16 ?_|refine jp (k0) ?_|refine jp (k1) ?_)|(refine jc ?_;first|refine c1 ?_|refine c2 ?_|refine c7 ?_)|refine n2 ?_|refine n11 ?_)|(refine c9 (fun h=>?_) (fun h=>?_)<;>((try simp only [Bool.or_eq_true, Bool.and_eq_true, Bool.or_eq_false_iff, Bool.and_eq_false_iff, Bool.not_eq_true', Bool.not_eq_false', decide_eq_true_eq, decide_eq_false_iff_not, Bool.false_eq_true, Bool.true_eq_false, reduceCtorEq] at h) <;> (try simp (disch := omega) only [sb_bt, w64, Int.reduceAdd, Int.reduceToNat, Int.toNat_natCast, not_true_eq_false, false_or] at h) <;> (try (exfalso; omega)))))
    all_goals first | exact gvs (Fin.refl _ _ _) | (exfalso; omega) | skip
end Go.Proofs.YtbpoeggmpjepfaaDoor.Ab

/- Facts, tags and the next tag that came in, opened. -/
set_option linter.unusedVariables false
set_option linter.unusedSimpArgs false
set_option maxRecDepth 20000
namespace Go.Proofs.YtbpoeggmpjepfaaDoor.Ab
open Go Go.RowKit
theorem open_m27 {n : Nat} {avs : List AV} (h : isAV Tryd.prog (n + 7) 48 avs) : ∃ (l : List Fc) (t : List Int) (m : Int), avs = [.sl none false 3 (l.map fc), .sl none false 1 (t.map int1), .v (.int .i64 m)] := by
  obtain ⟨a, r1, rfl, _, ha, b, r2, rfl, _, hb, c, r3, rfl, _, ⟨m, rfl, hm⟩, rfl⟩ := h
  obtain ⟨l, rfl, _⟩ := open_list (e := 52) (sz := 3) fc (fun _ => True) (by kernel_rfl) (by kernel_rfl) ha (fun el hel => by obtain ⟨f, h, _⟩ := open_f hel; exact ⟨f, h, trivial⟩)
  obtain ⟨t, rfl, _⟩ := open_list (e := 3) (sz := 1) int1 (fun _ => True) (by kernel_rfl) (by kernel_rfl) hb (fun el hel => open_i1 hel)
  exact ⟨l, t, m, rfl⟩
end Go.Proofs.YtbpoeggmpjepfaaDoor.Ab
