/- The texts KB, KC, one behind the other. -/
import Derived.Test.YtfaaokekgljnbaaDoorM1
import Derived.Test.YtfaaokekgljnbaaDoorM2
import Derived.Test.YtfaaokekgljnbaaDoorM3
import Derived.Test.YtfaaokekgljnbaaDoorM4
import Derived.Test.YtfaaokekgljnbaaDoorM5
import Derived.Test.YtfaaokekgljnbaaDoorM6
import Derived.Test.YtfaaokekgljnbaaDoorM7
import Derived.Test.YtfaaokekgljnbaaDoorM8
import Derived.Test.YtfaaokekgljnbaaDoorM9
/- Programs that are small enough. -/
set_option linter.unusedVariables false
set_option linter.unusedSimpArgs false
set_option maxRecDepth 20000
namespace Go.Proofs.YtfaaokekgljnbaaDoor.Ab
open Go
attribute [local irreducible] thn inb endR CJ LJ OpJ DJ DA DB AllocK
theorem all_no {α : Type} {f : α → Bool} {x : α} {r l : List α} (h : (x :: r).all f = l.all f) (hx : f x = false) : l.all f = false := by rw [← h, List.all_cons, hx]; rfl
theorem all_yes {α : Type} {f : α → Bool} {x : α} {r l : List α} (h : (x :: r).all f = l.all f) (hx : f x = true) : r.all f = l.all f := by rw [← h, List.all_cons, hx]; rfl
theorem all_end {α : Type} {f : α → Bool} {l : List α} (h : ([] : List α).all f = l.all f) : l.all f = true := h.symm
def ltIb (x : Itm) : Bool := decide (x.var.size ≤ 60) && decide (x.val.s.size ≤ 60)
def ltEb (l : List Itm) : Bool := decide (l.length ≤ 40) && l.all ltIb
def ltVb (v : Vl) : Bool := decide (v.s.size ≤ 60)
def ltTb (x : Tst) : Bool := decide (x.v.size ≤ 60) && decide (x.val.s.size ≤ 60)
def ltsb (a : Atr) : Bool := a.ones.all ltVb && a.tests.all ltTb
def ltAb (a : Atr) : Bool := decide (a.attr.size ≤ 60) && decide (a.ones.length ≤ 12) && decide (a.tests.length ≤ 12) && ltsb a
def ltCb (c : Cnd) : Bool := decide (c.attrs.length ≤ 10) && decide (c.cls.size ≤ 60) && c.attrs.all ltAb
def ltSb (s : Sgl) : Bool := decide (s.attr.size ≤ 60) && ltEb s.expr
def ltNb (a : Acn) : Bool := decide (a.sets.length ≤ 10) && decide (a.exprs.length ≤ 12) && decide (a.cls.size ≤ 60) && decide (a.var.size ≤ 60) && a.sets.all ltSb && a.exprs.all ltEb
def ltRb (r : Rul) : Bool := decide (r.conds.length ≤ 8) && decide (r.acts.length ≤ 12) && decide (r.name.size ≤ 60) && r.conds.all ltCb && r.acts.all ltNb
def ltWb (s : ByteArray) : Bool := decide (s.size ≤ 60)
def ltLb (c : Cls) : Bool := decide (c.name.size ≤ 60) && decide (c.attrs.length ≤ 10) && c.attrs.all ltWb
def ltPb (p : Prg) : Bool := decide (p.classes.length ≤ 20) && decide (p.rules.length ≤ 6) && p.classes.all ltLb && p.rules.all ltRb
theorem ltE_of {l : List Itm} (h : ltEb l = true) : ltE l := by
  simp only [ltEb, Bool.and_eq_true, decide_eq_true_eq, List.all_eq_true] at h
  refine ⟨h.1, fun x hx => ?_⟩
  have := h.2 x hx
  simp only [ltIb, Bool.and_eq_true, decide_eq_true_eq] at this
  exact ⟨this.2, this.1⟩
theorem ltA_of {a : Atr} (h : ltAb a = true) : ltA a := by
  simp only [ltAb, ltsb, Bool.and_eq_true, decide_eq_true_eq, List.all_eq_true] at h
  obtain ⟨⟨⟨h1, h2⟩, h3⟩, h4, h5⟩ := h
  refine ⟨h1, h2, h3, fun x hx => ?_, fun x hx => ?_⟩
  · have := h4 x hx
    simp only [ltVb, decide_eq_true_eq] at this
    exact this
  · have := h5 x hx
    simp only [ltTb, Bool.and_eq_true, decide_eq_true_eq] at this
    exact this
theorem ltC_of {c : Cnd} (h : ltCb c = true) : ltC c := by
  simp only [ltCb, Bool.and_eq_true, decide_eq_true_eq, List.all_eq_true] at h
  exact ⟨h.1.1, h.1.2, fun x hx => ltA_of (h.2 x hx)⟩
theorem ltN_of {a : Acn} (h : ltNb a = true) : ltN a := by
  simp only [ltNb, Bool.and_eq_true, decide_eq_true_eq, List.all_eq_true] at h
  obtain ⟨⟨⟨⟨⟨h1, h2⟩, h3⟩, h4⟩, h5⟩, h6⟩ := h
  refine ⟨h1, h2, h3, h4, fun x hx => ?_, fun x hx => ltE_of (h6 x hx)⟩
  have := h5 x hx
  simp only [ltSb, Bool.and_eq_true, decide_eq_true_eq] at this
  exact ⟨this.1, ltE_of this.2⟩
theorem ltR_of {r : Rul} (h : ltRb r = true) : ltR r := by
  simp only [ltRb, Bool.and_eq_true, decide_eq_true_eq, List.all_eq_true] at h
  obtain ⟨⟨⟨⟨h1, h2⟩, h3⟩, h4⟩, h5⟩ := h
  exact ⟨h1, h2, h3, fun x hx => ltC_of (h4 x hx), fun x hx => ltN_of (h5 x hx)⟩
theorem ltP_of {p : Prg} (h : ltPb p = true) : ltP p := by
  simp only [ltPb, Bool.and_eq_true, decide_eq_true_eq, List.all_eq_true] at h
  obtain ⟨⟨⟨h1, h2⟩, h3⟩, h4⟩ := h
  refine ⟨h1, h2, fun x hx => ?_, fun x hx => ltR_of (h4 x hx)⟩
  have := h3 x hx
  simp only [ltLb, Bool.and_eq_true, decide_eq_true_eq, List.all_eq_true] at this
  exact ⟨this.1.1, this.1.2, fun y hy => by simpa only [ltWb, decide_eq_true_eq] using this.2 y hy⟩
set_option maxHeartbeats 1000000 in
theorem p_lightItems (l : List Itm) : Pure Tryd.prog 89 [.sl none false 5 (l.map itc)] (.v (.bool (ltEb l))) := by
  refine enterW Tryd.func89 rfl rfl rfl rfl (fun σ => ?_)
  have hl1 : (l.map itc).length = l.length := List.length_map ..
  by_cases hl : 40 < l.length
  · repeat' (first|(first|(refine jl ?_;first|refine j1 ?_|refine j4 ?_)|(refine jc ?_;first|refine c1 ?_|refine c2 ?_|refine c7 ?_)|refine n2 ?_|refine n11 ?_)|(refine c9 (fun h=>?_) (fun h=>?_)<;>((try simp only [Bool.or_eq_true, Bool.and_eq_true, Bool.or_eq_false_iff, Bool.and_eq_false_iff, Bool.not_eq_true', Bool.not_eq_false', decide_eq_true_eq, decide_eq_false_iff_not, Bool.false_eq_true, Bool.true_eq_false, reduceCtorEq] at h) <;> (try simp (disch := omega) only [sb_bt, w64, Int.reduceAdd, Int.reduceToNat, Int.toNat_natCast, not_true_eq_false, false_or] at h) <;> (try (exfalso; omega)))))
    refine gives (by repeat' (first | exact St.le_refl _ | refine St.le_any ?_)) (fin_one (.wk (Wk.of_eq ?_)))
    simp [ltEb, ofLeaf]
    omega
  · have hl2 : l.length ≤ 40 := by omega
    repeat' (first|(first|(refine jl ?_;first|refine j1 ?_|refine j4 ?_)|(refine jc ?_;first|refine c1 ?_|refine c2 ?_|refine c5 ?_|refine c6 ?_)|refine n1 ?_)|(refine c9 (fun h=>?_) (fun h=>?_)<;>((try simp only [Bool.or_eq_true, Bool.and_eq_true, Bool.or_eq_false_iff, Bool.and_eq_false_iff, Bool.not_eq_true', Bool.not_eq_false', decide_eq_true_eq, decide_eq_false_iff_not, Bool.false_eq_true, Bool.true_eq_false, reduceCtorEq] at h) <;> (try simp (disch := omega) only [sb_bt, w64, Int.reduceAdd, Int.reduceToNat, Int.toNat_natCast, not_true_eq_false, false_or] at h) <;> (try (exfalso; omega)))))
    refine cj_for (fun i : Nat => i ≤ l.length ∧ (l.drop i).all ltIb = l.all ltIb) (fun i => [(3, .v (.int .i64 i))]) (fun _ => _) (fun i => l.length - i) 0 ⟨Nat.zero_le _, rfl⟩ ⟨⟨_, rfl, fun _ _ h => h⟩, trivial⟩ (St.le_refl _) (fun i0 hi => ?_)
    obtain ⟨hi0, hs0⟩ := hi
    rcases hd : l.drop i0 with _ | ⟨x0, r0⟩
    · have z0 := dropn hd
      rw [hd] at hs0
      repeat' (first|(first|(refine jl ?_;first|refine j1 ?_|refine j4 ?_)|(refine jc ?_;first|refine c1 ?_|refine c2 ?_|refine c7 ?_|refine c8 ?_)|refine n1 ?_|refine n3 ?_|refine n7 ?_|refine n8 ?_|refine n11 ?_)|(refine c9 (fun h=>?_) (fun h=>?_)<;>((try simp only [Bool.or_eq_true, Bool.and_eq_true, Bool.or_eq_false_iff, Bool.and_eq_false_iff, Bool.not_eq_true', Bool.not_eq_false', decide_eq_true_eq, decide_eq_false_iff_not, Bool.false_eq_true, Bool.true_eq_false, reduceCtorEq] at h) <;> (try simp (disch := omega) only [sb_bt, w64, Int.reduceAdd, Int.reduceToNat, Int.toNat_natCast, not_true_eq_false, false_or] at h) <;> (try (exfalso; omega)))))
      have q := all_end hs0
      refine gives (by repeat' (first | exact St.le_refl _ | refine St.le_any ?_)) (fin_one (.wk (Wk.of_eq ?_)))
      simp [ltEb, ofLeaf, q, hl2]
    · obtain ⟨u0, v0, w0⟩ := dropc hd
      have e0 := get_map itc w0
      rw [hd] at hs0
      repeat' (first|(first|(refine jl ?_;first|refine j7 ?_|refine jbl ?_|refine j1 ?_|refine j4 ?_|refine j6 ?_|refine j9 ?_|refine ji1 ?_|refine ji3 ?_)|(refine jc ?_;first|refine c1 ?_|refine c2 ?_|refine c5 ?_|refine c6 ?_|refine c7 ?_)|refine n1 ?_|refine n2 ?_|refine n5 ?_|refine n6 ?_|refine n10 ?_|refine n11 ?_)|(refine c9 (fun h=>?_) (fun h=>?_)<;>((try simp only [Bool.or_eq_true, Bool.and_eq_true, Bool.or_eq_false_iff, Bool.and_eq_false_iff, Bool.not_eq_true', Bool.not_eq_false', decide_eq_true_eq, decide_eq_false_iff_not, Bool.false_eq_true, Bool.true_eq_false, reduceCtorEq] at h) <;> (try simp (disch := omega) only [sb_bt, w64, Int.reduceAdd, Int.reduceToNat, Int.toNat_natCast, not_true_eq_false, false_or] at h) <;> (try (exfalso; omega)))))
      · have q := all_no hs0 (by first | (simp [ltIb]; done) | (simp [ltIb]; omega))
        refine gives (by repeat' (first | exact St.le_refl _ | refine St.le_any ?_)) (fin_one (.wk (Wk.of_eq ?_)))
        simp [ltEb, ofLeaf, q]
      · exact nx_forS (i0 + 1) ⟨by omega, by rw [v0]; exact all_yes hs0 (by first | (simp [ltIb]; done) | (simp [ltIb]; omega))⟩ (by omega) ⟨⟨_, rfl, wk1 (by omega)⟩, trivial⟩ (by repeat' (first | exact St.le_refl _ | refine St.le_any ?_))
set_option maxHeartbeats 1000000 in
theorem p_lightTests (a : Atr) : Pure Tryd.prog 88 [.agg (ac a)] (.v (.bool (ltsb a))) := by
  refine enterW Tryd.func88 rfl rfl rfl rfl (fun σ => ?_)
  obtain ⟨an, ao, at_⟩ := a
  refine cj_lenA 0 1 (fun hm1 => ?_)
  refine cj_lenA 0 2 (fun hm2 => ?_)
  dsimp only at hm1 hm2
  have hl1 : (ao.map vc).length = ao.length := List.length_map ..
  have hl2 : (at_.map tc).length = at_.length := List.length_map ..
  repeat' (first|(first|(refine jl ?_;first|refine j1 ?_|refine j4 ?_|refine j12 (fun id hid=>?_))|(refine jc ?_;first|refine c1 ?_|refine c2 ?_|refine c5 ?_)))
  refine cj_for (fun i : Nat => i ≤ ao.length ∧ (ao.drop i).all ltVb = ao.all ltVb) (fun i => [(3, .v (.int .i64 i))]) (fun _ => _) (fun i => ao.length - i) 0 ⟨Nat.zero_le _, rfl⟩ ⟨⟨_, rfl, fun _ _ h => h⟩, trivial⟩ (St.le_refl _) (fun i0 hi => ?_)
  obtain ⟨hi0, hs0⟩ := hi
  rcases hd : ao.drop i0 with _ | ⟨x0, r0⟩
  · have z0 := dropn hd
    rw [hd] at hs0
    have q0 := all_end hs0
    repeat' (first|(first|(refine jl ?_;first|refine j1 ?_|refine j4 ?_|refine j14 ?_)|(refine jc ?_;first|refine c1 ?_|refine c2 ?_|refine c5 ?_|refine c8 ?_)|refine n1 ?_|refine n3 ?_|refine n7 ?_|refine n8 ?_)|(refine c9 (fun h=>?_) (fun h=>?_)<;>((try simp only [Bool.or_eq_true, Bool.and_eq_true, Bool.or_eq_false_iff, Bool.and_eq_false_iff, Bool.not_eq_true', Bool.not_eq_false', decide_eq_true_eq, decide_eq_false_iff_not, Bool.false_eq_true, Bool.true_eq_false, reduceCtorEq] at h) <;> (try simp (disch := omega) only [sb_bt, w64, Int.reduceAdd, Int.reduceToNat, Int.toNat_natCast, not_true_eq_false, false_or] at h) <;> (try (exfalso; omega)))))
    refine cj_for (fun i : Nat => i ≤ at_.length ∧ (at_.drop i).all ltTb = at_.all ltTb) (fun i => [(4, .v (.int .i64 i))]) (fun _ => _) (fun i => at_.length - i) 0 ⟨Nat.zero_le _, rfl⟩ ⟨⟨_, rfl, fun _ _ h => h⟩, trivial⟩ (St.le_refl _) (fun i1 hi => ?_)
    obtain ⟨hi1, hs1⟩ := hi
    rcases hd : at_.drop i1 with _ | ⟨x1, r1⟩
    · have z1 := dropn hd
      rw [hd] at hs1
      repeat' (first|(first|(refine jl ?_;first|refine j1 ?_|refine j4 ?_|refine j14 ?_)|(refine jc ?_;first|refine c1 ?_|refine c2 ?_|refine c7 ?_|refine c8 ?_)|refine n1 ?_|refine n3 ?_|refine n7 ?_|refine n8 ?_|refine n11 ?_)|(refine c9 (fun h=>?_) (fun h=>?_)<;>((try simp only [Bool.or_eq_true, Bool.and_eq_true, Bool.or_eq_false_iff, Bool.and_eq_false_iff, Bool.not_eq_true', Bool.not_eq_false', decide_eq_true_eq, decide_eq_false_iff_not, Bool.false_eq_true, Bool.true_eq_false, reduceCtorEq] at h) <;> (try simp (disch := omega) only [sb_bt, w64, Int.reduceAdd, Int.reduceToNat, Int.toNat_natCast, not_true_eq_false, false_or] at h) <;> (try (exfalso; omega)))))
      have q1 := all_end hs1
      refine gives (by repeat' (first | exact St.le_refl _ | refine St.le_any ?_)) (fin_one (.wk (Wk.of_eq ?_)))
      simp [ltsb, ofLeaf, q0, q1]
    · obtain ⟨u1, v1, w1⟩ := dropc hd
      have e1 := get_map tc w1
      rw [hd] at hs1
      repeat' (first|(first|(refine jl ?_;first|refine j7 ?_|refine jbl ?_|refine j1 ?_|refine j4 ?_|refine j6 ?_|refine j9 ?_|refine j14 ?_|refine j16 ?_|refine ji1 ?_|refine ji3 ?_)|(refine jc ?_;first|refine c1 ?_|refine c2 ?_|refine c5 ?_|refine c6 ?_|refine c7 ?_)|refine n1 ?_|refine n2 ?_|refine n5 ?_|refine n6 ?_|refine n10 ?_|refine n11 ?_)|(refine c9 (fun h=>?_) (fun h=>?_)<;>((try simp only [Bool.or_eq_true, Bool.and_eq_true, Bool.or_eq_false_iff, Bool.and_eq_false_iff, Bool.not_eq_true', Bool.not_eq_false', decide_eq_true_eq, decide_eq_false_iff_not, Bool.false_eq_true, Bool.true_eq_false, reduceCtorEq] at h) <;> (try simp (disch := omega) only [sb_bt, w64, Int.reduceAdd, Int.reduceToNat, Int.toNat_natCast, not_true_eq_false, false_or] at h) <;> (try (exfalso; omega)))))
      · have q1 := all_no hs1 (by first | (simp [ltTb]; done) | (simp [ltTb]; omega))
        refine gives (by repeat' (first | exact St.le_refl _ | refine St.le_any ?_)) (fin_one (.wk (Wk.of_eq ?_)))
        simp [ltsb, ofLeaf, q1]
      · exact nx_forS (i1 + 1) ⟨by omega, by rw [v1]; exact all_yes hs1 (by first | (simp [ltTb]; done) | (simp [ltTb]; omega))⟩ (by omega) ⟨⟨_, rfl, wk1 (by omega)⟩, trivial⟩ (by repeat' (first | exact St.le_refl _ | refine St.le_any ?_))
  · obtain ⟨u0, v0, w0⟩ := dropc hd
    have e0 := get_map vc w0
    rw [hd] at hs0
    repeat' (first|(first|(refine jl ?_;first|refine jbl ?_|refine j1 ?_|refine j4 ?_|refine j6 ?_|refine j14 ?_|refine ji1 ?_)|(refine jc ?_;first|refine c1 ?_|refine c2 ?_|refine c5 ?_|refine c6 ?_|refine c7 ?_)|refine n1 ?_|refine n2 ?_|refine n5 ?_|refine n6 ?_|refine n10 ?_|refine n11 ?_)|(refine c9 (fun h=>?_) (fun h=>?_)<;>((try simp only [Bool.or_eq_true, Bool.and_eq_true, Bool.or_eq_false_iff, Bool.and_eq_false_iff, Bool.not_eq_true', Bool.not_eq_false', decide_eq_true_eq, decide_eq_false_iff_not, Bool.false_eq_true, Bool.true_eq_false, reduceCtorEq] at h) <;> (try simp (disch := omega) only [sb_bt, w64, Int.reduceAdd, Int.reduceToNat, Int.toNat_natCast, not_true_eq_false, false_or] at h) <;> (try (exfalso; omega)))))
    · have q0 := all_no hs0 (by first | (simp [ltVb]; done) | (simp [ltVb]; omega))
      refine gives (by repeat' (first | exact St.le_refl _ | refine St.le_any ?_)) (fin_one (.wk (Wk.of_eq ?_)))
      simp [ltsb, ofLeaf, q0]
    · exact nx_forS (i0 + 1) ⟨by omega, by rw [v0]; exact all_yes hs0 (by first | (simp [ltVb]; done) | (simp [ltVb]; omega))⟩ (by omega) ⟨⟨_, rfl, wk1 (by omega)⟩, trivial⟩ (by repeat' (first | exact St.le_refl _ | refine St.le_any ?_))
set_option maxHeartbeats 4000000 in
theorem p_lightRule (r : Rul) : Pure Tryd.prog 47 [.agg (ruc r)] (.v (.bool (ltRb r))) := by
  refine enterW Tryd.func47 rfl rfl rfl rfl (fun σ => ?_)
  obtain ⟨rn, rc, ra⟩ := r
  have hl1 : (rc.map dc).length = rc.length := List.length_map ..
  have hl2 : (ra.map anc).length = ra.length := List.length_map ..
  by_cases hl : 8 < rc.length ∨ 12 < ra.length ∨ 60 < rn.size
  · repeat' (first|(first|(refine jl ?_;first|refine j7 ?_|refine j1 ?_|refine j4 ?_|refine j9 ?_|refine j12 (fun id hid=>?_)|refine j14 ?_|refine j16 ?_)|(refine jc ?_;first|refine c1 ?_|refine c2 ?_|refine c7 ?_)|refine n2 ?_|refine n11 ?_)|(refine c9 (fun h=>?_) (fun h=>?_)<;>((try simp only [Bool.or_eq_true, Bool.and_eq_true, Bool.or_eq_false_iff, Bool.and_eq_false_iff, Bool.not_eq_true', Bool.not_eq_false', decide_eq_true_eq, decide_eq_false_iff_not, Bool.false_eq_true, Bool.true_eq_false, reduceCtorEq] at h) <;> (try simp (disch := omega) only [sb_bt, w64, Int.reduceAdd, Int.reduceToNat, Int.toNat_natCast, not_true_eq_false, false_or] at h) <;> (try (exfalso; omega)))))
    refine gives (by repeat' (first | exact St.le_refl _ | refine St.le_any ?_)) (fin_one (.wk (Wk.of_eq ?_)))
    simp [ltRb, ofLeaf]
    omega
  · have hn1 : rc.length ≤ 8 := by omega
    have hn2 : ra.length ≤ 12 := by omega
    have hn3 : rn.size ≤ 60 := by omega
    repeat' (first|(first|(refine jl ?_;first|refine j7 ?_|refine j1 ?_|refine j4 ?_|refine j9 ?_|refine j12 (fun id hid=>?_)|refine j14 ?_|refine j16 ?_)|(refine jc ?_;first|refine c1 ?_|refine c2 ?_|refine c5 ?_|refine c6 ?_)|refine n1 ?_)|(refine c9 (fun h=>?_) (fun h=>?_)<;>((try simp only [Bool.or_eq_true, Bool.and_eq_true, Bool.or_eq_false_iff, Bool.and_eq_false_iff, Bool.not_eq_true', Bool.not_eq_false', decide_eq_true_eq, decide_eq_false_iff_not, Bool.false_eq_true, Bool.true_eq_false, reduceCtorEq] at h) <;> (try simp (disch := omega) only [sb_bt, w64, Int.reduceAdd, Int.reduceToNat, Int.toNat_natCast, not_true_eq_false, false_or] at h) <;> (try (exfalso; omega)))))
    refine cj_for (fun i : Nat => i ≤ rc.length ∧ (rc.drop i).all ltCb = rc.all ltCb) (fun i => [(3, .v (.int .i64 i))]) (fun _ => _) (fun i => rc.length - i) 0 ⟨Nat.zero_le _, rfl⟩ ⟨⟨_, rfl, fun _ _ h => h⟩, trivial⟩ (St.le_refl _) (fun i0 hi => ?_)
    obtain ⟨hi0, hs0⟩ := hi
    rcases hd : rc.drop i0 with _ | ⟨x0, r0⟩
    · have z0 := dropn hd
      rw [hd] at hs0
      have q0 := all_end hs0
      repeat' (first|(first|(refine jl ?_;first|refine j1 ?_|refine j4 ?_|refine j14 ?_)|(refine jc ?_;first|refine c1 ?_|refine c2 ?_|refine c5 ?_|refine c8 ?_)|refine n1 ?_|refine n3 ?_|refine n7 ?_|refine n8 ?_)|(refine c9 (fun h=>?_) (fun h=>?_)<;>((try simp only [Bool.or_eq_true, Bool.and_eq_true, Bool.or_eq_false_iff, Bool.and_eq_false_iff, Bool.not_eq_true', Bool.not_eq_false', decide_eq_true_eq, decide_eq_false_iff_not, Bool.false_eq_true, Bool.true_eq_false, reduceCtorEq] at h) <;> (try simp (disch := omega) only [sb_bt, w64, Int.reduceAdd, Int.reduceToNat, Int.toNat_natCast, not_true_eq_false, false_or] at h) <;> (try (exfalso; omega)))))
      refine cj_for (fun i : Nat => i ≤ ra.length ∧ (ra.drop i).all ltNb = ra.all ltNb) (fun i => [(6, .v (.int .i64 i))]) (fun _ => _) (fun i => ra.length - i) 0 ⟨Nat.zero_le _, rfl⟩ ⟨⟨_, rfl, fun _ _ h => h⟩, trivial⟩ (St.le_refl _) (fun i2 hi => ?_)
      obtain ⟨hi2, hs2⟩ := hi
      rcases hd : ra.drop i2 with _ | ⟨x2, r2⟩
      · have z2 := dropn hd
        rw [hd] at hs2
        repeat' (first|(first|(refine jl ?_;first|refine j1 ?_|refine j4 ?_|refine j14 ?_)|(refine jc ?_;first|refine c1 ?_|refine c2 ?_|refine c7 ?_|refine c8 ?_)|refine n1 ?_|refine n3 ?_|refine n7 ?_|refine n8 ?_|refine n11 ?_)|(refine c9 (fun h=>?_) (fun h=>?_)<;>((try simp only [Bool.or_eq_true, Bool.and_eq_true, Bool.or_eq_false_iff, Bool.and_eq_false_iff, Bool.not_eq_true', Bool.not_eq_false', decide_eq_true_eq, decide_eq_false_iff_not, Bool.false_eq_true, Bool.true_eq_false, reduceCtorEq] at h) <;> (try simp (disch := omega) only [sb_bt, w64, Int.reduceAdd, Int.reduceToNat, Int.toNat_natCast, not_true_eq_false, false_or] at h) <;> (try (exfalso; omega)))))
        have q2 := all_end hs2
        refine gives (by repeat' (first | exact St.le_refl _ | refine St.le_any ?_)) (fin_one (.wk (Wk.of_eq ?_)))
        simp [ltRb, ofLeaf, hn1, hn2, hn3, q0, q2]
      · obtain ⟨u2, v2, w2⟩ := dropc hd
        have e2 := get_map anc w2
        rw [hd] at hs2
        obtain ⟨ak, al, an, av, as_, ae⟩ := x2
        have hm1 : (as_.map sgc).length = as_.length := List.length_map ..
        have hm2 : (ae.map itl).length = ae.length := List.length_map ..
        by_cases hb : 10 < as_.length ∨ 12 < ae.length ∨ 60 < al.size ∨ 60 < av.size
        · repeat' (first|(first|(refine jl ?_;first|refine j7 ?_|refine jbl ?_|refine j1 ?_|refine j4 ?_|refine j9 ?_|refine j13 (fun id hid=>?_)|refine j14 ?_|refine j17t ?_|refine j16 ?_|refine ji1 ?_)|(refine jc ?_;first|refine c1 ?_|refine c2 ?_|refine c5 ?_|refine c6 ?_|refine c7 ?_)|refine n1 ?_|refine n2 ?_|refine n5 ?_|refine n6 ?_|refine n11 ?_)|(refine c9 (fun h=>?_) (fun h=>?_)<;>((try simp only [Bool.or_eq_true, Bool.and_eq_true, Bool.or_eq_false_iff, Bool.and_eq_false_iff, Bool.not_eq_true', Bool.not_eq_false', decide_eq_true_eq, decide_eq_false_iff_not, Bool.false_eq_true, Bool.true_eq_false, reduceCtorEq] at h) <;> (try simp (disch := omega) only [sb_bt, w64, Int.reduceAdd, Int.reduceToNat, Int.toNat_natCast, not_true_eq_false, false_or] at h) <;> (try (exfalso; omega)))))
          have q2 := all_no hs2 (by simp [ltNb]; omega)
          refine gives (by repeat' (first | exact St.le_refl _ | refine St.le_any ?_)) (fin_one (.wk (Wk.of_eq ?_)))
          simp [ltRb, ofLeaf, q2]
        · have hb1 : as_.length ≤ 10 := by omega
          have hb2 : ae.length ≤ 12 := by omega
          have hb3 : al.size ≤ 60 := by omega
          have hb4 : av.size ≤ 60 := by omega
          repeat' (first|(first|(refine jl ?_;first|refine j7 ?_|refine jbl ?_|refine j1 ?_|refine j4 ?_|refine j9 ?_|refine j13 (fun id hid=>?_)|refine j14 ?_|refine j17t ?_|refine j16 ?_|refine ji1 ?_)|(refine jc ?_;first|refine c1 ?_|refine c2 ?_|refine c5 ?_|refine c6 ?_)|refine n1 ?_)|(refine c9 (fun h=>?_) (fun h=>?_)<;>((try simp only [Bool.or_eq_true, Bool.and_eq_true, Bool.or_eq_false_iff, Bool.and_eq_false_iff, Bool.not_eq_true', Bool.not_eq_false', decide_eq_true_eq, decide_eq_false_iff_not, Bool.false_eq_true, Bool.true_eq_false, reduceCtorEq] at h) <;> (try simp (disch := omega) only [sb_bt, w64, Int.reduceAdd, Int.reduceToNat, Int.toNat_natCast, not_true_eq_false, false_or] at h) <;> (try (exfalso; omega)))))
          refine cj_for (fun i : Nat => i ≤ as_.length ∧ (as_.drop i).all ltSb = as_.all ltSb) (fun i => [(8, .v (.int .i64 i))]) (fun _ => _) (fun i => as_.length - i) 0 ⟨Nat.zero_le _, rfl⟩ ⟨⟨_, rfl, fun _ _ h => h⟩, trivial⟩ (St.le_refl _) (fun i3 hi => ?_)
          obtain ⟨hi3, hs3⟩ := hi
          rcases hd : as_.drop i3 with _ | ⟨x3, r3⟩
          · have z3 := dropn hd
            rw [hd] at hs3
            have q3 := all_end hs3
            repeat' (first|(first|(refine jl ?_;first|refine j1 ?_|refine j4 ?_|refine j14 ?_)|(refine jc ?_;first|refine c1 ?_|refine c2 ?_|refine c5 ?_|refine c8 ?_)|refine n1 ?_|refine n3 ?_|refine n7 ?_|refine n8 ?_)|(refine c9 (fun h=>?_) (fun h=>?_)<;>((try simp only [Bool.or_eq_true, Bool.and_eq_true, Bool.or_eq_false_iff, Bool.and_eq_false_iff, Bool.not_eq_true', Bool.not_eq_false', decide_eq_true_eq, decide_eq_false_iff_not, Bool.false_eq_true, Bool.true_eq_false, reduceCtorEq] at h) <;> (try simp (disch := omega) only [sb_bt, w64, Int.reduceAdd, Int.reduceToNat, Int.toNat_natCast, not_true_eq_false, false_or] at h) <;> (try (exfalso; omega)))))
            refine cj_for (fun i : Nat => i ≤ ae.length ∧ (ae.drop i).all ltEb = ae.all ltEb) (fun i => [(9, .v (.int .i64 i))]) (fun _ => _) (fun i => ae.length - i) 0 ⟨Nat.zero_le _, rfl⟩ ⟨⟨_, rfl, fun _ _ h => h⟩, trivial⟩ (St.le_refl _) (fun i4 hi => ?_)
            obtain ⟨hi4, hs4⟩ := hi
            rcases hd : ae.drop i4 with _ | ⟨x4, r4⟩
            · have z4 := dropn hd
              rw [hd] at hs4
              have q4 := all_end hs4
              repeat' (first|(first|(refine jl ?_;first|refine j1 ?_|refine j4 ?_|refine j6 ?_|refine j14 ?_)|(refine jc ?_;first|refine c1 ?_|refine c2 ?_|refine c8 ?_)|refine n1 ?_|refine n3 ?_|refine n7 ?_|refine n8 ?_|refine n10 ?_)|(refine c9 (fun h=>?_) (fun h=>?_)<;>((try simp only [Bool.or_eq_true, Bool.and_eq_true, Bool.or_eq_false_iff, Bool.and_eq_false_iff, Bool.not_eq_true', Bool.not_eq_false', decide_eq_true_eq, decide_eq_false_iff_not, Bool.false_eq_true, Bool.true_eq_false, reduceCtorEq] at h) <;> (try simp (disch := omega) only [sb_bt, w64, Int.reduceAdd, Int.reduceToNat, Int.toNat_natCast, not_true_eq_false, false_or] at h) <;> (try (exfalso; omega)))))
              exact nx_forS (i2 + 1) ⟨by omega, by rw [v2]; exact all_yes hs2 (by simp [ltNb, hb1, hb2, hb3, hb4, q3, q4])⟩ (by omega) ⟨⟨_, rfl, wk1 (by omega)⟩, trivial⟩ (by repeat' (first | exact St.le_refl _ | refine St.le_any ?_))
            · obtain ⟨u4, v4, w4⟩ := dropc hd
              have e4 := get_map itl w4
              rw [hd] at hs4
              have k1 := p_lightItems x4
              cases hb5 : ltEb x4
              · rw [hb5] at k1
                repeat' (first|(first|(refine jl ?_;first|refine jbl ?_|refine j1 ?_|refine j4 ?_|refine j14 ?_|refine ji1 ?_|refine jp (k1) ?_)|(refine jc ?_;first|refine c1 ?_|refine c2 ?_|refine c5 ?_|refine c6 ?_|refine c7 ?_)|refine n1 ?_|refine n2 ?_|refine n5 ?_|refine n6 ?_|refine n11 ?_)|(refine c9 (fun h=>?_) (fun h=>?_)<;>((try simp only [Bool.or_eq_true, Bool.and_eq_true, Bool.or_eq_false_iff, Bool.and_eq_false_iff, Bool.not_eq_true', Bool.not_eq_false', decide_eq_true_eq, decide_eq_false_iff_not, Bool.false_eq_true, Bool.true_eq_false, reduceCtorEq] at h) <;> (try simp (disch := omega) only [sb_bt, w64, Int.reduceAdd, Int.reduceToNat, Int.toNat_natCast, not_true_eq_false, false_or] at h) <;> (try (exfalso; omega)))))
                all_goals first
                  | (exfalso; simp at h; done)
                  | (exfalso; simp at h; omega)
                  | (have q4 := all_no hs4 hb5
                     have q2 := all_no hs2 (by simp [ltNb, q4])
                     refine gives (by repeat' (first | exact St.le_refl _ | refine St.le_any ?_)) (fin_one (.wk (Wk.of_eq ?_)))
                     simp [ltRb, ofLeaf, q2])
              · rw [hb5] at k1
                repeat' (first|(first|(refine jl ?_;first|refine jbl ?_|refine j1 ?_|refine j4 ?_|refine j6 ?_|refine j14 ?_|refine ji1 ?_|refine jp (k1) ?_)|(refine jc ?_;first|refine c1 ?_|refine c2 ?_|refine c5 ?_|refine c6 ?_)|refine n1 ?_|refine n10 ?_)|(refine c9 (fun h=>?_) (fun h=>?_)<;>((try simp only [Bool.or_eq_true, Bool.and_eq_true, Bool.or_eq_false_iff, Bool.and_eq_false_iff, Bool.not_eq_true', Bool.not_eq_false', decide_eq_true_eq, decide_eq_false_iff_not, Bool.false_eq_true, Bool.true_eq_false, reduceCtorEq] at h) <;> (try simp (disch := omega) only [sb_bt, w64, Int.reduceAdd, Int.reduceToNat, Int.toNat_natCast, not_true_eq_false, false_or] at h) <;> (try (exfalso; omega)))))
                all_goals first
                  | (exfalso; simp at h; done)
                  | (exfalso; simp at h; omega)
                  | (exact nx_forS (i4 + 1) ⟨by omega, by rw [v4]; exact all_yes hs4 hb5⟩ (by omega) ⟨⟨_, rfl, wk1 (by omega)⟩, trivial⟩ (by repeat' (first | exact St.le_refl _ | refine St.le_any ?_)))
          · obtain ⟨u3, v3, w3⟩ := dropc hd
            have e3 := get_map sgc w3
            rw [hd] at hs3
            have k1 := p_lightItems x3.expr
            cases hb5 : ltEb x3.expr
            · rw [hb5] at k1
              repeat' (first|(first|(refine jl ?_;first|refine j7 ?_|refine jbl ?_|refine j1 ?_|refine j4 ?_|refine j6 ?_|refine j9 ?_|refine j14 ?_|refine j16 ?_|refine ji1 ?_|refine ji3 ?_|refine jcq (hp:=fun hc=>k1) ?_)|(refine jc ?_;first|refine c1 ?_|refine c2 ?_|refine c5 ?_|refine c6 ?_|refine c7 ?_)|refine n1 ?_|refine n2 ?_|refine n5 ?_|refine n6 ?_|refine n10 ?_|refine n11 ?_)|(refine c9 (fun h=>?_) (fun h=>?_)<;>((try simp only [Bool.or_eq_true, Bool.and_eq_true, Bool.or_eq_false_iff, Bool.and_eq_false_iff, Bool.not_eq_true', Bool.not_eq_false', decide_eq_true_eq, decide_eq_false_iff_not, Bool.false_eq_true, Bool.true_eq_false, reduceCtorEq] at h) <;> (try simp (disch := omega) only [sb_bt, w64, Int.reduceAdd, Int.reduceToNat, Int.toNat_natCast, not_true_eq_false, false_or] at h) <;> (try (exfalso; omega)))))
              all_goals first
                | (exfalso; simp at h; done)
                | (exfalso; simp at h; omega)
                | (have q3 := all_no hs3 (by simp [ltSb, hb5])
                   have q2 := all_no hs2 (by simp [ltNb, q3])
                   refine gives (by repeat' (first | exact St.le_refl _ | refine St.le_any ?_)) (fin_one (.wk (Wk.of_eq ?_)))
                   simp [ltRb, ofLeaf, q2])
            · rw [hb5] at k1
              by_cases hz : 60 < x3.attr.size
              · repeat' (first|(first|(refine jl ?_;first|refine j7 ?_|refine jbl ?_|refine j1 ?_|refine j4 ?_|refine j9 ?_|refine j14 ?_|refine j16 ?_|refine ji1 ?_|refine ji3 ?_|refine jcq (hp:=fun hc=>k1) ?_)|(refine jc ?_;first|refine c1 ?_|refine c2 ?_|refine c5 ?_|refine c6 ?_|refine c7 ?_)|refine n1 ?_|refine n2 ?_|refine n5 ?_|refine n6 ?_|refine n11 ?_)|(refine c9 (fun h=>?_) (fun h=>?_)<;>((try simp only [Bool.or_eq_true, Bool.and_eq_true, Bool.or_eq_false_iff, Bool.and_eq_false_iff, Bool.not_eq_true', Bool.not_eq_false', decide_eq_true_eq, decide_eq_false_iff_not, Bool.false_eq_true, Bool.true_eq_false, reduceCtorEq] at h) <;> (try simp (disch := omega) only [sb_bt, w64, Int.reduceAdd, Int.reduceToNat, Int.toNat_natCast, not_true_eq_false, false_or] at h) <;> (try (exfalso; omega)))))
                all_goals first
                  | (exfalso; simp at h; done)
                  | (exfalso; simp at h; omega)
                  | (have q3 := all_no hs3 (by simp [ltSb, hb5]; omega)
                     have q2 := all_no hs2 (by simp [ltNb, q3])
                     refine gives (by repeat' (first | exact St.le_refl _ | refine St.le_any ?_)) (fin_one (.wk (Wk.of_eq ?_)))
                     simp [ltRb, ofLeaf, q2])
              · repeat' (first|(first|(refine jl ?_;first|refine j7 ?_|refine jbl ?_|refine j1 ?_|refine j4 ?_|refine j6 ?_|refine j9 ?_|refine j14 ?_|refine j16 ?_|refine ji1 ?_|refine ji3 ?_|refine jcq (hp:=fun hc=>k1) ?_)|(refine jc ?_;first|refine c1 ?_|refine c2 ?_|refine c5 ?_|refine c6 ?_|refine c7 ?_)|refine n1 ?_|refine n2 ?_|refine n5 ?_|refine n6 ?_|refine n10 ?_|refine n11 ?_)|(refine c9 (fun h=>?_) (fun h=>?_)<;>((try simp only [Bool.or_eq_true, Bool.and_eq_true, Bool.or_eq_false_iff, Bool.and_eq_false_iff, Bool.not_eq_true', Bool.not_eq_false', decide_eq_true_eq, decide_eq_false_iff_not, Bool.false_eq_true, Bool.true_eq_false, reduceCtorEq] at h) <;> (try simp (disch := omega) only [sb_bt, w64, Int.reduceAdd, Int.reduceToNat, Int.toNat_natCast, not_true_eq_false, false_or] at h) <;> (try (exfalso; omega)))))
                all_goals first
                  | (exfalso; simp at h; done)
                  | (exfalso; simp at h; omega)
                  | (exact nx_forS (i3 + 1) ⟨by omega, by rw [v3]; exact all_yes hs3 (by simp [ltSb, hb5]; omega)⟩ (by omega) ⟨⟨_, rfl, wk1 (by omega)⟩, trivial⟩ (by repeat' (first | exact St.le_refl _ | refine St.le_any ?_)))
    · obtain ⟨u0, v0, w0⟩ := dropc hd
      have e0 := get_map dc w0
      rw [hd] at hs0
      obtain ⟨cn, cl, ca⟩ := x0
      have hm1 : (ca.map ac).length = ca.length := List.length_map ..
      by_cases hb : 10 < ca.length ∨ 60 < cl.size
      · repeat' (first|(first|(refine jl ?_;first|refine j7 ?_|refine jbl ?_|refine j1 ?_|refine j4 ?_|refine j9 ?_|refine j14 ?_|refine j16 ?_|refine ji1 ?_|refine ji3 ?_)|(refine jc ?_;first|refine c1 ?_|refine c2 ?_|refine c5 ?_|refine c6 ?_|refine c7 ?_)|refine n1 ?_|refine n2 ?_|refine n5 ?_|refine n6 ?_|refine n11 ?_)|(refine c9 (fun h=>?_) (fun h=>?_)<;>((try simp only [Bool.or_eq_true, Bool.and_eq_true, Bool.or_eq_false_iff, Bool.and_eq_false_iff, Bool.not_eq_true', Bool.not_eq_false', decide_eq_true_eq, decide_eq_false_iff_not, Bool.false_eq_true, Bool.true_eq_false, reduceCtorEq] at h) <;> (try simp (disch := omega) only [sb_bt, w64, Int.reduceAdd, Int.reduceToNat, Int.toNat_natCast, not_true_eq_false, false_or] at h) <;> (try (exfalso; omega)))))
        have q0 := all_no hs0 (by simp [ltCb]; omega)
        refine gives (by repeat' (first | exact St.le_refl _ | refine St.le_any ?_)) (fin_one (.wk (Wk.of_eq ?_)))
        simp [ltRb, ofLeaf, q0]
      · have hb1 : ca.length ≤ 10 := by omega
        have hb2 : cl.size ≤ 60 := by omega
        repeat' (first|(first|(refine jl ?_;first|refine j7 ?_|refine jbl ?_|refine j1 ?_|refine j4 ?_|refine j9 ?_|refine j14 ?_|refine j16 ?_|refine ji1 ?_|refine ji3 ?_)|(refine jc ?_;first|refine c1 ?_|refine c2 ?_|refine c5 ?_|refine c6 ?_)|refine n1 ?_)|(refine c9 (fun h=>?_) (fun h=>?_)<;>((try simp only [Bool.or_eq_true, Bool.and_eq_true, Bool.or_eq_false_iff, Bool.and_eq_false_iff, Bool.not_eq_true', Bool.not_eq_false', decide_eq_true_eq, decide_eq_false_iff_not, Bool.false_eq_true, Bool.true_eq_false, reduceCtorEq] at h) <;> (try simp (disch := omega) only [sb_bt, w64, Int.reduceAdd, Int.reduceToNat, Int.toNat_natCast, not_true_eq_false, false_or] at h) <;> (try (exfalso; omega)))))
        refine cj_for (fun i : Nat => i ≤ ca.length ∧ (ca.drop i).all ltAb = ca.all ltAb) (fun i => [(5, .v (.int .i64 i))]) (fun _ => _) (fun i => ca.length - i) 0 ⟨Nat.zero_le _, rfl⟩ ⟨⟨_, rfl, fun _ _ h => h⟩, trivial⟩ (St.le_refl _) (fun i1 hi => ?_)
        obtain ⟨hi1, hs1⟩ := hi
        rcases hd : ca.drop i1 with _ | ⟨x1, r1⟩
        · have z1 := dropn hd
          rw [hd] at hs1
          have q1 := all_end hs1
          repeat' (first|(first|(refine jl ?_;first|refine j1 ?_|refine j4 ?_|refine j6 ?_)|(refine jc ?_;first|refine c1 ?_|refine c2 ?_|refine c8 ?_)|refine n1 ?_|refine n3 ?_|refine n7 ?_|refine n8 ?_|refine n10 ?_)|(refine c9 (fun h=>?_) (fun h=>?_)<;>((try simp only [Bool.or_eq_true, Bool.and_eq_true, Bool.or_eq_false_iff, Bool.and_eq_false_iff, Bool.not_eq_true', Bool.not_eq_false', decide_eq_true_eq, decide_eq_false_iff_not, Bool.false_eq_true, Bool.true_eq_false, reduceCtorEq] at h) <;> (try simp (disch := omega) only [sb_bt, w64, Int.reduceAdd, Int.reduceToNat, Int.toNat_natCast, not_true_eq_false, false_or] at h) <;> (try (exfalso; omega)))))
          exact nx_forS (i0 + 1) ⟨by omega, by rw [v0]; exact all_yes hs0 (by simp [ltCb, hb1, hb2, q1])⟩ (by omega) ⟨⟨_, rfl, wk1 (by omega)⟩, trivial⟩ (by repeat' (first | exact St.le_refl _ | refine St.le_any ?_))
        · obtain ⟨u1, v1, w1⟩ := dropc hd
          have e1 := get_map ac w1
          rw [hd] at hs1
          have k1 := p_lightTests x1
          have hm3 : (x1.ones.map vc).length = x1.ones.length := List.length_map ..
          have hm4 : (x1.tests.map tc).length = x1.tests.length := List.length_map ..
          cases hb5 : ltsb x1
          · rw [hb5] at k1
            repeat' (first|(first|(refine jl ?_;first|refine j7 ?_|refine jbl ?_|refine j1 ?_|refine j4 ?_|refine j6 ?_|refine j9 ?_|refine ji1 ?_|refine ji3 ?_|refine jcq (hp:=fun hc=>k1) ?_)|(refine jc ?_;first|refine c1 ?_|refine c2 ?_|refine c5 ?_|refine c6 ?_|refine c7 ?_)|refine n1 ?_|refine n2 ?_|refine n5 ?_|refine n6 ?_|refine n10 ?_|refine n11 ?_)|(refine c9 (fun h=>?_) (fun h=>?_)<;>((try simp only [Bool.or_eq_true, Bool.and_eq_true, Bool.or_eq_false_iff, Bool.and_eq_false_iff, Bool.not_eq_true', Bool.not_eq_false', decide_eq_true_eq, decide_eq_false_iff_not, Bool.false_eq_true, Bool.true_eq_false, reduceCtorEq] at h) <;> (try simp (disch := omega) only [sb_bt, w64, Int.reduceAdd, Int.reduceToNat, Int.toNat_natCast, not_true_eq_false, false_or] at h) <;> (try (exfalso; omega)))))
            all_goals first
              | (exfalso; simp at h; done)
              | (exfalso; simp at h; omega)
              | (have q1 := all_no hs1 (by simp [ltAb, hb5])
                 have q0 := all_no hs0 (by simp [ltCb, q1])
                 refine gives (by repeat' (first | exact St.le_refl _ | refine St.le_any ?_)) (fin_one (.wk (Wk.of_eq ?_)))
                 simp [ltRb, ofLeaf, q0])
          · rw [hb5] at k1
            by_cases hz : 60 < x1.attr.size ∨ 12 < x1.ones.length ∨ 12 < x1.tests.length
            · repeat' (first|(first|(refine jl ?_;first|refine j7 ?_|refine jbl ?_|refine j1 ?_|refine j4 ?_|refine j9 ?_|refine ji1 ?_|refine ji3 ?_|refine jcq (hp:=fun hc=>k1) ?_)|(refine jc ?_;first|refine c1 ?_|refine c2 ?_|refine c5 ?_|refine c6 ?_|refine c7 ?_)|refine n1 ?_|refine n2 ?_|refine n5 ?_|refine n6 ?_|refine n11 ?_)|(refine c9 (fun h=>?_) (fun h=>?_)<;>((try simp only [Bool.or_eq_true, Bool.and_eq_true, Bool.or_eq_false_iff, Bool.and_eq_false_iff, Bool.not_eq_true', Bool.not_eq_false', decide_eq_true_eq, decide_eq_false_iff_not, Bool.false_eq_true, Bool.true_eq_false, reduceCtorEq] at h) <;> (try simp (disch := omega) only [sb_bt, w64, Int.reduceAdd, Int.reduceToNat, Int.toNat_natCast, not_true_eq_false, false_or] at h) <;> (try (exfalso; omega)))))
              all_goals first
                | (exfalso; simp at h; done)
                | (exfalso; simp at h; omega)
                | (have q1 := all_no hs1 (by simp [ltAb, hb5]; omega)
                   have q0 := all_no hs0 (by simp [ltCb, q1])
                   refine gives (by repeat' (first | exact St.le_refl _ | refine St.le_any ?_)) (fin_one (.wk (Wk.of_eq ?_)))
                   simp [ltRb, ofLeaf, q0])
            · repeat' (first|(first|(refine jl ?_;first|refine j7 ?_|refine jbl ?_|refine j1 ?_|refine j4 ?_|refine j6 ?_|refine j9 ?_|refine ji1 ?_|refine ji3 ?_|refine jcq (hp:=fun hc=>k1) ?_)|(refine jc ?_;first|refine c1 ?_|refine c2 ?_|refine c5 ?_|refine c6 ?_|refine c7 ?_)|refine n1 ?_|refine n2 ?_|refine n5 ?_|refine n6 ?_|refine n10 ?_|refine n11 ?_)|(refine c9 (fun h=>?_) (fun h=>?_)<;>((try simp only [Bool.or_eq_true, Bool.and_eq_true, Bool.or_eq_false_iff, Bool.and_eq_false_iff, Bool.not_eq_true', Bool.not_eq_false', decide_eq_true_eq, decide_eq_false_iff_not, Bool.false_eq_true, Bool.true_eq_false, reduceCtorEq] at h) <;> (try simp (disch := omega) only [sb_bt, w64, Int.reduceAdd, Int.reduceToNat, Int.toNat_natCast, not_true_eq_false, false_or] at h) <;> (try (exfalso; omega)))))
              all_goals first
                | (exfalso; simp at h; done)
                | (exfalso; simp at h; omega)
                | (exact nx_forS (i1 + 1) ⟨by omega, by rw [v1]; exact all_yes hs1 (by simp [ltAb, hb5]; omega)⟩ (by omega) ⟨⟨_, rfl, wk1 (by omega)⟩, trivial⟩ (by repeat' (first | exact St.le_refl _ | refine St.le_any ?_)))
set_option maxHeartbeats 2000000 in
theorem p_light (p : Prg) : Pure Tryd.prog 21 [.agg (pgc p)] (.v (.bool (ltPb p))) := by
  refine enterW Tryd.func21 rfl rfl rfl rfl (fun σ => ?_)
  obtain ⟨pc, pr⟩ := p
  have hl1 : (pc.map cc).length = pc.length := List.length_map ..
  have hl2 : (pr.map ruc).length = pr.length := List.length_map ..
  by_cases hl : 20 < pc.length ∨ 6 < pr.length
  · repeat' (first|(first|(refine jl ?_;first|refine j7 ?_|refine j1 ?_|refine j4 ?_|refine j9 ?_|refine j12 (fun id hid=>?_)|refine j14 ?_|refine j16 ?_)|(refine jc ?_;first|refine c1 ?_|refine c2 ?_|refine c7 ?_)|refine n2 ?_|refine n11 ?_)|(refine c9 (fun h=>?_) (fun h=>?_)<;>((try simp only [Bool.or_eq_true, Bool.and_eq_true, Bool.or_eq_false_iff, Bool.and_eq_false_iff, Bool.not_eq_true', Bool.not_eq_false', decide_eq_true_eq, decide_eq_false_iff_not, Bool.false_eq_true, Bool.true_eq_false, reduceCtorEq] at h) <;> (try simp (disch := omega) only [sb_bt, w64, Int.reduceAdd, Int.reduceToNat, Int.toNat_natCast, not_true_eq_false, false_or] at h) <;> (try (exfalso; omega)))))
    refine gives (by repeat' (first | exact St.le_refl _ | refine St.le_any ?_)) (fin_one (.wk (Wk.of_eq ?_)))
    simp [ltPb, ofLeaf]
    omega
  · have hn1 : pc.length ≤ 20 := by omega
    have hn2 : pr.length ≤ 6 := by omega
    repeat' (first|(first|(refine jl ?_;first|refine j7 ?_|refine j1 ?_|refine j4 ?_|refine j9 ?_|refine j12 (fun id hid=>?_)|refine j14 ?_|refine j16 ?_)|(refine jc ?_;first|refine c1 ?_|refine c2 ?_|refine c5 ?_|refine c6 ?_)|refine n1 ?_)|(refine c9 (fun h=>?_) (fun h=>?_)<;>((try simp only [Bool.or_eq_true, Bool.and_eq_true, Bool.or_eq_false_iff, Bool.and_eq_false_iff, Bool.not_eq_true', Bool.not_eq_false', decide_eq_true_eq, decide_eq_false_iff_not, Bool.false_eq_true, Bool.true_eq_false, reduceCtorEq] at h) <;> (try simp (disch := omega) only [sb_bt, w64, Int.reduceAdd, Int.reduceToNat, Int.toNat_natCast, not_true_eq_false, false_or] at h) <;> (try (exfalso; omega)))))
    refine cj_for (fun i : Nat => i ≤ pc.length ∧ (pc.drop i).all ltLb = pc.all ltLb) (fun i => [(3, .v (.int .i64 i))]) (fun _ => _) (fun i => pc.length - i) 0 ⟨Nat.zero_le _, rfl⟩ ⟨⟨_, rfl, fun _ _ h => h⟩, trivial⟩ (St.le_refl _) (fun i0 hi => ?_)
    obtain ⟨hi0, hs0⟩ := hi
    rcases hd : pc.drop i0 with _ | ⟨x0, r0⟩
    · have z0 := dropn hd
      rw [hd] at hs0
      have q0 := all_end hs0
      repeat' (first|(first|(refine jl ?_;first|refine j1 ?_|refine j4 ?_|refine j14 ?_)|(refine jc ?_;first|refine c1 ?_|refine c2 ?_|refine c5 ?_|refine c8 ?_)|refine n1 ?_|refine n3 ?_|refine n7 ?_|refine n8 ?_)|(refine c9 (fun h=>?_) (fun h=>?_)<;>((try simp only [Bool.or_eq_true, Bool.and_eq_true, Bool.or_eq_false_iff, Bool.and_eq_false_iff, Bool.not_eq_true', Bool.not_eq_false', decide_eq_true_eq, decide_eq_false_iff_not, Bool.false_eq_true, Bool.true_eq_false, reduceCtorEq] at h) <;> (try simp (disch := omega) only [sb_bt, w64, Int.reduceAdd, Int.reduceToNat, Int.toNat_natCast, not_true_eq_false, false_or] at h) <;> (try (exfalso; omega)))))
      refine cj_for (fun i : Nat => i ≤ pr.length ∧ (pr.drop i).all ltRb = pr.all ltRb) (fun i => [(6, .v (.int .i64 i))]) (fun _ => _) (fun i => pr.length - i) 0 ⟨Nat.zero_le _, rfl⟩ ⟨⟨_, rfl, fun _ _ h => h⟩, trivial⟩ (St.le_refl _) (fun i2 hi => ?_)
      obtain ⟨hi2, hs2⟩ := hi
      rcases hd : pr.drop i2 with _ | ⟨x2, r2⟩
      · have z2 := dropn hd
        rw [hd] at hs2
        repeat' (first|(first|(refine jl ?_;first|refine j1 ?_|refine j4 ?_|refine j14 ?_)|(refine jc ?_;first|refine c1 ?_|refine c2 ?_|refine c7 ?_|refine c8 ?_)|refine n1 ?_|refine n3 ?_|refine n7 ?_|refine n8 ?_|refine n11 ?_)|(refine c9 (fun h=>?_) (fun h=>?_)<;>((try simp only [Bool.or_eq_true, Bool.and_eq_true, Bool.or_eq_false_iff, Bool.and_eq_false_iff, Bool.not_eq_true', Bool.not_eq_false', decide_eq_true_eq, decide_eq_false_iff_not, Bool.false_eq_true, Bool.true_eq_false, reduceCtorEq] at h) <;> (try simp (disch := omega) only [sb_bt, w64, Int.reduceAdd, Int.reduceToNat, Int.toNat_natCast, not_true_eq_false, false_or] at h) <;> (try (exfalso; omega)))))
        have q2 := all_end hs2
        refine gives (by repeat' (first | exact St.le_refl _ | refine St.le_any ?_)) (fin_one (.wk (Wk.of_eq ?_)))
        simp [ltPb, ofLeaf, hn1, hn2, q0, q2]
      · obtain ⟨u2, v2, w2⟩ := dropc hd
        have e2 := get_map ruc w2
        rw [hd] at hs2
        have k1 := p_lightRule x2
        cases hb5 : ltRb x2
        · rw [hb5] at k1
          repeat' (first|(first|(refine jl ?_;first|refine jbl ?_|refine j1 ?_|refine j4 ?_|refine j14 ?_|refine ji1 ?_|refine jp (k1) ?_)|(refine jc ?_;first|refine c1 ?_|refine c2 ?_|refine c5 ?_|refine c6 ?_|refine c7 ?_)|refine n1 ?_|refine n2 ?_|refine n5 ?_|refine n6 ?_|refine n11 ?_)|(refine c9 (fun h=>?_) (fun h=>?_)<;>((try simp only [Bool.or_eq_true, Bool.and_eq_true, Bool.or_eq_false_iff, Bool.and_eq_false_iff, Bool.not_eq_true', Bool.not_eq_false', decide_eq_true_eq, decide_eq_false_iff_not, Bool.false_eq_true, Bool.true_eq_false, reduceCtorEq] at h) <;> (try simp (disch := omega) only [sb_bt, w64, Int.reduceAdd, Int.reduceToNat, Int.toNat_natCast, not_true_eq_false, false_or] at h) <;> (try (exfalso; omega)))))
          all_goals first
            | (exfalso; simp at h; done)
            | (exfalso; simp at h; omega)
            | (have q2 := all_no hs2 hb5
               refine gives (by repeat' (first | exact St.le_refl _ | refine St.le_any ?_)) (fin_one (.wk (Wk.of_eq ?_)))
               simp [ltPb, ofLeaf, q2])
        · rw [hb5] at k1
          repeat' (first|(first|(refine jl ?_;first|refine jbl ?_|refine j1 ?_|refine j4 ?_|refine j6 ?_|refine j14 ?_|refine ji1 ?_|refine jp (k1) ?_)|(refine jc ?_;first|refine c1 ?_|refine c2 ?_|refine c5 ?_|refine c6 ?_)|refine n1 ?_|refine n10 ?_)|(refine c9 (fun h=>?_) (fun h=>?_)<;>((try simp only [Bool.or_eq_true, Bool.and_eq_true, Bool.or_eq_false_iff, Bool.and_eq_false_iff, Bool.not_eq_true', Bool.not_eq_false', decide_eq_true_eq, decide_eq_false_iff_not, Bool.false_eq_true, Bool.true_eq_false, reduceCtorEq] at h) <;> (try simp (disch := omega) only [sb_bt, w64, Int.reduceAdd, Int.reduceToNat, Int.toNat_natCast, not_true_eq_false, false_or] at h) <;> (try (exfalso; omega)))))
          all_goals first
            | (exfalso; simp at h; done)
            | (exfalso; simp at h; omega)
            | (exact nx_forS (i2 + 1) ⟨by omega, by rw [v2]; exact all_yes hs2 hb5⟩ (by omega) ⟨⟨_, rfl, wk1 (by omega)⟩, trivial⟩ (by repeat' (first | exact St.le_refl _ | refine St.le_any ?_)))
    · obtain ⟨u0, v0, w0⟩ := dropc hd
      have e0 := get_map cc w0
      rw [hd] at hs0
      obtain ⟨cn, ca⟩ := x0
      have hm1 : (ca.map str1).length = ca.length := List.length_map ..
      by_cases hb : 60 < cn.size ∨ 10 < ca.length
      · repeat' (first|(first|(refine jl ?_;first|refine j7 ?_|refine jbl ?_|refine j1 ?_|refine j4 ?_|refine j9 ?_|refine j13 (fun id hid=>?_)|refine j14 ?_|refine j17t ?_|refine j16 ?_|refine ji1 ?_)|(refine jc ?_;first|refine c1 ?_|refine c2 ?_|refine c5 ?_|refine c6 ?_|refine c7 ?_)|refine n1 ?_|refine n2 ?_|refine n5 ?_|refine n6 ?_|refine n11 ?_)|(refine c9 (fun h=>?_) (fun h=>?_)<;>((try simp only [Bool.or_eq_true, Bool.and_eq_true, Bool.or_eq_false_iff, Bool.and_eq_false_iff, Bool.not_eq_true', Bool.not_eq_false', decide_eq_true_eq, decide_eq_false_iff_not, Bool.false_eq_true, Bool.true_eq_false, reduceCtorEq] at h) <;> (try simp (disch := omega) only [sb_bt, w64, Int.reduceAdd, Int.reduceToNat, Int.toNat_natCast, not_true_eq_false, false_or] at h) <;> (try (exfalso; omega)))))
        have q0 := all_no hs0 (by simp [ltLb]; omega)
        refine gives (by repeat' (first | exact St.le_refl _ | refine St.le_any ?_)) (fin_one (.wk (Wk.of_eq ?_)))
        simp [ltPb, ofLeaf, q0]
      · have hb1 : cn.size ≤ 60 := by omega
        have hb2 : ca.length ≤ 10 := by omega
        repeat' (first|(first|(refine jl ?_;first|refine j7 ?_|refine jbl ?_|refine j1 ?_|refine j4 ?_|refine j9 ?_|refine j13 (fun id hid=>?_)|refine j14 ?_|refine j17t ?_|refine j16 ?_|refine ji1 ?_)|(refine jc ?_;first|refine c1 ?_|refine c2 ?_|refine c5 ?_|refine c6 ?_)|refine n1 ?_)|(refine c9 (fun h=>?_) (fun h=>?_)<;>((try simp only [Bool.or_eq_true, Bool.and_eq_true, Bool.or_eq_false_iff, Bool.and_eq_false_iff, Bool.not_eq_true', Bool.not_eq_false', decide_eq_true_eq, decide_eq_false_iff_not, Bool.false_eq_true, Bool.true_eq_false, reduceCtorEq] at h) <;> (try simp (disch := omega) only [sb_bt, w64, Int.reduceAdd, Int.reduceToNat, Int.toNat_natCast, not_true_eq_false, false_or] at h) <;> (try (exfalso; omega)))))
        refine cj_for (fun i : Nat => i ≤ ca.length ∧ (ca.drop i).all ltWb = ca.all ltWb) (fun i => [(5, .v (.int .i64 i))]) (fun _ => _) (fun i => ca.length - i) 0 ⟨Nat.zero_le _, rfl⟩ ⟨⟨_, rfl, fun _ _ h => h⟩, trivial⟩ (St.le_refl _) (fun i1 hi => ?_)
        obtain ⟨hi1, hs1⟩ := hi
        rcases hd : ca.drop i1 with _ | ⟨x1, r1⟩
        · have z1 := dropn hd
          rw [hd] at hs1
          have q1 := all_end hs1
          repeat' (first|(first|(refine jl ?_;first|refine j1 ?_|refine j4 ?_|refine j6 ?_|refine j14 ?_)|(refine jc ?_;first|refine c1 ?_|refine c2 ?_|refine c8 ?_)|refine n1 ?_|refine n3 ?_|refine n7 ?_|refine n8 ?_|refine n10 ?_)|(refine c9 (fun h=>?_) (fun h=>?_)<;>((try simp only [Bool.or_eq_true, Bool.and_eq_true, Bool.or_eq_false_iff, Bool.and_eq_false_iff, Bool.not_eq_true', Bool.not_eq_false', decide_eq_true_eq, decide_eq_false_iff_not, Bool.false_eq_true, Bool.true_eq_false, reduceCtorEq] at h) <;> (try simp (disch := omega) only [sb_bt, w64, Int.reduceAdd, Int.reduceToNat, Int.toNat_natCast, not_true_eq_false, false_or] at h) <;> (try (exfalso; omega)))))
          exact nx_forS (i0 + 1) ⟨by omega, by rw [v0]; exact all_yes hs0 (by simp [ltLb, hb1, hb2, q1])⟩ (by omega) ⟨⟨_, rfl, wk1 (by omega)⟩, trivial⟩ (by repeat' (first | exact St.le_refl _ | refine St.le_any ?_))
        · obtain ⟨u1, v1, w1⟩ := dropc hd
          have e1 := get_map str1 w1
          rw [hd] at hs1
          repeat' (first|(first|(refine jl ?_;first|refine jbl ?_|refine j1 ?_|refine j4 ?_|refine j6 ?_|refine j14 ?_|refine ji1 ?_)|(refine jc ?_;first|refine c1 ?_|refine c2 ?_|refine c5 ?_|refine c6 ?_|refine c7 ?_)|refine n1 ?_|refine n2 ?_|refine n5 ?_|refine n6 ?_|refine n10 ?_|refine n11 ?_)|(refine c9 (fun h=>?_) (fun h=>?_)<;>((try simp only [Bool.or_eq_true, Bool.and_eq_true, Bool.or_eq_false_iff, Bool.and_eq_false_iff, Bool.not_eq_true', Bool.not_eq_false', decide_eq_true_eq, decide_eq_false_iff_not, Bool.false_eq_true, Bool.true_eq_false, reduceCtorEq] at h) <;> (try simp (disch := omega) only [sb_bt, w64, Int.reduceAdd, Int.reduceToNat, Int.toNat_natCast, not_true_eq_false, false_or] at h) <;> (try (exfalso; omega)))))
          · have q1 := all_no hs1 (by simp [ltWb]; omega)
            have q0 := all_no hs0 (by simp [ltLb, q1])
            refine gives (by repeat' (first | exact St.le_refl _ | refine St.le_any ?_)) (fin_one (.wk (Wk.of_eq ?_)))
            simp [ltPb, ofLeaf, q0]
          · exact nx_forS (i1 + 1) ⟨by omega, by rw [v1]; exact all_yes hs1 (by simp [ltWb]; omega)⟩ (by omega) ⟨⟨_, rfl, wk1 (by omega)⟩, trivial⟩ (by repeat' (first | exact St.le_refl _ | refine St.le_any ?_))
def plNb (a : Acn) : Bool := decide (-1099511627776 ≤ a.n) && decide (a.n ≤ 1099511627776)
def plRb (r : Rul) : Bool := r.acts.all plNb
def plPb (p : Prg) : Bool := p.rules.all plRb
theorem plP_of {p : Prg} (h : plPb p = true) : plP p := by
  simp only [plPb, plRb, plNb, Bool.and_eq_true, decide_eq_true_eq, List.all_eq_true] at h
  exact fun r hr a ha => h r hr a ha
set_option maxHeartbeats 1000000 in
theorem p_plain16 (p : Prg) (hP : ltP p) : Pure Tryd.prog 22 [.agg (pgc p)] (.v (.bool (plPb p))) := by
  refine enterW Tryd.func22 rfl rfl rfl rfl (fun σ => ?_)
  obtain ⟨pc, pr⟩ := p
  obtain ⟨_, hP1, _, hP2⟩ := hP
  dsimp only at hP1 hP2
  have hl2 : (pr.map ruc).length = pr.length := List.length_map ..
  repeat' (first|(first|(refine jl ?_;first|refine j1 ?_|refine j4 ?_|refine j12 (fun id hid=>?_))|(refine jc ?_;first|refine c1 ?_|refine c2 ?_|refine c5 ?_)))
  refine cj_for (fun i : Nat => i ≤ pr.length ∧ (pr.drop i).all plRb = pr.all plRb) (fun i => [(3, .v (.int .i64 i))]) (fun _ => _) (fun i => pr.length - i) 0 ⟨Nat.zero_le _, rfl⟩ ⟨⟨_, rfl, fun _ _ h => h⟩, trivial⟩ (St.le_refl _) (fun i0 hi => ?_)
  obtain ⟨hi0, hs0⟩ := hi
  rcases hd : pr.drop i0 with _ | ⟨x0, r0⟩
  · have z0 := dropn hd
    rw [hd] at hs0
    have q0 := all_end hs0
    repeat' (first|(first|(refine jl ?_;first|refine j1 ?_|refine j4 ?_|refine j14 ?_)|(refine jc ?_;first|refine c1 ?_|refine c2 ?_|refine c7 ?_|refine c8 ?_)|refine n1 ?_|refine n3 ?_|refine n7 ?_|refine n8 ?_|refine n11 ?_)|(refine c9 (fun h=>?_) (fun h=>?_)<;>((try simp only [Bool.or_eq_true, Bool.and_eq_true, Bool.or_eq_false_iff, Bool.and_eq_false_iff, Bool.not_eq_true', Bool.not_eq_false', decide_eq_true_eq, decide_eq_false_iff_not, Bool.false_eq_true, Bool.true_eq_false, reduceCtorEq] at h) <;> (try simp (disch := omega) only [sb_bt, w64, Int.reduceAdd, Int.reduceToNat, Int.toNat_natCast, not_true_eq_false, false_or] at h) <;> (try (exfalso; omega)))))
    refine gives (by repeat' (first | exact St.le_refl _ | refine St.le_any ?_)) (fin_one (.wk (Wk.of_eq ?_)))
    simp [plPb, ofLeaf, q0]
  · obtain ⟨u0, v0, w0⟩ := dropc hd
    have e0 := get_map ruc w0
    rw [hd] at hs0
    have hP3 := (hP2 x0 (List.mem_of_getElem? w0)).2.1
    obtain ⟨rn, rc, ra⟩ := x0
    dsimp only at hP3
    have hm1 : (ra.map anc).length = ra.length := List.length_map ..
    repeat' (first|(first|(refine jl ?_;first|refine j1 ?_|refine j4 ?_|refine j14 ?_)|(refine jc ?_;first|refine c1 ?_|refine c2 ?_|refine c5 ?_|refine c6 ?_)|refine n1 ?_)|(refine c9 (fun h=>?_) (fun h=>?_)<;>((try simp only [Bool.or_eq_true, Bool.and_eq_true, Bool.or_eq_false_iff, Bool.and_eq_false_iff, Bool.not_eq_true', Bool.not_eq_false', decide_eq_true_eq, decide_eq_false_iff_not, Bool.false_eq_true, Bool.true_eq_false, reduceCtorEq] at h) <;> (try simp (disch := omega) only [sb_bt, w64, Int.reduceAdd, Int.reduceToNat, Int.toNat_natCast, not_true_eq_false, false_or] at h) <;> (try (exfalso; omega)))))
    refine cj_for (fun i : Nat => i ≤ ra.length ∧ (ra.drop i).all plNb = ra.all plNb) (fun i => [(4, .v (.int .i64 i))]) (fun _ => _) (fun i => ra.length - i) 0 ⟨Nat.zero_le _, rfl⟩ ⟨⟨_, rfl, fun _ _ h => h⟩, trivial⟩ (St.le_refl _) (fun i1 hi => ?_)
    obtain ⟨hi1, hs1⟩ := hi
    rcases hd : ra.drop i1 with _ | ⟨x1, r1⟩
    · have z1 := dropn hd
      rw [hd] at hs1
      have q1 := all_end hs1
      repeat' (first|(first|(refine jl ?_;first|refine jbl ?_|refine j1 ?_|refine j4 ?_|refine j6 ?_|refine j14 ?_|refine ji1 ?_)|(refine jc ?_;first|refine c1 ?_|refine c2 ?_|refine c8 ?_)|refine n1 ?_|refine n3 ?_|refine n7 ?_|refine n8 ?_|refine n10 ?_)|(refine c9 (fun h=>?_) (fun h=>?_)<;>((try simp only [Bool.or_eq_true, Bool.and_eq_true, Bool.or_eq_false_iff, Bool.and_eq_false_iff, Bool.not_eq_true', Bool.not_eq_false', decide_eq_true_eq, decide_eq_false_iff_not, Bool.false_eq_true, Bool.true_eq_false, reduceCtorEq] at h) <;> (try simp (disch := omega) only [sb_bt, w64, Int.reduceAdd, Int.reduceToNat, Int.toNat_natCast, not_true_eq_false, false_or] at h) <;> (try (exfalso; omega)))))
      exact nx_forS (i0 + 1) ⟨by omega, by rw [v0]; exact all_yes hs0 (by simp [plRb, q1])⟩ (by omega) ⟨⟨_, rfl, wk1 (by omega)⟩, trivial⟩ (by repeat' (first | exact St.le_refl _ | refine St.le_any ?_))
    · obtain ⟨u1, v1, w1⟩ := dropc hd
      have e1 := get_map anc w1
      rw [hd] at hs1
      repeat' (first|(first|(refine jl ?_;first|refine j7 ?_|refine jbl ?_|refine j1 ?_|refine j4 ?_|refine j6 ?_|refine j9 ?_|refine j14 ?_|refine ji1 ?_)|(refine jc ?_;first|refine c1 ?_|refine c2 ?_|refine c5 ?_|refine c6 ?_|refine c7 ?_)|refine n1 ?_|refine n2 ?_|refine n5 ?_|refine n6 ?_|refine n10 ?_|refine n11 ?_)|(refine c9 (fun h=>?_) (fun h=>?_)<;>((try simp only [Bool.or_eq_true, Bool.and_eq_true, Bool.or_eq_false_iff, Bool.and_eq_false_iff, Bool.not_eq_true', Bool.not_eq_false', decide_eq_true_eq, decide_eq_false_iff_not, Bool.false_eq_true, Bool.true_eq_false, reduceCtorEq] at h) <;> (try simp (disch := omega) only [sb_bt, w64, Int.reduceAdd, Int.reduceToNat, Int.toNat_natCast, not_true_eq_false, false_or] at h) <;> (try (exfalso; omega)))))
      · have q1 := all_no hs1 (by simp [plNb]; omega)
        have q0 := all_no hs0 (by simp [plRb, q1])
        refine gives (by repeat' (first | exact St.le_refl _ | refine St.le_any ?_)) (fin_one (.wk (Wk.of_eq ?_)))
        simp [plPb, ofLeaf, q0]
      · exact nx_forS (i1 + 1) ⟨by omega, by rw [v1]; exact all_yes hs1 (by simp [plNb]; omega)⟩ (by omega) ⟨⟨_, rfl, wk1 (by omega)⟩, trivial⟩ (by repeat' (first | exact St.le_refl _ | refine St.le_any ?_))
end Go.Proofs.YtfaaokekgljnbaaDoor.Ab

/- Law 16: ShowTexts, ShowParts. -/
set_option linter.unusedVariables false
set_option linter.unusedSimpArgs false
set_option maxRecDepth 20000
namespace Go.Proofs.YtfaaokekgljnbaaDoor.Ab
open Go
attribute [local irreducible] thn inb endR CJ LJ OpJ DJ DA DB AllocK
set_option maxHeartbeats 4000000 in
theorem p_texts16 (p : Prg) (hw : ∀ r ∈ p.rules, wfR r) : Pure Tryd.prog 7 [.agg (pgc p)] (.v (.bool true)) := by
  refine enterW Tryd.func7 rfl rfl rfl rfl (fun σ => ?_)
  have k0 := p_awake16
  have k1 := p_light p
  cases hb : ltPb p
  · rw [hb] at k1
    obtain ⟨pc, pr⟩ := p
    repeat' (first|(first|(refine jl ?_;first|refine j7 ?_|refine j1 ?_|refine j4 ?_|refine j9 ?_|refine j12 (fun id hid=>?_)|refine j14 ?_|refine j16 ?_|refine jp (k0) ?_|refine jp (k1) ?_|refine jff ?_)|(refine jc ?_;first|refine c1 ?_|refine c2 ?_|refine c5 ?_|refine c6 ?_|refine c7 ?_)|refine n1 ?_|refine n2 ?_|refine n11 ?_)|(refine c9 (fun h=>?_) (fun h=>?_)<;>((try simp only [Bool.or_eq_true, Bool.and_eq_true, Bool.or_eq_false_iff, Bool.and_eq_false_iff, Bool.not_eq_true', Bool.not_eq_false', decide_eq_true_eq, decide_eq_false_iff_not, Bool.false_eq_true, Bool.true_eq_false, reduceCtorEq] at h) <;> (try simp (disch := omega) only [sb_bt, w64, Int.reduceAdd, Int.reduceToNat, Int.toNat_natCast, not_true_eq_false, false_or] at h) <;> (try (exfalso; omega)))))
    all_goals first
      | (exfalso; simp at h; done)
      | exact gives (by repeat' (first | exact St.le_refl _ | refine St.le_any ?_)) (Fin.refl _ _ _)
  · rw [hb] at k1
    have hP := ltP_of hb
    have k2 := p_plain16 p hP
    cases hc : plPb p
    · rw [hc] at k2
      obtain ⟨pc, pr⟩ := p
      repeat' (first|(first|(refine jl ?_;first|refine j7 ?_|refine j1 ?_|refine j4 ?_|refine j9 ?_|refine j12 (fun id hid=>?_)|refine j14 ?_|refine j16 ?_|refine jp (k0) ?_|refine jp (k1) ?_|refine jcq (hp:=fun hc=>k2) ?_)|(refine jc ?_;first|refine c1 ?_|refine c2 ?_|refine c5 ?_|refine c6 ?_|refine c7 ?_)|refine n1 ?_|refine n2 ?_|refine n11 ?_)|(refine c9 (fun h=>?_) (fun h=>?_)<;>((try simp only [Bool.or_eq_true, Bool.and_eq_true, Bool.or_eq_false_iff, Bool.and_eq_false_iff, Bool.not_eq_true', Bool.not_eq_false', decide_eq_true_eq, decide_eq_false_iff_not, Bool.false_eq_true, Bool.true_eq_false, reduceCtorEq] at h) <;> (try simp (disch := omega) only [sb_bt, w64, Int.reduceAdd, Int.reduceToNat, Int.toNat_natCast, not_true_eq_false, false_or] at h) <;> (try (exfalso; omega)))))
      all_goals first
        | (exfalso; simp at h; done)
        | exact gives (by repeat' (first | exact St.le_refl _ | refine St.le_any ?_)) (Fin.refl _ _ _)
    · rw [hc] at k2
      have hL := plP_of hc
      have kA := p_textP p hP hw hL
      have kB := p_rtextP p hP hL
      obtain ⟨pc, pr⟩ := p
      obtain ⟨hP1, hP2, hP3, hP4⟩ := hP
      dsimp only at hP1 hP2 hP3 hP4 hw
      have hl2 : (pr.map ruc).length = pr.length := List.length_map ..
      repeat' (first|(first|(refine jl ?_;first|refine j7 ?_|refine j1 ?_|refine j4 ?_|refine j9 ?_|refine j12 (fun id hid=>?_)|refine j14 ?_|refine j16 ?_|refine jp (k1) ?_|refine jcq (hp:=fun hc=>k2) ?_)|(refine jc ?_;first|refine c1 ?_|refine c2 ?_|refine c5 ?_|refine c6 ?_)|refine n1 ?_)|(refine c9 (fun h=>?_) (fun h=>?_)<;>((try simp only [Bool.or_eq_true, Bool.and_eq_true, Bool.or_eq_false_iff, Bool.and_eq_false_iff, Bool.not_eq_true', Bool.not_eq_false', decide_eq_true_eq, decide_eq_false_iff_not, Bool.false_eq_true, Bool.true_eq_false, reduceCtorEq] at h) <;> (try simp (disch := omega) only [sb_bt, w64, Int.reduceAdd, Int.reduceToNat, Int.toNat_natCast, not_true_eq_false, false_or] at h) <;> (try (exfalso; omega)))))
      refine cj_for (fun i : Nat => i ≤ pr.length) (fun i => [(3, .v (.int .i64 i))]) (fun _ => _) (fun i => pr.length - i) 0 (Nat.zero_le _) ⟨⟨_, rfl, fun _ _ h => h⟩, trivial⟩ (St.le_refl _) (fun i hi => ?_)
      rcases hd : pr.drop i with _ | ⟨x, r⟩
      · have h0 := dropn hd
        repeat' (first|(first|(refine jl ?_;first|refine j1 ?_|refine j4 ?_|refine j14 ?_)|(refine dl ?_;first|refine d8 ?_|refine d1 ?_|refine d4 ?_|refine d14 ?_|refine dpq (hp:=fun hc=>k0) ?_|refine dp (kA) ?_|refine dp (kB) ?_)|(refine jc ?_;first|refine c1 ?_|refine c2 ?_|refine c7 ?_|refine c8 ?_|refine cq ?_)|refine n1 ?_|refine n3 ?_|refine n7 ?_|refine n8 ?_|refine n11 ?_)|(refine c9 (fun h=>?_) (fun h=>?_)<;>((try simp only [Bool.or_eq_true, Bool.and_eq_true, Bool.or_eq_false_iff, Bool.and_eq_false_iff, Bool.not_eq_true', Bool.not_eq_false', decide_eq_true_eq, decide_eq_false_iff_not, Bool.false_eq_true, Bool.true_eq_false, reduceCtorEq] at h) <;> (try simp (disch := omega) only [sb_bt, w64, Int.reduceAdd, Int.reduceToNat, Int.toNat_natCast, not_true_eq_false, false_or] at h) <;> (try (exfalso; omega)))))
        refine gives (by repeat' (first | exact St.le_refl _ | refine St.le_any ?_)) (fin_one (.wk (Wk.of_eq ?_)))
        simp
      · obtain ⟨g1, g2, g3⟩ := dropc hd
        have g4 := get_map ruc g3
        have hm := List.mem_of_getElem? g3
        have hx := hP4 x hm
        have kC := p_rule x hx (hw x hm) (hL x hm)
        have kD := p_rrule x hx (hL x hm)
        have hwx := hw x hm
        have hlx := hL x hm
        obtain ⟨hx1, hx2, hx3, hx4, hx5⟩ := hx
        obtain ⟨rn, rc, ra⟩ := x
        dsimp only at hx1 hx2 hx3 hx4 hx5
        have hc1 : (rc.map dc).length = rc.length := List.length_map ..
        have hc2 : (ra.map anc).length = ra.length := List.length_map ..
        repeat' (first|(first|(refine jl ?_;first|refine jbl ?_|refine j1 ?_|refine j4 ?_|refine j13 (fun id hid=>?_)|refine j14 ?_|refine j17t ?_|refine ji1 ?_)|(refine dl ?_;first|refine d1 ?_|refine d4 ?_|refine d14 ?_|refine dp (kC) ?_|refine dp (kD) ?_)|(refine jc ?_;first|refine c1 ?_|refine c2 ?_|refine c5 ?_|refine c6 ?_|refine cq ?_)|refine n1 ?_)|(refine c9 (fun h=>?_) (fun h=>?_)<;>((try simp only [Bool.or_eq_true, Bool.and_eq_true, Bool.or_eq_false_iff, Bool.and_eq_false_iff, Bool.not_eq_true', Bool.not_eq_false', decide_eq_true_eq, decide_eq_false_iff_not, Bool.false_eq_true, Bool.true_eq_false, reduceCtorEq] at h) <;> (try simp (disch := omega) only [sb_bt, w64, Int.reduceAdd, Int.reduceToNat, Int.toNat_natCast, not_true_eq_false, false_or] at h) <;> (try (exfalso; omega)))))
        refine cj_for (fun j : Nat => j ≤ rc.length) (fun j => [(5, .v (.int .i64 j))]) (fun _ => _) (fun j => rc.length - j) 0 (Nat.zero_le _) ⟨⟨_, rfl, fun _ _ h => h⟩, trivial⟩ (St.le_refl _) (fun j hj => ?_)
        rcases hd2 : rc.drop j with _ | ⟨y, r2⟩
        · have h0 := dropn hd2
          repeat' (first|(first|(refine jl ?_;first|refine j1 ?_|refine j4 ?_|refine j14 ?_)|(refine jc ?_;first|refine c1 ?_|refine c2 ?_|refine c5 ?_|refine c8 ?_)|refine n1 ?_|refine n3 ?_|refine n7 ?_|refine n8 ?_)|(refine c9 (fun h=>?_) (fun h=>?_)<;>((try simp only [Bool.or_eq_true, Bool.and_eq_true, Bool.or_eq_false_iff, Bool.and_eq_false_iff, Bool.not_eq_true', Bool.not_eq_false', decide_eq_true_eq, decide_eq_false_iff_not, Bool.false_eq_true, Bool.true_eq_false, reduceCtorEq] at h) <;> (try simp (disch := omega) only [sb_bt, w64, Int.reduceAdd, Int.reduceToNat, Int.toNat_natCast, not_true_eq_false, false_or] at h) <;> (try (exfalso; omega)))))
          refine cj_for (fun j : Nat => j ≤ ra.length) (fun j => [(7, .v (.int .i64 j))]) (fun _ => _) (fun j => ra.length - j) 0 (Nat.zero_le _) ⟨⟨_, rfl, fun _ _ h => h⟩, trivial⟩ (St.le_refl _) (fun j hj => ?_)
          rcases hd3 : ra.drop j with _ | ⟨z, r3⟩
          · have h1 := dropn hd3
            repeat' (first|(first|(refine jl ?_;first|refine j1 ?_|refine j4 ?_|refine j6 ?_|refine j14 ?_)|(refine jc ?_;first|refine c1 ?_|refine c2 ?_|refine c8 ?_)|refine n1 ?_|refine n3 ?_|refine n7 ?_|refine n8 ?_|refine n10 ?_)|(refine c9 (fun h=>?_) (fun h=>?_)<;>((try simp only [Bool.or_eq_true, Bool.and_eq_true, Bool.or_eq_false_iff, Bool.and_eq_false_iff, Bool.not_eq_true', Bool.not_eq_false', decide_eq_true_eq, decide_eq_false_iff_not, Bool.false_eq_true, Bool.true_eq_false, reduceCtorEq] at h) <;> (try simp (disch := omega) only [sb_bt, w64, Int.reduceAdd, Int.reduceToNat, Int.toNat_natCast, not_true_eq_false, false_or] at h) <;> (try (exfalso; omega)))))
            exact nx_forS (i + 1) (by omega) (by omega) ⟨⟨_, rfl, wk1 (by omega)⟩, trivial⟩ (by repeat' (first | exact St.le_refl _ | refine St.le_any ?_))
          · obtain ⟨f1, f2, f3⟩ := dropc hd3
            have f4 := get_map anc f3
            have hmz := List.mem_of_getElem? f3
            have kE := p_act z (hx5 z hmz) (hlx z hmz)
            have kF := p_ract z (hx5 z hmz) (hlx z hmz)
            repeat' (first|(first|(refine jl ?_;first|refine j1 ?_|refine j4 ?_|refine j6 ?_|refine j14 ?_)|(refine dl ?_;first|refine dbl ?_|refine d1 ?_|refine d4 ?_|refine d14 ?_|refine di1 ?_|refine dp (kE) ?_|refine dp (kF) ?_)|(refine jc ?_;first|refine c1 ?_|refine c2 ?_|refine c5 ?_|refine c6 ?_|refine cq ?_)|refine n1 ?_|refine n10 ?_)|(refine c9 (fun h=>?_) (fun h=>?_)<;>((try simp only [Bool.or_eq_true, Bool.and_eq_true, Bool.or_eq_false_iff, Bool.and_eq_false_iff, Bool.not_eq_true', Bool.not_eq_false', decide_eq_true_eq, decide_eq_false_iff_not, Bool.false_eq_true, Bool.true_eq_false, reduceCtorEq] at h) <;> (try simp (disch := omega) only [sb_bt, w64, Int.reduceAdd, Int.reduceToNat, Int.toNat_natCast, not_true_eq_false, false_or] at h) <;> (try (exfalso; omega)))))
            exact nx_forS (j + 1) (by omega) (by omega) ⟨⟨_, rfl, wk1 (by omega)⟩, trivial⟩ (by repeat' (first | exact St.le_refl _ | refine St.le_any ?_))
        · obtain ⟨f1, f2, f3⟩ := dropc hd2
          have f4 := get_map dc f3
          have hmy := List.mem_of_getElem? f3
          have hy := hx4 y hmy
          have kE := p_cond y hy (hwx y hmy)
          have kF := p_rcond y hy
          have hwy := hwx y hmy
          obtain ⟨hy1, hy2, hy3⟩ := hy
          obtain ⟨cn, cl, ca⟩ := y
          dsimp only at hy1 hy2 hy3
          have hc3 : (ca.map ac).length = ca.length := List.length_map ..
          repeat' (first|(first|(refine jl ?_;first|refine j1 ?_|refine j4 ?_|refine j14 ?_)|(refine dl ?_;first|refine dbl ?_|refine d1 ?_|refine d4 ?_|refine d14 ?_|refine di1 ?_|refine dp (kE) ?_|refine dp (kF) ?_)|(refine jc ?_;first|refine c1 ?_|refine c2 ?_|refine c5 ?_|refine c6 ?_|refine cq ?_)|refine n1 ?_)|(refine c9 (fun h=>?_) (fun h=>?_)<;>((try simp only [Bool.or_eq_true, Bool.and_eq_true, Bool.or_eq_false_iff, Bool.and_eq_false_iff, Bool.not_eq_true', Bool.not_eq_false', decide_eq_true_eq, decide_eq_false_iff_not, Bool.false_eq_true, Bool.true_eq_false, reduceCtorEq] at h) <;> (try simp (disch := omega) only [sb_bt, w64, Int.reduceAdd, Int.reduceToNat, Int.toNat_natCast, not_true_eq_false, false_or] at h) <;> (try (exfalso; omega)))))
          refine cj_for (fun n : Nat => n ≤ ca.length) (fun n => [(6, .v (.int .i64 n))]) (fun _ => _) (fun n => ca.length - n) 0 (Nat.zero_le _) ⟨⟨_, rfl, fun _ _ h => h⟩, trivial⟩ (St.le_refl _) (fun n hn => ?_)
          rcases hd3 : ca.drop n with _ | ⟨z, r3⟩
          · have h1 := dropn hd3
            repeat' (first|(first|(refine jl ?_;first|refine jbl ?_|refine j1 ?_|refine j4 ?_|refine j6 ?_|refine j14 ?_|refine ji1 ?_)|(refine jc ?_;first|refine c1 ?_|refine c2 ?_|refine c8 ?_)|refine n1 ?_|refine n3 ?_|refine n7 ?_|refine n8 ?_|refine n10 ?_)|(refine c9 (fun h=>?_) (fun h=>?_)<;>((try simp only [Bool.or_eq_true, Bool.and_eq_true, Bool.or_eq_false_iff, Bool.and_eq_false_iff, Bool.not_eq_true', Bool.not_eq_false', decide_eq_true_eq, decide_eq_false_iff_not, Bool.false_eq_true, Bool.true_eq_false, reduceCtorEq] at h) <;> (try simp (disch := omega) only [sb_bt, w64, Int.reduceAdd, Int.reduceToNat, Int.toNat_natCast, not_true_eq_false, false_or] at h) <;> (try (exfalso; omega)))))
            exact nx_forS (j + 1) (by omega) (by omega) ⟨⟨_, rfl, wk1 (by omega)⟩, trivial⟩ (by repeat' (first | exact St.le_refl _ | refine St.le_any ?_))
          · obtain ⟨e1, e2, e3⟩ := dropc hd3
            have e4 := get_map ac e3
            have hmz := List.mem_of_getElem? e3
            have kG := p_test z (hy3 z hmz) (hwy z hmz)
            have kH := p_rtest z (hy3 z hmz)
            repeat' (first|(first|(refine jl ?_;first|refine jbl ?_|refine j1 ?_|refine j4 ?_|refine j6 ?_|refine j14 ?_|refine ji1 ?_)|(refine dl ?_;first|refine dbl ?_|refine d1 ?_|refine d4 ?_|refine d14 ?_|refine di1 ?_|refine dp (kG) ?_|refine dp (kH) ?_)|(refine jc ?_;first|refine c1 ?_|refine c2 ?_|refine c5 ?_|refine c6 ?_|refine cq ?_)|refine n1 ?_|refine n10 ?_)|(refine c9 (fun h=>?_) (fun h=>?_)<;>((try simp only [Bool.or_eq_true, Bool.and_eq_true, Bool.or_eq_false_iff, Bool.and_eq_false_iff, Bool.not_eq_true', Bool.not_eq_false', decide_eq_true_eq, decide_eq_false_iff_not, Bool.false_eq_true, Bool.true_eq_false, reduceCtorEq] at h) <;> (try simp (disch := omega) only [sb_bt, w64, Int.reduceAdd, Int.reduceToNat, Int.toNat_natCast, not_true_eq_false, false_or] at h) <;> (try (exfalso; omega)))))
            exact nx_forS (n + 1) (by omega) (by omega) ⟨⟨_, rfl, wk1 (by omega)⟩, trivial⟩ (by repeat' (first | exact St.le_refl _ | refine St.le_any ?_))
/-! ### ShowParts -/
theorem prog_class (x : Cls) : progT ⟨[x], []⟩ = classT x := by
  unfold progT
  rw [catB, catB, catB, app_nil, app_nil]
theorem prog_rule (x : Rul) : progT ⟨[], [x]⟩ = ruleN x := by
  unfold progT
  rw [catB, catB, catB, app_nil, nil_app]
theorem cut_one {α : Type} {g : α → List AV} {l : List α} {i : Nat} {x : α} (h : l[i]? = some x) (hw : IntKind.i64.wrap ((i : Int) + 1) = ((i + 1 : Nat) : Int)) : ((l.map g).take (IntKind.i64.wrap ((i : Int) + 1)).toNat).drop ((i : Nat) : Int).toNat = [g x] := by
  have hl := (List.getElem?_eq_some_iff.1 h).1
  rw [hw, Int.toNat_natCast, Int.toNat_natCast, ← List.map_take, ← List.map_drop, List.take_add_one, h, List.drop_append_of_le_length (by rw [List.length_take]; omega), List.drop_of_length_le (by rw [List.length_take]; omega)]
  rfl
theorem p_textC (x : Cls) (h : ltL x) (sz : Nat) : Pure Tryd.prog 31 [.agg [.sl none false 2 [cc x], .sl (some true) true sz []]] (.v (.string (classT x))) := by
  have hP : ltP ⟨[x], []⟩ := ⟨by simp, by simp, fun c hc => by obtain rfl := List.mem_singleton.1 hc; exact h, fun r hr => (by cases hr)⟩
  have k := p_textP ⟨[x], []⟩ hP (fun r hr => (by cases hr)) (fun r hr => (by cases hr))
  rw [prog_class] at k
  exact Pure.wka (bs := _) k (show WkL [.agg [.sl none false 2 [cc x], .sl (some true) true sz []]] _ from ⟨Wk.agg ⟨Wk.refl _, Wk.nil _ _ _ _, trivial⟩, trivial⟩)
theorem p_textR (x : Rul) (h : ltR x) (hw : wfR x) (hp : plR x) (sz : Nat) : Pure Tryd.prog 31 [.agg [.sl (some true) true sz [], .sl none false 3 [ruc x]]] (.v (.string (ruleN x))) := by
  have hP : ltP ⟨[], [x]⟩ := ⟨by simp, by simp, fun c hc => (by cases hc), fun r hr => by obtain rfl := List.mem_singleton.1 hr; exact h⟩
  have k := p_textP ⟨[], [x]⟩ hP (fun r hr => by obtain rfl := List.mem_singleton.1 hr; exact hw) (fun r hr => by obtain rfl := List.mem_singleton.1 hr; exact hp)
  rw [prog_rule] at k
  exact Pure.wka (bs := _) k (show WkL [.agg [.sl (some true) true sz [], .sl none false 3 [ruc x]]] _ from ⟨Wk.agg ⟨Wk.nil _ _ _ _, Wk.refl _, trivial⟩, trivial⟩)
set_option maxHeartbeats 2000000 in
theorem p_parts16 (p : Prg) (hw : ∀ r ∈ p.rules, wfR r) : Pure Tryd.prog 8 [.agg (pgc p)] (.v (.bool true)) := by
  refine enterW Tryd.func8 rfl rfl rfl rfl (fun σ => ?_)
  have k0 := p_awake16
  have k1 := p_light p
  cases hb : ltPb p
  · rw [hb] at k1
    obtain ⟨pc, pr⟩ := p
    repeat' (first|(first|(refine jl ?_;first|refine j7 ?_|refine j1 ?_|refine j4 ?_|refine j9 ?_|refine j12 (fun id hid=>?_)|refine j14 ?_|refine j16 ?_|refine jp (k0) ?_|refine jp (k1) ?_|refine jff ?_)|(refine jc ?_;first|refine c1 ?_|refine c2 ?_|refine c5 ?_|refine c6 ?_|refine c7 ?_)|refine n1 ?_|refine n2 ?_|refine n11 ?_)|(refine c9 (fun h=>?_) (fun h=>?_)<;>((try simp only [Bool.or_eq_true, Bool.and_eq_true, Bool.or_eq_false_iff, Bool.and_eq_false_iff, Bool.not_eq_true', Bool.not_eq_false', decide_eq_true_eq, decide_eq_false_iff_not, Bool.false_eq_true, Bool.true_eq_false, reduceCtorEq] at h) <;> (try simp (disch := omega) only [sb_bt, w64, Int.reduceAdd, Int.reduceToNat, Int.toNat_natCast, not_true_eq_false, false_or] at h) <;> (try (exfalso; omega)))))
    all_goals first
      | (exfalso; simp at h; done)
      | exact gives (by repeat' (first | exact St.le_refl _ | refine St.le_any ?_)) (Fin.refl _ _ _)
  · rw [hb] at k1
    have hP := ltP_of hb
    have k2 := p_plain16 p hP
    cases hc : plPb p
    · rw [hc] at k2
      obtain ⟨pc, pr⟩ := p
      repeat' (first|(first|(refine jl ?_;first|refine j7 ?_|refine j1 ?_|refine j4 ?_|refine j9 ?_|refine j12 (fun id hid=>?_)|refine j14 ?_|refine j16 ?_|refine jp (k0) ?_|refine jp (k1) ?_|refine jcq (hp:=fun hc=>k2) ?_)|(refine jc ?_;first|refine c1 ?_|refine c2 ?_|refine c5 ?_|refine c6 ?_|refine c7 ?_)|refine n1 ?_|refine n2 ?_|refine n11 ?_)|(refine c9 (fun h=>?_) (fun h=>?_)<;>((try simp only [Bool.or_eq_true, Bool.and_eq_true, Bool.or_eq_false_iff, Bool.and_eq_false_iff, Bool.not_eq_true', Bool.not_eq_false', decide_eq_true_eq, decide_eq_false_iff_not, Bool.false_eq_true, Bool.true_eq_false, reduceCtorEq] at h) <;> (try simp (disch := omega) only [sb_bt, w64, Int.reduceAdd, Int.reduceToNat, Int.toNat_natCast, not_true_eq_false, false_or] at h) <;> (try (exfalso; omega)))))
      all_goals first
        | (exfalso; simp at h; done)
        | exact gives (by repeat' (first | exact St.le_refl _ | refine St.le_any ?_)) (Fin.refl _ _ _)
    · rw [hc] at k2
      have hL := plP_of hc
      have kA := p_textP p hP hw hL
      obtain ⟨pc, pr⟩ := p
      obtain ⟨hP1, hP2, hP3, hP4⟩ := hP
      dsimp only at hP1 hP2 hP3 hP4 hw
      have hl1 : (pc.map cc).length = pc.length := List.length_map ..
      have hl2 : (pr.map ruc).length = pr.length := List.length_map ..
      have z1 := catB_size classT 1000 pc (fun x hx => (classT_sz (hP3 x hx)).1)
      have z2 := catB_size ruleN 1000001 pr (fun x hx => (ruleN_sz (hP4 x hx)).1)
      have hb0 : (⟨#[]⟩ : ByteArray).size = 0 := rfl
      repeat' (first|(first|(refine jl ?_;first|refine j7 ?_|refine j1 ?_|refine j4 ?_|refine j9 ?_|refine j12 (fun id hid=>?_)|refine j14 ?_|refine j16 ?_|refine jp (k1) ?_|refine jcq (hp:=fun hc=>k2) ?_)|(refine jc ?_;first|refine c1 ?_|refine c2 ?_|refine c5 ?_|refine c6 ?_)|refine n1 ?_)|(refine c9 (fun h=>?_) (fun h=>?_)<;>((try simp only [Bool.or_eq_true, Bool.and_eq_true, Bool.or_eq_false_iff, Bool.and_eq_false_iff, Bool.not_eq_true', Bool.not_eq_false', decide_eq_true_eq, decide_eq_false_iff_not, Bool.false_eq_true, Bool.true_eq_false, reduceCtorEq] at h) <;> (try simp (disch := omega) only [sb_bt, w64, Int.reduceAdd, Int.reduceToNat, Int.toNat_natCast, not_true_eq_false, false_or] at h) <;> (try (exfalso; omega)))))
      refine cj_for (fun s : Nat × ByteArray => s.1 ≤ pc.length ∧ s.2 ++ catB classT (pc.drop s.1) = (⟨#[]⟩ : ByteArray) ++ catB classT pc) (fun s => [(4, .v (.int .i64 s.1)), (3, .v (.string s.2))]) (fun _ => _) (fun s => pc.length - s.1) (0, ⟨#[]⟩) ⟨Nat.zero_le _, rfl⟩ ⟨⟨_, rfl, fun _ _ h => h⟩, ⟨_, rfl, fun _ _ h => h⟩, trivial⟩ (St.le_refl _) (fun s hs => ?_)
      obtain ⟨i, acc⟩ := s
      obtain ⟨hi, hs⟩ := hs
      dsimp only at hi hs ⊢
      rcases hd : pc.drop i with _ | ⟨x, r⟩
      · have h0 := dropn hd
        rw [hd, catB, app_nil, nil_app] at hs
        subst hs
        repeat' (first|(first|(refine jl ?_;first|refine j1 ?_|refine j4 ?_|refine j14 ?_)|(refine jc ?_;first|refine c1 ?_|refine c2 ?_|refine c5 ?_|refine c8 ?_)|refine n1 ?_|refine n3 ?_|refine n7 ?_|refine n8 ?_)|(refine c9 (fun h=>?_) (fun h=>?_)<;>((try simp only [Bool.or_eq_true, Bool.and_eq_true, Bool.or_eq_false_iff, Bool.and_eq_false_iff, Bool.not_eq_true', Bool.not_eq_false', decide_eq_true_eq, decide_eq_false_iff_not, Bool.false_eq_true, Bool.true_eq_false, reduceCtorEq] at h) <;> (try simp (disch := omega) only [sb_bt, w64, Int.reduceAdd, Int.reduceToNat, Int.toNat_natCast, not_true_eq_false, false_or] at h) <;> (try (exfalso; omega)))))
        refine cj_for (fun s : Nat × ByteArray => s.1 ≤ pr.length ∧ s.2 ++ catB ruleN (pr.drop s.1) = catB classT pc ++ catB ruleN pr) (fun s => [(5, .v (.int .i64 s.1)), (3, .v (.string s.2))]) (fun _ => _) (fun s => pr.length - s.1) (0, catB classT pc) ⟨Nat.zero_le _, rfl⟩ ⟨⟨_, rfl, fun _ _ h => h⟩, ⟨_, rfl, fun _ _ h => h⟩, trivial⟩ (St.le_refl _) (fun s hs => ?_)
        obtain ⟨i, acc⟩ := s
        obtain ⟨hi, hs⟩ := hs
        dsimp only at hi hs ⊢
        rcases hd : pr.drop i with _ | ⟨x, r⟩
        · have h0 := dropn hd
          rw [hd, catB, app_nil] at hs
          subst hs
          repeat' (first|(first|(refine jl ?_;first|refine j8 ?_|refine j1 ?_|refine j4 ?_|refine j14 ?_|refine jcq (hp:=fun hc=>k0) ?_|refine jp (kA) ?_)|(refine jc ?_;first|refine c1 ?_|refine c2 ?_|refine c7 ?_|refine c8 ?_)|refine n1 ?_|refine n3 ?_|refine n7 ?_|refine n8 ?_|refine n11 ?_)|(refine c9 (fun h=>?_) (fun h=>?_)<;>((try simp only [Bool.or_eq_true, Bool.and_eq_true, Bool.or_eq_false_iff, Bool.and_eq_false_iff, Bool.not_eq_true', Bool.not_eq_false', decide_eq_true_eq, decide_eq_false_iff_not, Bool.false_eq_true, Bool.true_eq_false, reduceCtorEq] at h) <;> (try simp (disch := omega) only [sb_bt, w64, Int.reduceAdd, Int.reduceToNat, Int.toNat_natCast, not_true_eq_false, false_or] at h) <;> (try (exfalso; omega)))))
          refine gives (by repeat' (first | exact St.le_refl _ | refine St.le_any ?_)) (fin_one (.wk (Wk.of_eq ?_)))
          simp [progT]
        · obtain ⟨g1, g2, g3⟩ := dropc hd
          rw [hd] at hs
          have hsz := cat_size hs
          have hm := List.mem_of_getElem? g3
          have hwr : IntKind.i64.wrap ((i : Int) + 1) = ((i + 1 : Nat) : Int) := by rw [w64 (by omega) (by omega)]; omega
          have hcut := cut_one (g := ruc) g3 hwr
          have k3 := p_textR x (hP4 x hm) (hw x hm) (hL x hm)
          repeat' (first|(first|(refine jl ?_;first|refine jb ?_|refine j1 ?_|refine j4 ?_|refine j6 ?_|refine j14 ?_|refine j25 ?_|refine jp (k3 _) ?_|refine jcf (all := [ruc x]) ?_ hcut)|(refine jc ?_;first|refine c1 ?_|refine c2 ?_|refine c5 ?_|refine c6 ?_)|refine n1 ?_|refine n10 ?_)|(refine c9 (fun h=>?_) (fun h=>?_)<;>((try simp only [Bool.or_eq_true, Bool.and_eq_true, Bool.or_eq_false_iff, Bool.and_eq_false_iff, Bool.not_eq_true', Bool.not_eq_false', decide_eq_true_eq, decide_eq_false_iff_not, Bool.false_eq_true, Bool.true_eq_false, reduceCtorEq] at h) <;> (try simp (disch := omega) only [sb_bt, w64, Int.reduceAdd, Int.reduceToNat, Int.toNat_natCast, not_true_eq_false, false_or] at h) <;> (try (exfalso; omega)))))
          exact nx_forS (i + 1, acc ++ ruleN x) ⟨by dsimp only; omega, by dsimp only; rw [g2]; exact cat_step hs⟩ (by dsimp only; omega) ⟨⟨_, rfl, wk1 (by omega)⟩, ⟨_, rfl, Wk.refl _⟩, trivial⟩ (by repeat' (first | exact St.le_refl _ | refine St.le_any ?_))
      · obtain ⟨g1, g2, g3⟩ := dropc hd
        rw [hd] at hs
        have hsz := cat_size hs
        have hm := List.mem_of_getElem? g3
        have hwr : IntKind.i64.wrap ((i : Int) + 1) = ((i + 1 : Nat) : Int) := by rw [w64 (by omega) (by omega)]; omega
        have hcut := cut_one (g := cc) g3 hwr
        have k3 := p_textC x (hP3 x hm)
        repeat' (first|(first|(refine jl ?_;first|refine jb ?_|refine j1 ?_|refine j4 ?_|refine j6 ?_|refine j14 ?_|refine j25 ?_|refine jp (k3 _) ?_|refine jcf (all := [cc x]) ?_ hcut)|(refine jc ?_;first|refine c1 ?_|refine c2 ?_|refine c5 ?_|refine c6 ?_)|refine n1 ?_|refine n10 ?_)|(refine c9 (fun h=>?_) (fun h=>?_)<;>((try simp only [Bool.or_eq_true, Bool.and_eq_true, Bool.or_eq_false_iff, Bool.and_eq_false_iff, Bool.not_eq_true', Bool.not_eq_false', decide_eq_true_eq, decide_eq_false_iff_not, Bool.false_eq_true, Bool.true_eq_false, reduceCtorEq] at h) <;> (try simp (disch := omega) only [sb_bt, w64, Int.reduceAdd, Int.reduceToNat, Int.toNat_natCast, not_true_eq_false, false_or] at h) <;> (try (exfalso; omega)))))
        exact nx_forS (i + 1, acc ++ classT x) ⟨by dsimp only; omega, by dsimp only; rw [g2]; exact cat_step hs⟩ (by dsimp only; omega) ⟨⟨_, rfl, wk1 (by omega)⟩, ⟨_, rfl, Wk.refl _⟩, trivial⟩ (by repeat' (first | exact St.le_refl _ | refine St.le_any ?_))
end Go.Proofs.YtfaaokekgljnbaaDoor.Ab
