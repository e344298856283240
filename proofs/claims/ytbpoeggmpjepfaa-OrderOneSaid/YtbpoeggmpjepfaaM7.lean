/- The texts AbSq, D7, Tz, KL, W8, W9, WA, WB, WC, WD, WE, WF, WG, WH, one behind the other. -/
import Derived.Test.YtbpoeggmpjepfaaM1
import Derived.Test.YtbpoeggmpjepfaaM2
import Derived.Test.YtbpoeggmpjepfaaM3
import Derived.Test.YtbpoeggmpjepfaaM4
import Derived.Test.YtbpoeggmpjepfaaM5
import Derived.Test.YtbpoeggmpjepfaaM6
import Derived.Test.YtbpoeggmpjepfaaProg
/- Abstract values over the model's memory: a part of a string, under a guard. -/
set_option linter.unusedVariables false
set_option linter.unusedSimpArgs false
set_option maxRecDepth 20000
namespace Go.Proofs.Ytbpoeggmpjepfaa.Ab
open Go
section
variable {P : Program} {nt : Nat} {ops : Array Oper} {Q : Post} {l : List Oper} {c : List (List Nat)} {m n0 : Nat} {kp : Bool} {bs : List Nat} {σ σ0 σ1 : St} {K : Fr → Prop} {K2 : Fr → St → Prop} {i : Nat} {fr : Fr} {rest : List Oper} {t : Tmp} {ty : TypeId} {pos : String} {aft : Array Edge}
theorem jsq {st : TypeId} {x : Operand} {lo hi : Option Operand} {s : ByteArray} {b k : Int} {j u : Nat} {w cc : Bool} {a : AV} (hb : cc = true → 0 ≤ b ∧ b ≤ k ∧ k ≤ s.size) (h : LJ P nt ops Q rest ((t, .mb cc (.v (.string (s.extract b.toNat k.toNat)))) :: fr) σ) (hj : (ops[j]?).bind (·.dst) = some u := by exact rfl) (hl : lk fr u = some a := by exact rfl) (hg : gc a w = some cc := by exact rfl) (ht : P.underlying st = some .string := by exact rfl) (hx : ev (strip fr) x = some (.v (.string s)) := by exact rfl) (hlo : bound (ev (strip fr)) 0 lo = some b := by exact rfl) (hhi : bound (ev (strip fr)) s.size hi = some k := by exact rfl) (hn : Needs cc fr (Op.slice st x lo hi none).operands.toList := by repeat' (first | exact True.intro | refine And.intro ?_ ?_ | exact nd0 rfl | exact nd1 rfl | exact nd2 rfl | exact nd3 rfl | exact nd4 rfl)) (hd : fits nt (some t) = true := by exact rfl) : LJ P nt ops Q (⟨some t, .slice st x lo hi none, ty, pos, aft, some (j, w)⟩ :: rest) fr σ :=
  lj_q hd hj hl hg hn (fun hc R hR => opj_slice_str rfl ht hx hlo hhi (hb hc).1 (hb hc).2.1 (hb hc).2.2 hR) h
theorem dsq {st : TypeId} {x : Operand} {lo hi : Option Operand} {s : ByteArray} {b k : Int} {j u : Nat} {w cc : Bool} {a : AV} (hb : cc = true → 0 ≤ b ∧ b ≤ k ∧ k ≤ s.size) (h : DJ P l c m σ0 σ1 K (i + 1) rest ((t, .mb cc (.v (.string (s.extract b.toNat k.toNat)))) :: fr)) (him : Nat.beq i m = false := by exact rfl) (hj : dstOf l j = some u := by exact rfl) (hl : lk fr u = some a := by exact rfl) (hg : gc a w = some cc := by exact rfl) (ht : P.underlying st = some .string := by exact rfl) (hx : ev (strip fr) x = some (.v (.string s)) := by exact rfl) (hlo : bound (ev (strip fr)) 0 lo = some b := by exact rfl) (hhi : bound (ev (strip fr)) s.size hi = some k := by exact rfl) (hn : Needs cc fr (Op.slice st x lo hi none).operands.toList := by repeat' (first | exact True.intro | refine And.intro ?_ ?_ | exact nd0 rfl | exact nd1 rfl | exact nd2 rfl | exact nd3 rfl | exact nd4 rfl)) : DJ P l c m σ0 σ1 K i (⟨some t, .slice st x lo hi none, ty, pos, aft, some (j, w)⟩ :: rest) fr :=
  dj_q him hj hl hg hn (fun hc R hR => opj_slice_str rfl ht hx hlo hhi (hb hc).1 (hb hc).2.1 (hb hc).2.2 hR) (fun hc R hR => opj_slice_str rfl ht hx hlo hhi (hb hc).1 (hb hc).2.1 (hb hc).2.2 hR) h
theorem jff {op : Op} {j u : Nat} {w cc : Bool} {a : AV} (h : LJ P nt ops Q rest ((t, .mb cc (.v (.bool false))) :: fr) σ) (hj : (ops[j]?).bind (·.dst) = some u := by exact rfl) (hl : lk fr u = some a := by exact rfl) (hg : gc a w = some cc := by exact rfl) (hf : cc = false := by exact rfl) (hd : fits nt (some t) = true := by exact rfl) : LJ P nt ops Q (⟨some t, op, ty, pos, aft, some (j, w)⟩ :: rest) fr σ :=
  lj_q0 hd hj hl hg (fun hc => by rw [hf] at hc; cases hc) h
theorem jtb {sb db et : TypeId} {ub : TypeDesc} {x : Operand} {b : ByteArray} {lb : List UInt8} (hm : b.size ≤ maxLen) (hb : b.data.toList = lb) (h : LJ P nt ops Q rest ((t, .sl none false 1 (bys lb)) :: fr) σ) (hs : P.underlying sb = some ub := by exact rfl) (hdd : P.underlying db = some (.slice et) := by exact rfl) (he : P.underlying et = some (.int .u8) := by exact rfl) (hx : ev fr x = some (.v (.string b)) := by exact rfl) (hd : fits nt (some t) = true := by exact rfl) : LJ P nt ops Q (⟨some t, .convert sb db x, ty, pos, aft, none⟩ :: rest) fr σ := by
  subst hb
  exact lj_v hd (fun R hR => OpJ.weak (opj_to_bytes rfl hs hdd he hx hm ⟨rfl, _, rfl, Wk.sl _ _ _ _⟩) hR) h
end
end Go.Proofs.Ytbpoeggmpjepfaa.Ab

/- How many tests a condition has. -/
set_option linter.unusedVariables false
set_option linter.unusedSimpArgs false
set_option maxRecDepth 20000
namespace Go.Proofs.Ytbpoeggmpjepfaa.Ab
open Go
attribute [local irreducible] thn inb endR CJ LJ OpJ DJ DA DB AllocK

def testsN : List Atr → Nat
  | [] => 0
  | a :: r => a.tests.length + (if 0 < a.ones.length then 1 else 0) + testsN r
theorem p_tests9 (c : Cnd) (h1 : c.attrs.length ≤ 12) (h2 : ∀ a ∈ c.attrs, a.tests.length ≤ 12) : Pure Try.prog 37 [.agg (dc c)] (.v (.int .i64 ((1 + testsN c.attrs : Nat) : Int))) := by
  refine enterW Try.func37 rfl rfl rfl rfl (fun σ => ?_)
  obtain ⟨cg, cn, ats⟩ := c
  dsimp only at h1 h2 ⊢
  have hla : (ats.map ac).length = ats.length := List.length_map ..
  repeat (first|(refine jl ?_;first|refine j1 ?_|refine j4 ?_|refine j12 (fun id hid=>?_)|refine j14 ?_)|(refine jc ?_;first|refine c1 ?_|refine c2 ?_|refine c5 ?_))
  refine cj_fors (fun s : Nat × Nat => s.1 ≤ ats.length ∧ s.2 + testsN (ats.drop s.1) = 1 + testsN ats ∧ s.2 ≤ 1 + 13 * s.1) (fun s => [(9, .v (.int .i64 s.1)), (3, .v (.int .i64 s.2))]) (fun s => ats.length - s.1) (0, 1) ⟨Nat.zero_le _, rfl, by omega⟩ ⟨⟨_, rfl, fun _ _ h => h⟩, ⟨_, rfl, fun _ _ h => h⟩, trivial⟩ (fun s hs => ?_)
  obtain ⟨i, n⟩ := s
  obtain ⟨hi, hs1, hs2⟩ := hs
  dsimp only at hi hs1 hs2 ⊢
  rcases hd : ats.drop i with _ | ⟨x, r⟩
  · have h0 := dropn hd
    rw [hd, testsN] at hs1
    repeat' (first|(first|(refine jl ?_;first|refine j1 ?_|refine j4 ?_)|(refine jc ?_;first|refine c1 ?_|refine c2 ?_|refine c7 ?_|refine c8 ?_)|refine n1 ?_|refine n3 ?_|refine n7 ?_|refine n8 ?_|refine n11 ?_)|(refine c9 (fun h=>?_) (fun h=>?_)<;>((try simp only [Bool.or_eq_true, Bool.and_eq_true, Bool.or_eq_false_iff, Bool.and_eq_false_iff, Bool.not_eq_true', Bool.not_eq_false', decide_eq_true_eq, decide_eq_false_iff_not, Bool.false_eq_true, Bool.true_eq_false, reduceCtorEq] at h) <;> (try simp (disch := omega) only [sb_bt, w64, Int.reduceAdd, Int.reduceToNat, Int.toNat_natCast, not_true_eq_false, false_or] at h) <;> (try (exfalso; omega)))))
    rw [← hs1]
    exact ge rfl
  · obtain ⟨g1, g2, g3⟩ := dropc hd
    have hx2 := h2 x (List.mem_of_getElem? g3)
    obtain ⟨xn, xo, xt⟩ := x
    have h4 := get_map ac g3
    have hlo : (xo.map vc).length = xo.length := List.length_map ..
    have hlt : (xt.map tc).length = xt.length := List.length_map ..
    rw [hd, testsN] at hs1
    dsimp only at hs1 hx2
    repeat' (first|(first|(refine jl ?_;first|refine jbl ?_|refine j1 ?_|refine j4 ?_|refine j6 ?_|refine j13 (fun id hid=>?_)|refine j14 ?_|refine j17t ?_|refine ji1 ?_)|(refine jc ?_;first|refine c1 ?_|refine c2 ?_|refine c5 ?_|refine c6 ?_)|refine n1 ?_|refine n10 ?_)|(refine c9 (fun h=>?_) (fun h=>?_)<;>((try simp only [Bool.or_eq_true, Bool.and_eq_true, Bool.or_eq_false_iff, Bool.and_eq_false_iff, Bool.not_eq_true', Bool.not_eq_false', decide_eq_true_eq, decide_eq_false_iff_not, Bool.false_eq_true, Bool.true_eq_false, reduceCtorEq] at h) <;> (try simp (disch := omega) only [sb_bt, w64, Int.reduceAdd, Int.reduceToNat, Int.toNat_natCast, not_true_eq_false, false_or] at h) <;> (try (exfalso; omega)))))
    · rw [if_pos (by omega)] at hs1
      exact nx_for (i + 1, n + xt.length + 1) ⟨by dsimp only; omega, by dsimp only; rw [g2]; omega, by dsimp only; omega⟩ (by dsimp only; omega) ⟨⟨_, rfl, wk1 (by omega)⟩, ⟨_, rfl, Wk.of_eq (by dsimp only; rw [w64 (n := (n : Int) + _) (by omega) (by omega), w64 (by omega) (by omega), hlt]; rfl)⟩, trivial⟩
    · rw [if_neg (by omega)] at hs1
      exact nx_for (i + 1, n + xt.length) ⟨by dsimp only; omega, by dsimp only; rw [g2]; omega, by dsimp only; omega⟩ (by dsimp only; omega) ⟨⟨_, rfl, wk1 (by omega)⟩, ⟨_, rfl, Wk.of_eq (by dsimp only; rw [w64 (by omega) (by omega), hlt]; rfl)⟩, trivial⟩
theorem p_tests4 (c : Cnd) (h1 : c.attrs.length ≤ 12) (h2 : ∀ a ∈ c.attrs, a.tests.length ≤ 12) : Pure Try.prog 38 [.agg (dc c)] (.v (.int .i64 ((1 + testsN c.attrs : Nat) : Int))) := by
  refine enterW Try.func38 rfl rfl rfl rfl (fun σ => ?_)
  obtain ⟨cg, cn, ats⟩ := c
  dsimp only at h1 h2 ⊢
  have hla : (ats.map ac).length = ats.length := List.length_map ..
  repeat (first|(refine jl ?_;first|refine j1 ?_|refine j4 ?_|refine j12 (fun id hid=>?_))|(refine jc ?_;first|refine c1 ?_|refine c2 ?_|refine c5 ?_))
  refine cj_fors (fun s : Nat × Nat => s.1 ≤ ats.length ∧ s.2 + testsN (ats.drop s.1) = 1 + testsN ats ∧ s.2 ≤ 1 + 13 * s.1) (fun s => [(4, .v (.int .i64 s.1)), (3, .v (.int .i64 s.2))]) (fun s => ats.length - s.1) (0, 1) ⟨Nat.zero_le _, rfl, by omega⟩ ⟨⟨_, rfl, fun _ _ h => h⟩, ⟨_, rfl, fun _ _ h => h⟩, trivial⟩ (fun s hs => ?_)
  obtain ⟨i, n⟩ := s
  obtain ⟨hi, hs1, hs2⟩ := hs
  dsimp only at hi hs1 hs2 ⊢
  rcases hd : ats.drop i with _ | ⟨x, r⟩
  · have h0 := dropn hd
    rw [hd, testsN] at hs1
    repeat' (first|(first|(refine jl ?_;first|refine j1 ?_|refine j4 ?_|refine j14 ?_)|(refine jc ?_;first|refine c1 ?_|refine c2 ?_|refine c7 ?_|refine c8 ?_)|refine n1 ?_|refine n3 ?_|refine n7 ?_|refine n8 ?_|refine n11 ?_)|(refine c9 (fun h=>?_) (fun h=>?_)<;>((try simp only [Bool.or_eq_true, Bool.and_eq_true, Bool.or_eq_false_iff, Bool.and_eq_false_iff, Bool.not_eq_true', Bool.not_eq_false', decide_eq_true_eq, decide_eq_false_iff_not, Bool.false_eq_true, Bool.true_eq_false, reduceCtorEq] at h) <;> (try simp (disch := omega) only [sb_bt, w64, Int.reduceAdd, Int.reduceToNat, Int.toNat_natCast, not_true_eq_false, false_or] at h) <;> (try (exfalso; omega)))))
    rw [← hs1]
    exact ge rfl
  · obtain ⟨g1, g2, g3⟩ := dropc hd
    have hx2 := h2 x (List.mem_of_getElem? g3)
    obtain ⟨xn, xo, xt⟩ := x
    have h4 := get_map ac g3
    have hlo : (xo.map vc).length = xo.length := List.length_map ..
    have hlt : (xt.map tc).length = xt.length := List.length_map ..
    rw [hd, testsN] at hs1
    dsimp only at hs1 hx2
    repeat' (first|(first|(refine jl ?_;first|refine jbl ?_|refine j1 ?_|refine j4 ?_|refine j6 ?_|refine j14 ?_|refine ji1 ?_)|(refine jc ?_;first|refine c1 ?_|refine c2 ?_|refine c5 ?_|refine c6 ?_)|refine n1 ?_|refine n10 ?_)|(refine c9 (fun h=>?_) (fun h=>?_)<;>((try simp only [Bool.or_eq_true, Bool.and_eq_true, Bool.or_eq_false_iff, Bool.and_eq_false_iff, Bool.not_eq_true', Bool.not_eq_false', decide_eq_true_eq, decide_eq_false_iff_not, Bool.false_eq_true, Bool.true_eq_false, reduceCtorEq] at h) <;> (try simp (disch := omega) only [sb_bt, w64, Int.reduceAdd, Int.reduceToNat, Int.toNat_natCast, not_true_eq_false, false_or] at h) <;> (try (exfalso; omega)))))
    · rw [if_pos (by omega)] at hs1
      exact nx_for (i + 1, n + xt.length + 1) ⟨by dsimp only; omega, by dsimp only; rw [g2]; omega, by dsimp only; omega⟩ (by dsimp only; omega) ⟨⟨_, rfl, wk1 (by omega)⟩, ⟨_, rfl, Wk.of_eq (by dsimp only; rw [w64 (n := (n : Int) + _) (by omega) (by omega), w64 (by omega) (by omega), hlt]; rfl)⟩, trivial⟩
    · rw [if_neg (by omega)] at hs1
      exact nx_for (i + 1, n + xt.length) ⟨by dsimp only; omega, by dsimp only; rw [g2]; omega, by dsimp only; omega⟩ (by dsimp only; omega) ⟨⟨_, rfl, wk1 (by omega)⟩, ⟨_, rfl, Wk.of_eq (by dsimp only; rw [w64 (by omega) (by omega), hlt]; rfl)⟩, trivial⟩
end Go.Proofs.Ytbpoeggmpjepfaa.Ab

/- The program's data: rules. -/
set_option linter.unusedVariables false
set_option linter.unusedSimpArgs false
set_option maxRecDepth 20000
namespace Go.Proofs.Ytbpoeggmpjepfaa.Ab
open Go
structure Itm where
  k : Int
  val : Vl
  var : ByteArray
structure Sgl where
  attr : ByteArray
  expr : List Itm
structure Acn where
  k : Int
  cls : ByteArray
  n : Int
  var : ByteArray
  sets : List Sgl
  exprs : List (List Itm)
structure Rul where
  name : ByteArray
  conds : List Cnd
  acts : List Acn
structure Prg where
  classes : List Cls
  rules : List Rul
abbrev itc (x : Itm) : List AV := [.v (.int .u8 x.k), .v (.int .u8 x.val.k), .v (.int .i64 x.val.n), .v (.string x.val.s), .v (.string x.var)]
abbrev itl (l : List Itm) : List AV := [.sl none false 5 (l.map itc)]
abbrev sgc (x : Sgl) : List AV := [.v (.string x.attr), .sl none false 5 (x.expr.map itc)]
abbrev anc (a : Acn) : List AV := [.v (.int .u8 a.k), .v (.string a.cls), .v (.int .i64 a.n), .v (.string a.var), .sl none false 2 (a.sets.map sgc), .sl none false 1 (a.exprs.map itl)]
abbrev ruc (r : Rul) : List AV := [.v (.string r.name), .sl none false 3 (r.conds.map dc), .sl none false 6 (r.acts.map anc)]
abbrev pgc (p : Prg) : List AV := [.sl none false 2 (p.classes.map cc), .sl none false 3 (p.rules.map ruc)]
end Go.Proofs.Ytbpoeggmpjepfaa.Ab

/- Programs that are small enough: the walk. -/
set_option linter.unusedVariables false
set_option linter.unusedSimpArgs false
set_option maxRecDepth 20000
namespace Go.Proofs.Ytbpoeggmpjepfaa.Ab
open Go
attribute [local irreducible] thn inb endR CJ LJ OpJ DJ DA DB AllocK
theorem all_no {α : Type} {f : α → Bool} {x : α} {r l : List α} (h : (x :: r).all f = l.all f) (hx : f x = false) : l.all f = false := by rw [← h, List.all_cons, hx]; rfl
theorem all_yes {α : Type} {f : α → Bool} {x : α} {r l : List α} (h : (x :: r).all f = l.all f) (hx : f x = true) : r.all f = l.all f := by rw [← h, List.all_cons, hx]; rfl
theorem all_end {α : Type} {f : α → Bool} {l : List α} (h : ([] : List α).all f = l.all f) : l.all f = true := h.symm
def ltIb (x : Itm) : Bool := decide (x.var.size ≤ 60) && decide (x.val.s.size ≤ 60)
def ltEb (l : List Itm) : Bool := decide (l.length ≤ 40) && l.all ltIb
def ltVb (v : Vl) : Bool := decide (v.s.size ≤ 60)
def ltTb (x : Tst) : Bool := decide (x.v.size ≤ 60) && decide (x.val.s.size ≤ 60)
def ltsb (a : Atr) : Bool := a.ones.all ltVb && a.tests.all ltTb
def ltAb (a : Atr) : Bool := decide (a.attr.size ≤ 60) && decide (a.ones.length ≤ 12) && decide (a.tests.length ≤ 12) && ltsb a
def ltCb (c : Cnd) : Bool := decide (c.attrs.length ≤ 10) && decide (c.cls.size ≤ 60) && c.attrs.all ltAb
def ltSb (s : Sgl) : Bool := decide (s.attr.size ≤ 60) && ltEb s.expr
def ltNb (a : Acn) : Bool := decide (a.sets.length ≤ 10) && decide (a.exprs.length ≤ 12) && decide (a.cls.size ≤ 60) && decide (a.var.size ≤ 60) && a.sets.all ltSb && a.exprs.all ltEb
def ltRb (r : Rul) : Bool := decide (r.conds.length ≤ 8) && decide (r.acts.length ≤ 12) && decide (r.name.size ≤ 60) && r.conds.all ltCb && r.acts.all ltNb
def ltWb (s : ByteArray) : Bool := decide (s.size ≤ 60)
def ltLb (c : Cls) : Bool := decide (c.name.size ≤ 60) && decide (c.attrs.length ≤ 10) && c.attrs.all ltWb
def ltPb (p : Prg) : Bool := decide (p.classes.length ≤ 20) && decide (p.rules.length ≤ 6) && p.classes.all ltLb && p.rules.all ltRb
set_option maxHeartbeats 1000000 in
theorem p_lightItems (l : List Itm) : Pure Try.prog 51 [.sl none false 5 (l.map itc)] (.v (.bool (ltEb l))) := by
  refine enterW Try.func51 rfl rfl rfl rfl (fun σ => ?_)
  have hl1 : (l.map itc).length = l.length := List.length_map ..
  by_cases hl : 40 < l.length
  · repeat' (first|(first|(refine jl ?_;first|refine j1 ?_|refine j4 ?_)|(refine jc ?_;first|refine c1 ?_|refine c2 ?_|refine c7 ?_)|refine n2 ?_|refine n11 ?_)|(refine c9 (fun h=>?_) (fun h=>?_)<;>((try simp only [Bool.or_eq_true, Bool.and_eq_true, Bool.or_eq_false_iff, Bool.and_eq_false_iff, Bool.not_eq_true', Bool.not_eq_false', decide_eq_true_eq, decide_eq_false_iff_not, Bool.false_eq_true, Bool.true_eq_false, reduceCtorEq] at h) <;> (try simp (disch := omega) only [sb_bt, w64, Int.reduceAdd, Int.reduceToNat, Int.toNat_natCast, not_true_eq_false, false_or] at h) <;> (try (exfalso; omega)))))
    refine gives (by repeat' (first | exact St.le_refl _ | refine St.le_any ?_)) (fin_one (.wk (Wk.of_eq ?_)))
    simp [ltEb, ofLeaf]
    omega
  · have hl2 : l.length ≤ 40 := by omega
    repeat' (first|(first|(refine jl ?_;first|refine j1 ?_|refine j4 ?_)|(refine jc ?_;first|refine c1 ?_|refine c2 ?_|refine c5 ?_|refine c6 ?_)|refine n1 ?_)|(refine c9 (fun h=>?_) (fun h=>?_)<;>((try simp only [Bool.or_eq_true, Bool.and_eq_true, Bool.or_eq_false_iff, Bool.and_eq_false_iff, Bool.not_eq_true', Bool.not_eq_false', decide_eq_true_eq, decide_eq_false_iff_not, Bool.false_eq_true, Bool.true_eq_false, reduceCtorEq] at h) <;> (try simp (disch := omega) only [sb_bt, w64, Int.reduceAdd, Int.reduceToNat, Int.toNat_natCast, not_true_eq_false, false_or] at h) <;> (try (exfalso; omega)))))
    refine cj_for (fun i : Nat => i ≤ l.length ∧ (l.drop i).all ltIb = l.all ltIb) (fun i => [(3, .v (.int .i64 i))]) (fun _ => _) (fun i => l.length - i) 0 ⟨Nat.zero_le _, rfl⟩ ⟨⟨_, rfl, fun _ _ h => h⟩, trivial⟩ (St.le_refl _) (fun i0 hi => ?_)
    obtain ⟨hi0, hs0⟩ := hi
    rcases hd : l.drop i0 with _ | ⟨x0, r0⟩
    · have z0 := dropn hd
      rw [hd] at hs0
      repeat' (first|(first|(refine jl ?_;first|refine j1 ?_|refine j4 ?_)|(refine jc ?_;first|refine c1 ?_|refine c2 ?_|refine c7 ?_|refine c8 ?_)|refine n1 ?_|refine n3 ?_|refine n7 ?_|refine n8 ?_|refine n11 ?_)|(refine c9 (fun h=>?_) (fun h=>?_)<;>((try simp only [Bool.or_eq_true, Bool.and_eq_true, Bool.or_eq_false_iff, Bool.and_eq_false_iff, Bool.not_eq_true', Bool.not_eq_false', decide_eq_true_eq, decide_eq_false_iff_not, Bool.false_eq_true, Bool.true_eq_false, reduceCtorEq] at h) <;> (try simp (disch := omega) only [sb_bt, w64, Int.reduceAdd, Int.reduceToNat, Int.toNat_natCast, not_true_eq_false, false_or] at h) <;> (try (exfalso; omega)))))
      have q := all_end hs0
      refine gives (by repeat' (first | exact St.le_refl _ | refine St.le_any ?_)) (fin_one (.wk (Wk.of_eq ?_)))
      simp [ltEb, ofLeaf, q, hl2]
    · obtain ⟨u0, v0, w0⟩ := dropc hd
      have e0 := get_map itc w0
      rw [hd] at hs0
      repeat' (first|(first|(refine jl ?_;first|refine j7 ?_|refine jbl ?_|refine j1 ?_|refine j4 ?_|refine j6 ?_|refine j9 ?_|refine ji1 ?_|refine ji3 ?_)|(refine jc ?_;first|refine c1 ?_|refine c2 ?_|refine c5 ?_|refine c6 ?_|refine c7 ?_)|refine n1 ?_|refine n2 ?_|refine n5 ?_|refine n6 ?_|refine n10 ?_|refine n11 ?_)|(refine c9 (fun h=>?_) (fun h=>?_)<;>((try simp only [Bool.or_eq_true, Bool.and_eq_true, Bool.or_eq_false_iff, Bool.and_eq_false_iff, Bool.not_eq_true', Bool.not_eq_false', decide_eq_true_eq, decide_eq_false_iff_not, Bool.false_eq_true, Bool.true_eq_false, reduceCtorEq] at h) <;> (try simp (disch := omega) only [sb_bt, w64, Int.reduceAdd, Int.reduceToNat, Int.toNat_natCast, not_true_eq_false, false_or] at h) <;> (try (exfalso; omega)))))
      · have q := all_no hs0 (by first | (simp [ltIb]; done) | (simp [ltIb]; omega))
        refine gives (by repeat' (first | exact St.le_refl _ | refine St.le_any ?_)) (fin_one (.wk (Wk.of_eq ?_)))
        simp [ltEb, ofLeaf, q]
      · exact nx_forS (i0 + 1) ⟨by omega, by rw [v0]; exact all_yes hs0 (by first | (simp [ltIb]; done) | (simp [ltIb]; omega))⟩ (by omega) ⟨⟨_, rfl, wk1 (by omega)⟩, trivial⟩ (by repeat' (first | exact St.le_refl _ | refine St.le_any ?_))
set_option maxHeartbeats 1000000 in
theorem p_lightTests (a : Atr) : Pure Try.prog 50 [.agg (ac a)] (.v (.bool (ltsb a))) := by
  refine enterW Try.func50 rfl rfl rfl rfl (fun σ => ?_)
  obtain ⟨an, ao, at_⟩ := a
  refine cj_lenA 0 1 (fun hm1 => ?_)
  refine cj_lenA 0 2 (fun hm2 => ?_)
  dsimp only at hm1 hm2
  have hl1 : (ao.map vc).length = ao.length := List.length_map ..
  have hl2 : (at_.map tc).length = at_.length := List.length_map ..
  repeat' (first|(first|(refine jl ?_;first|refine j1 ?_|refine j4 ?_|refine j12 (fun id hid=>?_))|(refine jc ?_;first|refine c1 ?_|refine c2 ?_|refine c5 ?_)))
  refine cj_for (fun i : Nat => i ≤ ao.length ∧ (ao.drop i).all ltVb = ao.all ltVb) (fun i => [(3, .v (.int .i64 i))]) (fun _ => _) (fun i => ao.length - i) 0 ⟨Nat.zero_le _, rfl⟩ ⟨⟨_, rfl, fun _ _ h => h⟩, trivial⟩ (St.le_refl _) (fun i0 hi => ?_)
  obtain ⟨hi0, hs0⟩ := hi
  rcases hd : ao.drop i0 with _ | ⟨x0, r0⟩
  · have z0 := dropn hd
    rw [hd] at hs0
    have q0 := all_end hs0
    repeat' (first|(first|(refine jl ?_;first|refine j1 ?_|refine j4 ?_|refine j14 ?_)|(refine jc ?_;first|refine c1 ?_|refine c2 ?_|refine c5 ?_|refine c8 ?_)|refine n1 ?_|refine n3 ?_|refine n7 ?_|refine n8 ?_)|(refine c9 (fun h=>?_) (fun h=>?_)<;>((try simp only [Bool.or_eq_true, Bool.and_eq_true, Bool.or_eq_false_iff, Bool.and_eq_false_iff, Bool.not_eq_true', Bool.not_eq_false', decide_eq_true_eq, decide_eq_false_iff_not, Bool.false_eq_true, Bool.true_eq_false, reduceCtorEq] at h) <;> (try simp (disch := omega) only [sb_bt, w64, Int.reduceAdd, Int.reduceToNat, Int.toNat_natCast, not_true_eq_false, false_or] at h) <;> (try (exfalso; omega)))))
    refine cj_for (fun i : Nat => i ≤ at_.length ∧ (at_.drop i).all ltTb = at_.all ltTb) (fun i => [(4, .v (.int .i64 i))]) (fun _ => _) (fun i => at_.length - i) 0 ⟨Nat.zero_le _, rfl⟩ ⟨⟨_, rfl, fun _ _ h => h⟩, trivial⟩ (St.le_refl _) (fun i1 hi => ?_)
    obtain ⟨hi1, hs1⟩ := hi
    rcases hd : at_.drop i1 with _ | ⟨x1, r1⟩
    · have z1 := dropn hd
      rw [hd] at hs1
      repeat' (first|(first|(refine jl ?_;first|refine j1 ?_|refine j4 ?_|refine j14 ?_)|(refine jc ?_;first|refine c1 ?_|refine c2 ?_|refine c7 ?_|refine c8 ?_)|refine n1 ?_|refine n3 ?_|refine n7 ?_|refine n8 ?_|refine n11 ?_)|(refine c9 (fun h=>?_) (fun h=>?_)<;>((try simp only [Bool.or_eq_true, Bool.and_eq_true, Bool.or_eq_false_iff, Bool.and_eq_false_iff, Bool.not_eq_true', Bool.not_eq_false', decide_eq_true_eq, decide_eq_false_iff_not, Bool.false_eq_true, Bool.true_eq_false, reduceCtorEq] at h) <;> (try simp (disch := omega) only [sb_bt, w64, Int.reduceAdd, Int.reduceToNat, Int.toNat_natCast, not_true_eq_false, false_or] at h) <;> (try (exfalso; omega)))))
      have q1 := all_end hs1
      refine gives (by repeat' (first | exact St.le_refl _ | refine St.le_any ?_)) (fin_one (.wk (Wk.of_eq ?_)))
      simp [ltsb, ofLeaf, q0, q1]
    · obtain ⟨u1, v1, w1⟩ := dropc hd
      have e1 := get_map tc w1
      rw [hd] at hs1
      repeat' (first|(first|(refine jl ?_;first|refine j7 ?_|refine jbl ?_|refine j1 ?_|refine j4 ?_|refine j6 ?_|refine j9 ?_|refine j14 ?_|refine j16 ?_|refine ji1 ?_|refine ji3 ?_)|(refine jc ?_;first|refine c1 ?_|refine c2 ?_|refine c5 ?_|refine c6 ?_|refine c7 ?_)|refine n1 ?_|refine n2 ?_|refine n5 ?_|refine n6 ?_|refine n10 ?_|refine n11 ?_)|(refine c9 (fun h=>?_) (fun h=>?_)<;>((try simp only [Bool.or_eq_true, Bool.and_eq_true, Bool.or_eq_false_iff, Bool.and_eq_false_iff, Bool.not_eq_true', Bool.not_eq_false', decide_eq_true_eq, decide_eq_false_iff_not, Bool.false_eq_true, Bool.true_eq_false, reduceCtorEq] at h) <;> (try simp (disch := omega) only [sb_bt, w64, Int.reduceAdd, Int.reduceToNat, Int.toNat_natCast, not_true_eq_false, false_or] at h) <;> (try (exfalso; omega)))))
      · have q1 := all_no hs1 (by first | (simp [ltTb]; done) | (simp [ltTb]; omega))
        refine gives (by repeat' (first | exact St.le_refl _ | refine St.le_any ?_)) (fin_one (.wk (Wk.of_eq ?_)))
        simp [ltsb, ofLeaf, q1]
      · exact nx_forS (i1 + 1) ⟨by omega, by rw [v1]; exact all_yes hs1 (by first | (simp [ltTb]; done) | (simp [ltTb]; omega))⟩ (by omega) ⟨⟨_, rfl, wk1 (by omega)⟩, trivial⟩ (by repeat' (first | exact St.le_refl _ | refine St.le_any ?_))
  · obtain ⟨u0, v0, w0⟩ := dropc hd
    have e0 := get_map vc w0
    rw [hd] at hs0
    repeat' (first|(first|(refine jl ?_;first|refine jbl ?_|refine j1 ?_|refine j4 ?_|refine j6 ?_|refine j14 ?_|refine ji1 ?_)|(refine jc ?_;first|refine c1 ?_|refine c2 ?_|refine c5 ?_|refine c6 ?_|refine c7 ?_)|refine n1 ?_|refine n2 ?_|refine n5 ?_|refine n6 ?_|refine n10 ?_|refine n11 ?_)|(refine c9 (fun h=>?_) (fun h=>?_)<;>((try simp only [Bool.or_eq_true, Bool.and_eq_true, Bool.or_eq_false_iff, Bool.and_eq_false_iff, Bool.not_eq_true', Bool.not_eq_false', decide_eq_true_eq, decide_eq_false_iff_not, Bool.false_eq_true, Bool.true_eq_false, reduceCtorEq] at h) <;> (try simp (disch := omega) only [sb_bt, w64, Int.reduceAdd, Int.reduceToNat, Int.toNat_natCast, not_true_eq_false, false_or] at h) <;> (try (exfalso; omega)))))
    · have q0 := all_no hs0 (by first | (simp [ltVb]; done) | (simp [ltVb]; omega))
      refine gives (by repeat' (first | exact St.le_refl _ | refine St.le_any ?_)) (fin_one (.wk (Wk.of_eq ?_)))
      simp [ltsb, ofLeaf, q0]
    · exact nx_forS (i0 + 1) ⟨by omega, by rw [v0]; exact all_yes hs0 (by first | (simp [ltVb]; done) | (simp [ltVb]; omega))⟩ (by omega) ⟨⟨_, rfl, wk1 (by omega)⟩, trivial⟩ (by repeat' (first | exact St.le_refl _ | refine St.le_any ?_))
set_option maxHeartbeats 4000000 in
theorem p_lightRule (r : Rul) : Pure Try.prog 40 [.agg (ruc r)] (.v (.bool (ltRb r))) := by
  refine enterW Try.func40 rfl rfl rfl rfl (fun σ => ?_)
  obtain ⟨rn, rc, ra⟩ := r
  have hl1 : (rc.map dc).length = rc.length := List.length_map ..
  have hl2 : (ra.map anc).length = ra.length := List.length_map ..
  by_cases hl : 8 < rc.length ∨ 12 < ra.length ∨ 60 < rn.size
  · repeat' (first|(first|(refine jl ?_;first|refine j7 ?_|refine j1 ?_|refine j4 ?_|refine j9 ?_|refine j12 (fun id hid=>?_)|refine j14 ?_|refine j16 ?_)|(refine jc ?_;first|refine c1 ?_|refine c2 ?_|refine c7 ?_)|refine n2 ?_|refine n11 ?_)|(refine c9 (fun h=>?_) (fun h=>?_)<;>((try simp only [Bool.or_eq_true, Bool.and_eq_true, Bool.or_eq_false_iff, Bool.and_eq_false_iff, Bool.not_eq_true', Bool.not_eq_false', decide_eq_true_eq, decide_eq_false_iff_not, Bool.false_eq_true, Bool.true_eq_false, reduceCtorEq] at h) <;> (try simp (disch := omega) only [sb_bt, w64, Int.reduceAdd, Int.reduceToNat, Int.toNat_natCast, not_true_eq_false, false_or] at h) <;> (try (exfalso; omega)))))
    refine gives (by repeat' (first | exact St.le_refl _ | refine St.le_any ?_)) (fin_one (.wk (Wk.of_eq ?_)))
    simp [ltRb, ofLeaf]
    omega
  · have hn1 : rc.length ≤ 8 := by omega
    have hn2 : ra.length ≤ 12 := by omega
    have hn3 : rn.size ≤ 60 := by omega
    repeat' (first|(first|(refine jl ?_;first|refine j7 ?_|refine j1 ?_|refine j4 ?_|refine j9 ?_|refine j12 (fun id hid=>?_)|refine j14 ?_|refine j16 ?_)|(refine jc ?_;first|refine c1 ?_|refine c2 ?_|refine c5 ?_|refine c6 ?_)|refine n1 ?_)|(refine c9 (fun h=>?_) (fun h=>?_)<;>((try simp only [Bool.or_eq_true, Bool.and_eq_true, Bool.or_eq_false_iff, Bool.and_eq_false_iff, Bool.not_eq_true', Bool.not_eq_false', decide_eq_true_eq, decide_eq_false_iff_not, Bool.false_eq_true, Bool.true_eq_false, reduceCtorEq] at h) <;> (try simp (disch := omega) only [sb_bt, w64, Int.reduceAdd, Int.reduceToNat, Int.toNat_natCast, not_true_eq_false, false_or] at h) <;> (try (exfalso; omega)))))
    refine cj_for (fun i : Nat => i ≤ rc.length ∧ (rc.drop i).all ltCb = rc.all ltCb) (fun i => [(3, .v (.int .i64 i))]) (fun _ => _) (fun i => rc.length - i) 0 ⟨Nat.zero_le _, rfl⟩ ⟨⟨_, rfl, fun _ _ h => h⟩, trivial⟩ (St.le_refl _) (fun i0 hi => ?_)
    obtain ⟨hi0, hs0⟩ := hi
    rcases hd : rc.drop i0 with _ | ⟨x0, r0⟩
    · have z0 := dropn hd
      rw [hd] at hs0
      have q0 := all_end hs0
      repeat' (first|(first|(refine jl ?_;first|refine j1 ?_|refine j4 ?_|refine j14 ?_)|(refine jc ?_;first|refine c1 ?_|refine c2 ?_|refine c5 ?_|refine c8 ?_)|refine n1 ?_|refine n3 ?_|refine n7 ?_|refine n8 ?_)|(refine c9 (fun h=>?_) (fun h=>?_)<;>((try simp only [Bool.or_eq_true, Bool.and_eq_true, Bool.or_eq_false_iff, Bool.and_eq_false_iff, Bool.not_eq_true', Bool.not_eq_false', decide_eq_true_eq, decide_eq_false_iff_not, Bool.false_eq_true, Bool.true_eq_false, reduceCtorEq] at h) <;> (try simp (disch := omega) only [sb_bt, w64, Int.reduceAdd, Int.reduceToNat, Int.toNat_natCast, not_true_eq_false, false_or] at h) <;> (try (exfalso; omega)))))
      refine cj_for (fun i : Nat => i ≤ ra.length ∧ (ra.drop i).all ltNb = ra.all ltNb) (fun i => [(6, .v (.int .i64 i))]) (fun _ => _) (fun i => ra.length - i) 0 ⟨Nat.zero_le _, rfl⟩ ⟨⟨_, rfl, fun _ _ h => h⟩, trivial⟩ (St.le_refl _) (fun i2 hi => ?_)
      obtain ⟨hi2, hs2⟩ := hi
      rcases hd : ra.drop i2 with _ | ⟨x2, r2⟩
      · have z2 := dropn hd
        rw [hd] at hs2
        repeat' (first|(first|(refine jl ?_;first|refine j1 ?_|refine j4 ?_|refine j14 ?_)|(refine jc ?_;first|refine c1 ?_|refine c2 ?_|refine c7 ?_|refine c8 ?_)|refine n1 ?_|refine n3 ?_|refine n7 ?_|refine n8 ?_|refine n11 ?_)|(refine c9 (fun h=>?_) (fun h=>?_)<;>((try simp only [Bool.or_eq_true, Bool.and_eq_true, Bool.or_eq_false_iff, Bool.and_eq_false_iff, Bool.not_eq_true', Bool.not_eq_false', decide_eq_true_eq, decide_eq_false_iff_not, Bool.false_eq_true, Bool.true_eq_false, reduceCtorEq] at h) <;> (try simp (disch := omega) only [sb_bt, w64, Int.reduceAdd, Int.reduceToNat, Int.toNat_natCast, not_true_eq_false, false_or] at h) <;> (try (exfalso; omega)))))
        have q2 := all_end hs2
        refine gives (by repeat' (first | exact St.le_refl _ | refine St.le_any ?_)) (fin_one (.wk (Wk.of_eq ?_)))
        simp [ltRb, ofLeaf, hn1, hn2, hn3, q0, q2]
      · obtain ⟨u2, v2, w2⟩ := dropc hd
        have e2 := get_map anc w2
        rw [hd] at hs2
        obtain ⟨ak, al, an, av, as_, ae⟩ := x2
        have hm1 : (as_.map sgc).length = as_.length := List.length_map ..
        have hm2 : (ae.map itl).length = ae.length := List.length_map ..
        by_cases hb : 10 < as_.length ∨ 12 < ae.length ∨ 60 < al.size ∨ 60 < av.size
        · repeat' (first|(first|(refine jl ?_;first|refine j7 ?_|refine jbl ?_|refine j1 ?_|refine j4 ?_|refine j9 ?_|refine j13 (fun id hid=>?_)|refine j14 ?_|refine j17t ?_|refine j16 ?_|refine ji1 ?_)|(refine jc ?_;first|refine c1 ?_|refine c2 ?_|refine c5 ?_|refine c6 ?_|refine c7 ?_)|refine n1 ?_|refine n2 ?_|refine n5 ?_|refine n6 ?_|refine n11 ?_)|(refine c9 (fun h=>?_) (fun h=>?_)<;>((try simp only [Bool.or_eq_true, Bool.and_eq_true, Bool.or_eq_false_iff, Bool.and_eq_false_iff, Bool.not_eq_true', Bool.not_eq_false', decide_eq_true_eq, decide_eq_false_iff_not, Bool.false_eq_true, Bool.true_eq_false, reduceCtorEq] at h) <;> (try simp (disch := omega) only [sb_bt, w64, Int.reduceAdd, Int.reduceToNat, Int.toNat_natCast, not_true_eq_false, false_or] at h) <;> (try (exfalso; omega)))))
          have q2 := all_no hs2 (by simp [ltNb]; omega)
          refine gives (by repeat' (first | exact St.le_refl _ | refine St.le_any ?_)) (fin_one (.wk (Wk.of_eq ?_)))
          simp [ltRb, ofLeaf, q2]
        · have hb1 : as_.length ≤ 10 := by omega
          have hb2 : ae.length ≤ 12 := by omega
          have hb3 : al.size ≤ 60 := by omega
          have hb4 : av.size ≤ 60 := by omega
          repeat' (first|(first|(refine jl ?_;first|refine j7 ?_|refine jbl ?_|refine j1 ?_|refine j4 ?_|refine j9 ?_|refine j13 (fun id hid=>?_)|refine j14 ?_|refine j17t ?_|refine j16 ?_|refine ji1 ?_)|(refine jc ?_;first|refine c1 ?_|refine c2 ?_|refine c5 ?_|refine c6 ?_)|refine n1 ?_)|(refine c9 (fun h=>?_) (fun h=>?_)<;>((try simp only [Bool.or_eq_true, Bool.and_eq_true, Bool.or_eq_false_iff, Bool.and_eq_false_iff, Bool.not_eq_true', Bool.not_eq_false', decide_eq_true_eq, decide_eq_false_iff_not, Bool.false_eq_true, Bool.true_eq_false, reduceCtorEq] at h) <;> (try simp (disch := omega) only [sb_bt, w64, Int.reduceAdd, Int.reduceToNat, Int.toNat_natCast, not_true_eq_false, false_or] at h) <;> (try (exfalso; omega)))))
          refine cj_for (fun i : Nat => i ≤ as_.length ∧ (as_.drop i).all ltSb = as_.all ltSb) (fun i => [(8, .v (.int .i64 i))]) (fun _ => _) (fun i => as_.length - i) 0 ⟨Nat.zero_le _, rfl⟩ ⟨⟨_, rfl, fun _ _ h => h⟩, trivial⟩ (St.le_refl _) (fun i3 hi => ?_)
          obtain ⟨hi3, hs3⟩ := hi
          rcases hd : as_.drop i3 with _ | ⟨x3, r3⟩
          · have z3 := dropn hd
            rw [hd] at hs3
            have q3 := all_end hs3
            repeat' (first|(first|(refine jl ?_;first|refine j1 ?_|refine j4 ?_|refine j14 ?_)|(refine jc ?_;first|refine c1 ?_|refine c2 ?_|refine c5 ?_|refine c8 ?_)|refine n1 ?_|refine n3 ?_|refine n7 ?_|refine n8 ?_)|(refine c9 (fun h=>?_) (fun h=>?_)<;>((try simp only [Bool.or_eq_true, Bool.and_eq_true, Bool.or_eq_false_iff, Bool.and_eq_false_iff, Bool.not_eq_true', Bool.not_eq_false', decide_eq_true_eq, decide_eq_false_iff_not, Bool.false_eq_true, Bool.true_eq_false, reduceCtorEq] at h) <;> (try simp (disch := omega) only [sb_bt, w64, Int.reduceAdd, Int.reduceToNat, Int.toNat_natCast, not_true_eq_false, false_or] at h) <;> (try (exfalso; omega)))))
            refine cj_for (fun i : Nat => i ≤ ae.length ∧ (ae.drop i).all ltEb = ae.all ltEb) (fun i => [(9, .v (.int .i64 i))]) (fun _ => _) (fun i => ae.length - i) 0 ⟨Nat.zero_le _, rfl⟩ ⟨⟨_, rfl, fun _ _ h => h⟩, trivial⟩ (St.le_refl _) (fun i4 hi => ?_)
            obtain ⟨hi4, hs4⟩ := hi
            rcases hd : ae.drop i4 with _ | ⟨x4, r4⟩
            · have z4 := dropn hd
              rw [hd] at hs4
              have q4 := all_end hs4
              repeat' (first|(first|(refine jl ?_;first|refine j1 ?_|refine j4 ?_|refine j6 ?_|refine j14 ?_)|(refine jc ?_;first|refine c1 ?_|refine c2 ?_|refine c8 ?_)|refine n1 ?_|refine n3 ?_|refine n7 ?_|refine n8 ?_|refine n10 ?_)|(refine c9 (fun h=>?_) (fun h=>?_)<;>((try simp only [Bool.or_eq_true, Bool.and_eq_true, Bool.or_eq_false_iff, Bool.and_eq_false_iff, Bool.not_eq_true', Bool.not_eq_false', decide_eq_true_eq, decide_eq_false_iff_not, Bool.false_eq_true, Bool.true_eq_false, reduceCtorEq] at h) <;> (try simp (disch := omega) only [sb_bt, w64, Int.reduceAdd, Int.reduceToNat, Int.toNat_natCast, not_true_eq_false, false_or] at h) <;> (try (exfalso; omega)))))
              exact nx_forS (i2 + 1) ⟨by omega, by rw [v2]; exact all_yes hs2 (by simp [ltNb, hb1, hb2, hb3, hb4, q3, q4])⟩ (by omega) ⟨⟨_, rfl, wk1 (by omega)⟩, trivial⟩ (by repeat' (first | exact St.le_refl _ | refine St.le_any ?_))
            · obtain ⟨u4, v4, w4⟩ := dropc hd
              have e4 := get_map itl w4
              rw [hd] at hs4
              have k1 := p_lightItems x4
              cases hb5 : ltEb x4
              · rw [hb5] at k1
                repeat' (first|(first|(refine jl ?_;first|refine jbl ?_|refine j1 ?_|refine j4 ?_|refine j14 ?_|refine ji1 ?_|refine jp (k1) ?_)|(refine jc ?_;first|refine c1 ?_|refine c2 ?_|refine c5 ?_|refine c6 ?_|refine c7 ?_)|refine n1 ?_|refine n2 ?_|refine n5 ?_|refine n6 ?_|refine n11 ?_)|(refine c9 (fun h=>?_) (fun h=>?_)<;>((try simp only [Bool.or_eq_true, Bool.and_eq_true, Bool.or_eq_false_iff, Bool.and_eq_false_iff, Bool.not_eq_true', Bool.not_eq_false', decide_eq_true_eq, decide_eq_false_iff_not, Bool.false_eq_true, Bool.true_eq_false, reduceCtorEq] at h) <;> (try simp (disch := omega) only [sb_bt, w64, Int.reduceAdd, Int.reduceToNat, Int.toNat_natCast, not_true_eq_false, false_or] at h) <;> (try (exfalso; omega)))))
                all_goals first
                  | (exfalso; simp at h; done)
                  | (exfalso; simp at h; omega)
                  | (have q4 := all_no hs4 hb5
                     have q2 := all_no hs2 (by simp [ltNb, q4])
                     refine gives (by repeat' (first | exact St.le_refl _ | refine St.le_any ?_)) (fin_one (.wk (Wk.of_eq ?_)))
                     simp [ltRb, ofLeaf, q2])
              · rw [hb5] at k1
                repeat' (first|(first|(refine jl ?_;first|refine jbl ?_|refine j1 ?_|refine j4 ?_|refine j6 ?_|refine j14 ?_|refine ji1 ?_|refine jp (k1) ?_)|(refine jc ?_;first|refine c1 ?_|refine c2 ?_|refine c5 ?_|refine c6 ?_)|refine n1 ?_|refine n10 ?_)|(refine c9 (fun h=>?_) (fun h=>?_)<;>((try simp only [Bool.or_eq_true, Bool.and_eq_true, Bool.or_eq_false_iff, Bool.and_eq_false_iff, Bool.not_eq_true', Bool.not_eq_false', decide_eq_true_eq, decide_eq_false_iff_not, Bool.false_eq_true, Bool.true_eq_false, reduceCtorEq] at h) <;> (try simp (disch := omega) only [sb_bt, w64, Int.reduceAdd, Int.reduceToNat, Int.toNat_natCast, not_true_eq_false, false_or] at h) <;> (try (exfalso; omega)))))
                all_goals first
                  | (exfalso; simp at h; done)
                  | (exfalso; simp at h; omega)
                  | (exact nx_forS (i4 + 1) ⟨by omega, by rw [v4]; exact all_yes hs4 hb5⟩ (by omega) ⟨⟨_, rfl, wk1 (by omega)⟩, trivial⟩ (by repeat' (first | exact St.le_refl _ | refine St.le_any ?_)))
          · obtain ⟨u3, v3, w3⟩ := dropc hd
            have e3 := get_map sgc w3
            rw [hd] at hs3
            have k1 := p_lightItems x3.expr
            cases hb5 : ltEb x3.expr
            · rw [hb5] at k1
              repeat' (first|(first|(refine jl ?_;first|refine j7 ?_|refine jbl ?_|refine j1 ?_|refine j4 ?_|refine j6 ?_|refine j9 ?_|refine j14 ?_|refine j16 ?_|refine ji1 ?_|refine ji3 ?_|refine jcq (hp:=fun hc=>k1) ?_)|(refine jc ?_;first|refine c1 ?_|refine c2 ?_|refine c5 ?_|refine c6 ?_|refine c7 ?_)|refine n1 ?_|refine n2 ?_|refine n5 ?_|refine n6 ?_|refine n10 ?_|refine n11 ?_)|(refine c9 (fun h=>?_) (fun h=>?_)<;>((try simp only [Bool.or_eq_true, Bool.and_eq_true, Bool.or_eq_false_iff, Bool.and_eq_false_iff, Bool.not_eq_true', Bool.not_eq_false', decide_eq_true_eq, decide_eq_false_iff_not, Bool.false_eq_true, Bool.true_eq_false, reduceCtorEq] at h) <;> (try simp (disch := omega) only [sb_bt, w64, Int.reduceAdd, Int.reduceToNat, Int.toNat_natCast, not_true_eq_false, false_or] at h) <;> (try (exfalso; omega)))))
              all_goals first
                | (exfalso; simp at h; done)
                | (exfalso; simp at h; omega)
                | (have q3 := all_no hs3 (by simp [ltSb, hb5])
                   have q2 := all_no hs2 (by simp [ltNb, q3])
                   refine gives (by repeat' (first | exact St.le_refl _ | refine St.le_any ?_)) (fin_one (.wk (Wk.of_eq ?_)))
                   simp [ltRb, ofLeaf, q2])
            · rw [hb5] at k1
              by_cases hz : 60 < x3.attr.size
              · repeat' (first|(first|(refine jl ?_;first|refine j7 ?_|refine jbl ?_|refine j1 ?_|refine j4 ?_|refine j9 ?_|refine j14 ?_|refine j16 ?_|refine ji1 ?_|refine ji3 ?_|refine jcq (hp:=fun hc=>k1) ?_)|(refine jc ?_;first|refine c1 ?_|refine c2 ?_|refine c5 ?_|refine c6 ?_|refine c7 ?_)|refine n1 ?_|refine n2 ?_|refine n5 ?_|refine n6 ?_|refine n11 ?_)|(refine c9 (fun h=>?_) (fun h=>?_)<;>((try simp only [Bool.or_eq_true, Bool.and_eq_true, Bool.or_eq_false_iff, Bool.and_eq_false_iff, Bool.not_eq_true', Bool.not_eq_false', decide_eq_true_eq, decide_eq_false_iff_not, Bool.false_eq_true, Bool.true_eq_false, reduceCtorEq] at h) <;> (try simp (disch := omega) only [sb_bt, w64, Int.reduceAdd, Int.reduceToNat, Int.toNat_natCast, not_true_eq_false, false_or] at h) <;> (try (exfalso; omega)))))
                all_goals first
                  | (exfalso; simp at h; done)
                  | (exfalso; simp at h; omega)
                  | (have q3 := all_no hs3 (by simp [ltSb, hb5]; omega)
                     have q2 := all_no hs2 (by simp [ltNb, q3])
                     refine gives (by repeat' (first | exact St.le_refl _ | refine St.le_any ?_)) (fin_one (.wk (Wk.of_eq ?_)))
                     simp [ltRb, ofLeaf, q2])
              · repeat' (first|(first|(refine jl ?_;first|refine j7 ?_|refine jbl ?_|refine j1 ?_|refine j4 ?_|refine j6 ?_|refine j9 ?_|refine j14 ?_|refine j16 ?_|refine ji1 ?_|refine ji3 ?_|refine jcq (hp:=fun hc=>k1) ?_)|(refine jc ?_;first|refine c1 ?_|refine c2 ?_|refine c5 ?_|refine c6 ?_|refine c7 ?_)|refine n1 ?_|refine n2 ?_|refine n5 ?_|refine n6 ?_|refine n10 ?_|refine n11 ?_)|(refine c9 (fun h=>?_) (fun h=>?_)<;>((try simp only [Bool.or_eq_true, Bool.and_eq_true, Bool.or_eq_false_iff, Bool.and_eq_false_iff, Bool.not_eq_true', Bool.not_eq_false', decide_eq_true_eq, decide_eq_false_iff_not, Bool.false_eq_true, Bool.true_eq_false, reduceCtorEq] at h) <;> (try simp (disch := omega) only [sb_bt, w64, Int.reduceAdd, Int.reduceToNat, Int.toNat_natCast, not_true_eq_false, false_or] at h) <;> (try (exfalso; omega)))))
                all_goals first
                  | (exfalso; simp at h; done)
                  | (exfalso; simp at h; omega)
                  | (exact nx_forS (i3 + 1) ⟨by omega, by rw [v3]; exact all_yes hs3 (by simp [ltSb, hb5]; omega)⟩ (by omega) ⟨⟨_, rfl, wk1 (by omega)⟩, trivial⟩ (by repeat' (first | exact St.le_refl _ | refine St.le_any ?_)))
    · obtain ⟨u0, v0, w0⟩ := dropc hd
      have e0 := get_map dc w0
      rw [hd] at hs0
      obtain ⟨cn, cl, ca⟩ := x0
      have hm1 : (ca.map ac).length = ca.length := List.length_map ..
      by_cases hb : 10 < ca.length ∨ 60 < cl.size
      · repeat' (first|(first|(refine jl ?_;first|refine j7 ?_|refine jbl ?_|refine j1 ?_|refine j4 ?_|refine j9 ?_|refine j14 ?_|refine j16 ?_|refine ji1 ?_|refine ji3 ?_)|(refine jc ?_;first|refine c1 ?_|refine c2 ?_|refine c5 ?_|refine c6 ?_|refine c7 ?_)|refine n1 ?_|refine n2 ?_|refine n5 ?_|refine n6 ?_|refine n11 ?_)|(refine c9 (fun h=>?_) (fun h=>?_)<;>((try simp only [Bool.or_eq_true, Bool.and_eq_true, Bool.or_eq_false_iff, Bool.and_eq_false_iff, Bool.not_eq_true', Bool.not_eq_false', decide_eq_true_eq, decide_eq_false_iff_not, Bool.false_eq_true, Bool.true_eq_false, reduceCtorEq] at h) <;> (try simp (disch := omega) only [sb_bt, w64, Int.reduceAdd, Int.reduceToNat, Int.toNat_natCast, not_true_eq_false, false_or] at h) <;> (try (exfalso; omega)))))
        have q0 := all_no hs0 (by simp [ltCb]; omega)
        refine gives (by repeat' (first | exact St.le_refl _ | refine St.le_any ?_)) (fin_one (.wk (Wk.of_eq ?_)))
        simp [ltRb, ofLeaf, q0]
      · have hb1 : ca.length ≤ 10 := by omega
        have hb2 : cl.size ≤ 60 := by omega
        repeat' (first|(first|(refine jl ?_;first|refine j7 ?_|refine jbl ?_|refine j1 ?_|refine j4 ?_|refine j9 ?_|refine j14 ?_|refine j16 ?_|refine ji1 ?_|refine ji3 ?_)|(refine jc ?_;first|refine c1 ?_|refine c2 ?_|refine c5 ?_|refine c6 ?_)|refine n1 ?_)|(refine c9 (fun h=>?_) (fun h=>?_)<;>((try simp only [Bool.or_eq_true, Bool.and_eq_true, Bool.or_eq_false_iff, Bool.and_eq_false_iff, Bool.not_eq_true', Bool.not_eq_false', decide_eq_true_eq, decide_eq_false_iff_not, Bool.false_eq_true, Bool.true_eq_false, reduceCtorEq] at h) <;> (try simp (disch := omega) only [sb_bt, w64, Int.reduceAdd, Int.reduceToNat, Int.toNat_natCast, not_true_eq_false, false_or] at h) <;> (try (exfalso; omega)))))
        refine cj_for (fun i : Nat => i ≤ ca.length ∧ (ca.drop i).all ltAb = ca.all ltAb) (fun i => [(5, .v (.int .i64 i))]) (fun _ => _) (fun i => ca.length - i) 0 ⟨Nat.zero_le _, rfl⟩ ⟨⟨_, rfl, fun _ _ h => h⟩, trivial⟩ (St.le_refl _) (fun i1 hi => ?_)
        obtain ⟨hi1, hs1⟩ := hi
        rcases hd : ca.drop i1 with _ | ⟨x1, r1⟩
        · have z1 := dropn hd
          rw [hd] at hs1
          have q1 := all_end hs1
          repeat' (first|(first|(refine jl ?_;first|refine j1 ?_|refine j4 ?_|refine j6 ?_)|(refine jc ?_;first|refine c1 ?_|refine c2 ?_|refine c8 ?_)|refine n1 ?_|refine n3 ?_|refine n7 ?_|refine n8 ?_|refine n10 ?_)|(refine c9 (fun h=>?_) (fun h=>?_)<;>((try simp only [Bool.or_eq_true, Bool.and_eq_true, Bool.or_eq_false_iff, Bool.and_eq_false_iff, Bool.not_eq_true', Bool.not_eq_false', decide_eq_true_eq, decide_eq_false_iff_not, Bool.false_eq_true, Bool.true_eq_false, reduceCtorEq] at h) <;> (try simp (disch := omega) only [sb_bt, w64, Int.reduceAdd, Int.reduceToNat, Int.toNat_natCast, not_true_eq_false, false_or] at h) <;> (try (exfalso; omega)))))
          exact nx_forS (i0 + 1) ⟨by omega, by rw [v0]; exact all_yes hs0 (by simp [ltCb, hb1, hb2, q1])⟩ (by omega) ⟨⟨_, rfl, wk1 (by omega)⟩, trivial⟩ (by repeat' (first | exact St.le_refl _ | refine St.le_any ?_))
        · obtain ⟨u1, v1, w1⟩ := dropc hd
          have e1 := get_map ac w1
          rw [hd] at hs1
          have k1 := p_lightTests x1
          have hm3 : (x1.ones.map vc).length = x1.ones.length := List.length_map ..
          have hm4 : (x1.tests.map tc).length = x1.tests.length := List.length_map ..
          cases hb5 : ltsb x1
          · rw [hb5] at k1
            repeat' (first|(first|(refine jl ?_;first|refine j7 ?_|refine jbl ?_|refine j1 ?_|refine j4 ?_|refine j6 ?_|refine j9 ?_|refine ji1 ?_|refine ji3 ?_|refine jcq (hp:=fun hc=>k1) ?_)|(refine jc ?_;first|refine c1 ?_|refine c2 ?_|refine c5 ?_|refine c6 ?_|refine c7 ?_)|refine n1 ?_|refine n2 ?_|refine n5 ?_|refine n6 ?_|refine n10 ?_|refine n11 ?_)|(refine c9 (fun h=>?_) (fun h=>?_)<;>((try simp only [Bool.or_eq_true, Bool.and_eq_true, Bool.or_eq_false_iff, Bool.and_eq_false_iff, Bool.not_eq_true', Bool.not_eq_false', decide_eq_true_eq, decide_eq_false_iff_not, Bool.false_eq_true, Bool.true_eq_false, reduceCtorEq] at h) <;> (try simp (disch := omega) only [sb_bt, w64, Int.reduceAdd, Int.reduceToNat, Int.toNat_natCast, not_true_eq_false, false_or] at h) <;> (try (exfalso; omega)))))
            all_goals first
              | (exfalso; simp at h; done)
              | (exfalso; simp at h; omega)
              | (have q1 := all_no hs1 (by simp [ltAb, hb5])
                 have q0 := all_no hs0 (by simp [ltCb, q1])
                 refine gives (by repeat' (first | exact St.le_refl _ | refine St.le_any ?_)) (fin_one (.wk (Wk.of_eq ?_)))
                 simp [ltRb, ofLeaf, q0])
          · rw [hb5] at k1
            by_cases hz : 60 < x1.attr.size ∨ 12 < x1.ones.length ∨ 12 < x1.tests.length
            · repeat' (first|(first|(refine jl ?_;first|refine j7 ?_|refine jbl ?_|refine j1 ?_|refine j4 ?_|refine j9 ?_|refine ji1 ?_|refine ji3 ?_|refine jcq (hp:=fun hc=>k1) ?_)|(refine jc ?_;first|refine c1 ?_|refine c2 ?_|refine c5 ?_|refine c6 ?_|refine c7 ?_)|refine n1 ?_|refine n2 ?_|refine n5 ?_|refine n6 ?_|refine n11 ?_)|(refine c9 (fun h=>?_) (fun h=>?_)<;>((try simp only [Bool.or_eq_true, Bool.and_eq_true, Bool.or_eq_false_iff, Bool.and_eq_false_iff, Bool.not_eq_true', Bool.not_eq_false', decide_eq_true_eq, decide_eq_false_iff_not, Bool.false_eq_true, Bool.true_eq_false, reduceCtorEq] at h) <;> (try simp (disch := omega) only [sb_bt, w64, Int.reduceAdd, Int.reduceToNat, Int.toNat_natCast, not_true_eq_false, false_or] at h) <;> (try (exfalso; omega)))))
              all_goals first
                | (exfalso; simp at h; done)
                | (exfalso; simp at h; omega)
                | (have q1 := all_no hs1 (by simp [ltAb, hb5]; omega)
                   have q0 := all_no hs0 (by simp [ltCb, q1])
                   refine gives (by repeat' (first | exact St.le_refl _ | refine St.le_any ?_)) (fin_one (.wk (Wk.of_eq ?_)))
                   simp [ltRb, ofLeaf, q0])
            · repeat' (first|(first|(refine jl ?_;first|refine j7 ?_|refine jbl ?_|refine j1 ?_|refine j4 ?_|refine j6 ?_|refine j9 ?_|refine ji1 ?_|refine ji3 ?_|refine jcq (hp:=fun hc=>k1) ?_)|(refine jc ?_;first|refine c1 ?_|refine c2 ?_|refine c5 ?_|refine c6 ?_|refine c7 ?_)|refine n1 ?_|refine n2 ?_|refine n5 ?_|refine n6 ?_|refine n10 ?_|refine n11 ?_)|(refine c9 (fun h=>?_) (fun h=>?_)<;>((try simp only [Bool.or_eq_true, Bool.and_eq_true, Bool.or_eq_false_iff, Bool.and_eq_false_iff, Bool.not_eq_true', Bool.not_eq_false', decide_eq_true_eq, decide_eq_false_iff_not, Bool.false_eq_true, Bool.true_eq_false, reduceCtorEq] at h) <;> (try simp (disch := omega) only [sb_bt, w64, Int.reduceAdd, Int.reduceToNat, Int.toNat_natCast, not_true_eq_false, false_or] at h) <;> (try (exfalso; omega)))))
              all_goals first
                | (exfalso; simp at h; done)
                | (exfalso; simp at h; omega)
                | (exact nx_forS (i1 + 1) ⟨by omega, by rw [v1]; exact all_yes hs1 (by simp [ltAb, hb5]; omega)⟩ (by omega) ⟨⟨_, rfl, wk1 (by omega)⟩, trivial⟩ (by repeat' (first | exact St.le_refl _ | refine St.le_any ?_)))
set_option maxHeartbeats 2000000 in
theorem p_light (p : Prg) : Pure Try.prog 22 [.agg (pgc p)] (.v (.bool (ltPb p))) := by
  refine enterW Try.func22 rfl rfl rfl rfl (fun σ => ?_)
  obtain ⟨pc, pr⟩ := p
  have hl1 : (pc.map cc).length = pc.length := List.length_map ..
  have hl2 : (pr.map ruc).length = pr.length := List.length_map ..
  by_cases hl : 20 < pc.length ∨ 6 < pr.length
  · repeat' (first|(first|(refine jl ?_;first|refine j7 ?_|refine j1 ?_|refine j4 ?_|refine j9 ?_|refine j12 (fun id hid=>?_)|refine j14 ?_|refine j16 ?_)|(refine jc ?_;first|refine c1 ?_|refine c2 ?_|refine c7 ?_)|refine n2 ?_|refine n11 ?_)|(refine c9 (fun h=>?_) (fun h=>?_)<;>((try simp only [Bool.or_eq_true, Bool.and_eq_true, Bool.or_eq_false_iff, Bool.and_eq_false_iff, Bool.not_eq_true', Bool.not_eq_false', decide_eq_true_eq, decide_eq_false_iff_not, Bool.false_eq_true, Bool.true_eq_false, reduceCtorEq] at h) <;> (try simp (disch := omega) only [sb_bt, w64, Int.reduceAdd, Int.reduceToNat, Int.toNat_natCast, not_true_eq_false, false_or] at h) <;> (try (exfalso; omega)))))
    refine gives (by repeat' (first | exact St.le_refl _ | refine St.le_any ?_)) (fin_one (.wk (Wk.of_eq ?_)))
    simp [ltPb, ofLeaf]
    omega
  · have hn1 : pc.length ≤ 20 := by omega
    have hn2 : pr.length ≤ 6 := by omega
    repeat' (first|(first|(refine jl ?_;first|refine j7 ?_|refine j1 ?_|refine j4 ?_|refine j9 ?_|refine j12 (fun id hid=>?_)|refine j14 ?_|refine j16 ?_)|(refine jc ?_;first|refine c1 ?_|refine c2 ?_|refine c5 ?_|refine c6 ?_)|refine n1 ?_)|(refine c9 (fun h=>?_) (fun h=>?_)<;>((try simp only [Bool.or_eq_true, Bool.and_eq_true, Bool.or_eq_false_iff, Bool.and_eq_false_iff, Bool.not_eq_true', Bool.not_eq_false', decide_eq_true_eq, decide_eq_false_iff_not, Bool.false_eq_true, Bool.true_eq_false, reduceCtorEq] at h) <;> (try simp (disch := omega) only [sb_bt, w64, Int.reduceAdd, Int.reduceToNat, Int.toNat_natCast, not_true_eq_false, false_or] at h) <;> (try (exfalso; omega)))))
    refine cj_for (fun i : Nat => i ≤ pc.length ∧ (pc.drop i).all ltLb = pc.all ltLb) (fun i => [(3, .v (.int .i64 i))]) (fun _ => _) (fun i => pc.length - i) 0 ⟨Nat.zero_le _, rfl⟩ ⟨⟨_, rfl, fun _ _ h => h⟩, trivial⟩ (St.le_refl _) (fun i0 hi => ?_)
    obtain ⟨hi0, hs0⟩ := hi
    rcases hd : pc.drop i0 with _ | ⟨x0, r0⟩
    · have z0 := dropn hd
      rw [hd] at hs0
      have q0 := all_end hs0
      repeat' (first|(first|(refine jl ?_;first|refine j1 ?_|refine j4 ?_|refine j14 ?_)|(refine jc ?_;first|refine c1 ?_|refine c2 ?_|refine c5 ?_|refine c8 ?_)|refine n1 ?_|refine n3 ?_|refine n7 ?_|refine n8 ?_)|(refine c9 (fun h=>?_) (fun h=>?_)<;>((try simp only [Bool.or_eq_true, Bool.and_eq_true, Bool.or_eq_false_iff, Bool.and_eq_false_iff, Bool.not_eq_true', Bool.not_eq_false', decide_eq_true_eq, decide_eq_false_iff_not, Bool.false_eq_true, Bool.true_eq_false, reduceCtorEq] at h) <;> (try simp (disch := omega) only [sb_bt, w64, Int.reduceAdd, Int.reduceToNat, Int.toNat_natCast, not_true_eq_false, false_or] at h) <;> (try (exfalso; omega)))))
      refine cj_for (fun i : Nat => i ≤ pr.length ∧ (pr.drop i).all ltRb = pr.all ltRb) (fun i => [(6, .v (.int .i64 i))]) (fun _ => _) (fun i => pr.length - i) 0 ⟨Nat.zero_le _, rfl⟩ ⟨⟨_, rfl, fun _ _ h => h⟩, trivial⟩ (St.le_refl _) (fun i2 hi => ?_)
      obtain ⟨hi2, hs2⟩ := hi
      rcases hd : pr.drop i2 with _ | ⟨x2, r2⟩
      · have z2 := dropn hd
        rw [hd] at hs2
        repeat' (first|(first|(refine jl ?_;first|refine j1 ?_|refine j4 ?_|refine j14 ?_)|(refine jc ?_;first|refine c1 ?_|refine c2 ?_|refine c7 ?_|refine c8 ?_)|refine n1 ?_|refine n3 ?_|refine n7 ?_|refine n8 ?_|refine n11 ?_)|(refine c9 (fun h=>?_) (fun h=>?_)<;>((try simp only [Bool.or_eq_true, Bool.and_eq_true, Bool.or_eq_false_iff, Bool.and_eq_false_iff, Bool.not_eq_true', Bool.not_eq_false', decide_eq_true_eq, decide_eq_false_iff_not, Bool.false_eq_true, Bool.true_eq_false, reduceCtorEq] at h) <;> (try simp (disch := omega) only [sb_bt, w64, Int.reduceAdd, Int.reduceToNat, Int.toNat_natCast, not_true_eq_false, false_or] at h) <;> (try (exfalso; omega)))))
        have q2 := all_end hs2
        refine gives (by repeat' (first | exact St.le_refl _ | refine St.le_any ?_)) (fin_one (.wk (Wk.of_eq ?_)))
        simp [ltPb, ofLeaf, hn1, hn2, q0, q2]
      · obtain ⟨u2, v2, w2⟩ := dropc hd
        have e2 := get_map ruc w2
        rw [hd] at hs2
        have k1 := p_lightRule x2
        cases hb5 : ltRb x2
        · rw [hb5] at k1
          repeat' (first|(first|(refine jl ?_;first|refine jbl ?_|refine j1 ?_|refine j4 ?_|refine j14 ?_|refine ji1 ?_|refine jp (k1) ?_)|(refine jc ?_;first|refine c1 ?_|refine c2 ?_|refine c5 ?_|refine c6 ?_|refine c7 ?_)|refine n1 ?_|refine n2 ?_|refine n5 ?_|refine n6 ?_|refine n11 ?_)|(refine c9 (fun h=>?_) (fun h=>?_)<;>((try simp only [Bool.or_eq_true, Bool.and_eq_true, Bool.or_eq_false_iff, Bool.and_eq_false_iff, Bool.not_eq_true', Bool.not_eq_false', decide_eq_true_eq, decide_eq_false_iff_not, Bool.false_eq_true, Bool.true_eq_false, reduceCtorEq] at h) <;> (try simp (disch := omega) only [sb_bt, w64, Int.reduceAdd, Int.reduceToNat, Int.toNat_natCast, not_true_eq_false, false_or] at h) <;> (try (exfalso; omega)))))
          all_goals first
            | (exfalso; simp at h; done)
            | (exfalso; simp at h; omega)
            | (have q2 := all_no hs2 hb5
               refine gives (by repeat' (first | exact St.le_refl _ | refine St.le_any ?_)) (fin_one (.wk (Wk.of_eq ?_)))
               simp [ltPb, ofLeaf, q2])
        · rw [hb5] at k1
          repeat' (first|(first|(refine jl ?_;first|refine jbl ?_|refine j1 ?_|refine j4 ?_|refine j6 ?_|refine j14 ?_|refine ji1 ?_|refine jp (k1) ?_)|(refine jc ?_;first|refine c1 ?_|refine c2 ?_|refine c5 ?_|refine c6 ?_)|refine n1 ?_|refine n10 ?_)|(refine c9 (fun h=>?_) (fun h=>?_)<;>((try simp only [Bool.or_eq_true, Bool.and_eq_true, Bool.or_eq_false_iff, Bool.and_eq_false_iff, Bool.not_eq_true', Bool.not_eq_false', decide_eq_true_eq, decide_eq_false_iff_not, Bool.false_eq_true, Bool.true_eq_false, reduceCtorEq] at h) <;> (try simp (disch := omega) only [sb_bt, w64, Int.reduceAdd, Int.reduceToNat, Int.toNat_natCast, not_true_eq_false, false_or] at h) <;> (try (exfalso; omega)))))
          all_goals first
            | (exfalso; simp at h; done)
            | (exfalso; simp at h; omega)
            | (exact nx_forS (i2 + 1) ⟨by omega, by rw [v2]; exact all_yes hs2 hb5⟩ (by omega) ⟨⟨_, rfl, wk1 (by omega)⟩, trivial⟩ (by repeat' (first | exact St.le_refl _ | refine St.le_any ?_)))
    · obtain ⟨u0, v0, w0⟩ := dropc hd
      have e0 := get_map cc w0
      rw [hd] at hs0
      obtain ⟨cn, ca⟩ := x0
      have hm1 : (ca.map str1).length = ca.length := List.length_map ..
      by_cases hb : 60 < cn.size ∨ 10 < ca.length
      · repeat' (first|(first|(refine jl ?_;first|refine j7 ?_|refine jbl ?_|refine j1 ?_|refine j4 ?_|refine j9 ?_|refine j13 (fun id hid=>?_)|refine j14 ?_|refine j17t ?_|refine j16 ?_|refine ji1 ?_)|(refine jc ?_;first|refine c1 ?_|refine c2 ?_|refine c5 ?_|refine c6 ?_|refine c7 ?_)|refine n1 ?_|refine n2 ?_|refine n5 ?_|refine n6 ?_|refine n11 ?_)|(refine c9 (fun h=>?_) (fun h=>?_)<;>((try simp only [Bool.or_eq_true, Bool.and_eq_true, Bool.or_eq_false_iff, Bool.and_eq_false_iff, Bool.not_eq_true', Bool.not_eq_false', decide_eq_true_eq, decide_eq_false_iff_not, Bool.false_eq_true, Bool.true_eq_false, reduceCtorEq] at h) <;> (try simp (disch := omega) only [sb_bt, w64, Int.reduceAdd, Int.reduceToNat, Int.toNat_natCast, not_true_eq_false, false_or] at h) <;> (try (exfalso; omega)))))
        have q0 := all_no hs0 (by simp [ltLb]; omega)
        refine gives (by repeat' (first | exact St.le_refl _ | refine St.le_any ?_)) (fin_one (.wk (Wk.of_eq ?_)))
        simp [ltPb, ofLeaf, q0]
      · have hb1 : cn.size ≤ 60 := by omega
        have hb2 : ca.length ≤ 10 := by omega
        repeat' (first|(first|(refine jl ?_;first|refine j7 ?_|refine jbl ?_|refine j1 ?_|refine j4 ?_|refine j9 ?_|refine j13 (fun id hid=>?_)|refine j14 ?_|refine j17t ?_|refine j16 ?_|refine ji1 ?_)|(refine jc ?_;first|refine c1 ?_|refine c2 ?_|refine c5 ?_|refine c6 ?_)|refine n1 ?_)|(refine c9 (fun h=>?_) (fun h=>?_)<;>((try simp only [Bool.or_eq_true, Bool.and_eq_true, Bool.or_eq_false_iff, Bool.and_eq_false_iff, Bool.not_eq_true', Bool.not_eq_false', decide_eq_true_eq, decide_eq_false_iff_not, Bool.false_eq_true, Bool.true_eq_false, reduceCtorEq] at h) <;> (try simp (disch := omega) only [sb_bt, w64, Int.reduceAdd, Int.reduceToNat, Int.toNat_natCast, not_true_eq_false, false_or] at h) <;> (try (exfalso; omega)))))
        refine cj_for (fun i : Nat => i ≤ ca.length ∧ (ca.drop i).all ltWb = ca.all ltWb) (fun i => [(5, .v (.int .i64 i))]) (fun _ => _) (fun i => ca.length - i) 0 ⟨Nat.zero_le _, rfl⟩ ⟨⟨_, rfl, fun _ _ h => h⟩, trivial⟩ (St.le_refl _) (fun i1 hi => ?_)
        obtain ⟨hi1, hs1⟩ := hi
        rcases hd : ca.drop i1 with _ | ⟨x1, r1⟩
        · have z1 := dropn hd
          rw [hd] at hs1
          have q1 := all_end hs1
          repeat' (first|(first|(refine jl ?_;first|refine j1 ?_|refine j4 ?_|refine j6 ?_|refine j14 ?_)|(refine jc ?_;first|refine c1 ?_|refine c2 ?_|refine c8 ?_)|refine n1 ?_|refine n3 ?_|refine n7 ?_|refine n8 ?_|refine n10 ?_)|(refine c9 (fun h=>?_) (fun h=>?_)<;>((try simp only [Bool.or_eq_true, Bool.and_eq_true, Bool.or_eq_false_iff, Bool.and_eq_false_iff, Bool.not_eq_true', Bool.not_eq_false', decide_eq_true_eq, decide_eq_false_iff_not, Bool.false_eq_true, Bool.true_eq_false, reduceCtorEq] at h) <;> (try simp (disch := omega) only [sb_bt, w64, Int.reduceAdd, Int.reduceToNat, Int.toNat_natCast, not_true_eq_false, false_or] at h) <;> (try (exfalso; omega)))))
          exact nx_forS (i0 + 1) ⟨by omega, by rw [v0]; exact all_yes hs0 (by simp [ltLb, hb1, hb2, q1])⟩ (by omega) ⟨⟨_, rfl, wk1 (by omega)⟩, trivial⟩ (by repeat' (first | exact St.le_refl _ | refine St.le_any ?_))
        · obtain ⟨u1, v1, w1⟩ := dropc hd
          have e1 := get_map str1 w1
          rw [hd] at hs1
          repeat' (first|(first|(refine jl ?_;first|refine jbl ?_|refine j1 ?_|refine j4 ?_|refine j6 ?_|refine j14 ?_|refine ji1 ?_)|(refine jc ?_;first|refine c1 ?_|refine c2 ?_|refine c5 ?_|refine c6 ?_|refine c7 ?_)|refine n1 ?_|refine n2 ?_|refine n5 ?_|refine n6 ?_|refine n10 ?_|refine n11 ?_)|(refine c9 (fun h=>?_) (fun h=>?_)<;>((try simp only [Bool.or_eq_true, Bool.and_eq_true, Bool.or_eq_false_iff, Bool.and_eq_false_iff, Bool.not_eq_true', Bool.not_eq_false', decide_eq_true_eq, decide_eq_false_iff_not, Bool.false_eq_true, Bool.true_eq_false, reduceCtorEq] at h) <;> (try simp (disch := omega) only [sb_bt, w64, Int.reduceAdd, Int.reduceToNat, Int.toNat_natCast, not_true_eq_false, false_or] at h) <;> (try (exfalso; omega)))))
          · have q1 := all_no hs1 (by simp [ltWb]; omega)
            have q0 := all_no hs0 (by simp [ltLb, q1])
            refine gives (by repeat' (first | exact St.le_refl _ | refine St.le_any ?_)) (fin_one (.wk (Wk.of_eq ?_)))
            simp [ltPb, ofLeaf, q0]
          · exact nx_forS (i1 + 1) ⟨by omega, by rw [v1]; exact all_yes hs1 (by simp [ltWb]; omega)⟩ (by omega) ⟨⟨_, rfl, wk1 (by omega)⟩, trivial⟩ (by repeat' (first | exact St.le_refl _ | refine St.le_any ?_))
end Go.Proofs.Ytbpoeggmpjepfaa.Ab

/- Orders: what comes ahead. -/
set_option linter.unusedVariables false
set_option linter.unusedSimpArgs false
set_option maxRecDepth 20000
namespace Go.Proofs.Ytbpoeggmpjepfaa.Ab
open Go
def strN : List Cnd → Nat
  | [] => 0
  | c :: l => 1 + testsN c.attrs + strN l
/-- Rules whose strength is told. -/
def okR (r : Rul) : Prop := r.conds.length ≤ 8 ∧ ∀ c ∈ r.conds, c.attrs.length ≤ 12 ∧ ∀ a ∈ c.attrs, a.tests.length ≤ 12
theorem okR_of {r : Rul} (h : ltRb r = true) : okR r := by
  simp only [ltRb, Bool.and_eq_true, decide_eq_true_eq, List.all_eq_true] at h
  obtain ⟨⟨⟨⟨h1, h2⟩, h3⟩, h4⟩, h5⟩ := h
  refine ⟨h1, fun c hc => ?_⟩
  have := h4 c hc
  simp only [ltCb, Bool.and_eq_true, decide_eq_true_eq, List.all_eq_true] at this
  obtain ⟨⟨g1, g2⟩, g3⟩ := this
  refine ⟨by omega, fun a ha => ?_⟩
  have := g3 a ha
  simp only [ltAb, Bool.and_eq_true, decide_eq_true_eq] at this
  exact this.1.2
def stR (rs : List Rul) (i : Int) : Int := if i < 0 then 0 else match rs[i.toNat]? with
  | some r => ((strN r.conds : Nat) : Int)
  | none => 0
theorem testsN_le (l : List Atr) (h : ∀ a ∈ l, a.tests.length ≤ 12) : testsN l ≤ 13 * l.length := by
  induction l with
  | nil => simp [testsN]
  | cons a l ih =>
    have h1 := h a (List.mem_cons_self ..)
    have h2 := ih fun x hx => h x (List.mem_cons_of_mem _ hx)
    unfold testsN
    rw [List.length_cons]
    split <;> omega
attribute [local irreducible] thn inb endR CJ LJ OpJ DJ DA DB AllocK
theorem p_strength9 (r : Rul) (h : okR r) : Pure Try.prog 17 [.agg (ruc r)] (.v (.int .i64 ((strN r.conds : Nat) : Int))) := by
  refine enterW Try.func17 rfl rfl rfl rfl (fun σ => ?_)
  obtain ⟨rn, cs, rac⟩ := r
  obtain ⟨h1, h2⟩ := h
  dsimp only at h1 h2 ⊢
  have hla : (cs.map dc).length = cs.length := List.length_map ..
  repeat (first|(refine jl ?_;first|refine j1 ?_|refine j4 ?_|refine j12 (fun id hid=>?_)|refine j14 ?_)|(refine jc ?_;first|refine c1 ?_|refine c2 ?_|refine c5 ?_))
  refine cj_for (fun s : Nat × Nat => s.1 ≤ cs.length ∧ s.2 + strN (cs.drop s.1) = strN cs ∧ s.2 ≤ 200 * s.1) (fun s => [(9, .v (.int .i64 s.1)), (3, .v (.int .i64 s.2))]) (fun _ => _) (fun s => cs.length - s.1) (0, 0) ⟨Nat.zero_le _, Nat.zero_add _, by omega⟩ ⟨⟨_, rfl, fun _ _ h => h⟩, ⟨_, rfl, fun _ _ h => h⟩, trivial⟩ (St.le_refl _) (fun s hs => ?_)
  obtain ⟨i, n⟩ := s
  obtain ⟨hi, hs1, hs2⟩ := hs
  dsimp only at hi hs1 hs2 ⊢
  rcases hd : cs.drop i with _ | ⟨x, l⟩
  · have h0 := dropn hd
    rw [hd, strN] at hs1
    repeat' (first|(first|(refine jl ?_;first|refine j1 ?_|refine j4 ?_)|(refine jc ?_;first|refine c1 ?_|refine c2 ?_|refine c7 ?_|refine c8 ?_)|refine n1 ?_|refine n3 ?_|refine n7 ?_|refine n8 ?_|refine n11 ?_)|(refine c9 (fun h=>?_) (fun h=>?_)<;>((try simp only [Bool.or_eq_true, Bool.and_eq_true, Bool.or_eq_false_iff, Bool.and_eq_false_iff, Bool.not_eq_true', Bool.not_eq_false', decide_eq_true_eq, decide_eq_false_iff_not, Bool.false_eq_true, Bool.true_eq_false, reduceCtorEq] at h) <;> (try simp (disch := omega) only [sb_bt, w64, Int.reduceAdd, Int.reduceToNat, Int.toNat_natCast, not_true_eq_false, false_or] at h) <;> (try (exfalso; omega)))))
    rw [← hs1]
    exact gives (by repeat' (first | exact St.le_refl _ | refine St.le_any ?_)) (Fin.refl _ _ _)
  · obtain ⟨g1, g2, g3⟩ := dropc hd
    obtain ⟨x1, x2⟩ := h2 x (List.mem_of_getElem? g3)
    have h4 := get_map dc g3
    have hb := testsN_le x.attrs x2
    have k1 := p_tests9 x x1 x2
    rw [hd, strN] at hs1
    repeat' (first|(first|(refine jl ?_;first|refine jbl ?_|refine j1 ?_|refine j4 ?_|refine j6 ?_|refine j13 (fun id hid=>?_)|refine j14 ?_|refine j17t ?_|refine ji1 ?_|refine jp (k1) ?_)|(refine jc ?_;first|refine c1 ?_|refine c2 ?_|refine c5 ?_|refine c6 ?_)|refine n1 ?_|refine n10 ?_)|(refine c9 (fun h=>?_) (fun h=>?_)<;>((try simp only [Bool.or_eq_true, Bool.and_eq_true, Bool.or_eq_false_iff, Bool.and_eq_false_iff, Bool.not_eq_true', Bool.not_eq_false', decide_eq_true_eq, decide_eq_false_iff_not, Bool.false_eq_true, Bool.true_eq_false, reduceCtorEq] at h) <;> (try simp (disch := omega) only [sb_bt, w64, Int.reduceAdd, Int.reduceToNat, Int.toNat_natCast, not_true_eq_false, false_or] at h) <;> (try (exfalso; omega)))))
    exact nx_forS (i + 1, n + (1 + testsN x.attrs)) ⟨by dsimp only; omega, by dsimp only; rw [g2]; omega, by dsimp only; omega⟩ (by dsimp only; omega) ⟨⟨_, rfl, wk1 (by omega)⟩, ⟨_, rfl, Wk.of_eq (by dsimp only; rw [w64 (by omega) (by omega)]; rfl)⟩, trivial⟩ (by first | exact St.le_refl _ | exact St.le_any (St.le_refl _))
theorem p_strength4 (r : Rul) (h : okR r) : Pure Try.prog 18 [.agg (ruc r)] (.v (.int .i64 ((strN r.conds : Nat) : Int))) := by
  refine enterW Try.func18 rfl rfl rfl rfl (fun σ => ?_)
  obtain ⟨rn, cs, rac⟩ := r
  obtain ⟨h1, h2⟩ := h
  dsimp only at h1 h2 ⊢
  have hla : (cs.map dc).length = cs.length := List.length_map ..
  repeat (first|(refine jl ?_;first|refine j1 ?_|refine j4 ?_|refine j12 (fun id hid=>?_))|(refine jc ?_;first|refine c1 ?_|refine c2 ?_|refine c5 ?_))
  refine cj_for (fun s : Nat × Nat => s.1 ≤ cs.length ∧ s.2 + strN (cs.drop s.1) = strN cs ∧ s.2 ≤ 200 * s.1) (fun s => [(4, .v (.int .i64 s.1)), (3, .v (.int .i64 s.2))]) (fun _ => _) (fun s => cs.length - s.1) (0, 0) ⟨Nat.zero_le _, Nat.zero_add _, by omega⟩ ⟨⟨_, rfl, fun _ _ h => h⟩, ⟨_, rfl, fun _ _ h => h⟩, trivial⟩ (St.le_refl _) (fun s hs => ?_)
  obtain ⟨i, n⟩ := s
  obtain ⟨hi, hs1, hs2⟩ := hs
  dsimp only at hi hs1 hs2 ⊢
  rcases hd : cs.drop i with _ | ⟨x, l⟩
  · have h0 := dropn hd
    rw [hd, strN] at hs1
    repeat' (first|(first|(refine jl ?_;first|refine j1 ?_|refine j4 ?_|refine j14 ?_)|(refine jc ?_;first|refine c1 ?_|refine c2 ?_|refine c7 ?_|refine c8 ?_)|refine n1 ?_|refine n3 ?_|refine n7 ?_|refine n8 ?_|refine n11 ?_)|(refine c9 (fun h=>?_) (fun h=>?_)<;>((try simp only [Bool.or_eq_true, Bool.and_eq_true, Bool.or_eq_false_iff, Bool.and_eq_false_iff, Bool.not_eq_true', Bool.not_eq_false', decide_eq_true_eq, decide_eq_false_iff_not, Bool.false_eq_true, Bool.true_eq_false, reduceCtorEq] at h) <;> (try simp (disch := omega) only [sb_bt, w64, Int.reduceAdd, Int.reduceToNat, Int.toNat_natCast, not_true_eq_false, false_or] at h) <;> (try (exfalso; omega)))))
    rw [← hs1]
    exact gives (by repeat' (first | exact St.le_refl _ | refine St.le_any ?_)) (Fin.refl _ _ _)
  · obtain ⟨g1, g2, g3⟩ := dropc hd
    obtain ⟨x1, x2⟩ := h2 x (List.mem_of_getElem? g3)
    have h4 := get_map dc g3
    have hb := testsN_le x.attrs x2
    have k1 := p_tests4 x x1 x2
    rw [hd, strN] at hs1
    repeat' (first|(first|(refine jl ?_;first|refine jbl ?_|refine j1 ?_|refine j4 ?_|refine j6 ?_|refine j14 ?_|refine ji1 ?_|refine jp (k1) ?_)|(refine jc ?_;first|refine c1 ?_|refine c2 ?_|refine c5 ?_|refine c6 ?_)|refine n1 ?_|refine n10 ?_)|(refine c9 (fun h=>?_) (fun h=>?_)<;>((try simp only [Bool.or_eq_true, Bool.and_eq_true, Bool.or_eq_false_iff, Bool.and_eq_false_iff, Bool.not_eq_true', Bool.not_eq_false', decide_eq_true_eq, decide_eq_false_iff_not, Bool.false_eq_true, Bool.true_eq_false, reduceCtorEq] at h) <;> (try simp (disch := omega) only [sb_bt, w64, Int.reduceAdd, Int.reduceToNat, Int.toNat_natCast, not_true_eq_false, false_or] at h) <;> (try (exfalso; omega)))))
    exact nx_forS (i + 1, n + (1 + testsN x.attrs)) ⟨by dsimp only; omega, by dsimp only; rw [g2]; omega, by dsimp only; omega⟩ (by dsimp only; omega) ⟨⟨_, rfl, wk1 (by omega)⟩, ⟨_, rfl, Wk.of_eq (by dsimp only; rw [w64 (by omega) (by omega)]; rfl)⟩, trivial⟩ (by first | exact St.le_refl _ | exact St.le_any (St.le_refl _))
theorem p_rfirst (nl : Option Bool) (full : Bool) (l : List Int) : Pure Try.prog 25 [.sl nl full 1 (l.map int1)] (.v (.int .i64 (firstT l))) := by
  refine enterW Try.func25 rfl rfl rfl rfl (fun σ => ?_)
  have hn : (l.map int1).length = l.length := List.length_map ..
  cases l with
  | nil =>
    have h0 : ([] : List Int).length = 0 := rfl
    repeat' (first|(first|(refine jl ?_;first|refine j1 ?_|refine j4 ?_)|(refine jc ?_;first|refine c1 ?_|refine c2 ?_|refine c7 ?_)|refine n2 ?_|refine n11 ?_)|(refine c9 (fun h=>?_) (fun h=>?_)<;>((try simp only [Bool.or_eq_true, Bool.and_eq_true, Bool.or_eq_false_iff, Bool.and_eq_false_iff, Bool.not_eq_true', Bool.not_eq_false', decide_eq_true_eq, decide_eq_false_iff_not, Bool.false_eq_true, Bool.true_eq_false, reduceCtorEq] at h) <;> (try simp (disch := omega) only [sb_bt, w64, Int.reduceAdd, Int.reduceToNat, Int.toNat_natCast, not_true_eq_false, false_or] at h) <;> (try (exfalso; omega)))))
    exact gives (by repeat' (first | exact St.le_refl _ | refine St.le_any ?_)) (Fin.refl _ _ _)
  | cons a l =>
    have h0 : (a :: l).length = l.length + 1 := rfl
    repeat' (first|(first|(refine jl ?_;first|refine jbl ?_|refine j1 ?_|refine j4 ?_|refine ji1 ?_)|(refine jc ?_;first|refine c1 ?_|refine c2 ?_|refine c6 ?_|refine c7 ?_)|refine n1 ?_|refine n11 ?_)|(refine c9 (fun h=>?_) (fun h=>?_)<;>((try simp only [Bool.or_eq_true, Bool.and_eq_true, Bool.or_eq_false_iff, Bool.and_eq_false_iff, Bool.not_eq_true', Bool.not_eq_false', decide_eq_true_eq, decide_eq_false_iff_not, Bool.false_eq_true, Bool.true_eq_false, reduceCtorEq] at h) <;> (try simp (disch := omega) only [sb_bt, w64, Int.reduceAdd, Int.reduceToNat, Int.toNat_natCast, not_true_eq_false, false_or] at h) <;> (try (exfalso; omega)))))
    exact gives (by repeat' (first | exact St.le_refl _ | refine St.le_any ?_)) (Fin.refl _ _ _)
set_option maxHeartbeats 1000000 in
theorem p_recent (nla nlb : Option Bool) (fla flb : Bool) (a b : List Int) (ha : a.length ≤ 1000) (hb : b.length ≤ 1000) : Pure Try.prog 26 [.sl nla fla 1 (a.map int1), .sl nlb flb 1 (b.map int1)] (.v (.int .i64 (cmpL a b))) := by
  refine enterW Try.func26 rfl rfl rfl rfl (fun σ => ?_)
  have hn1 : (a.map int1).length = a.length := List.length_map ..
  have hn2 : (b.map int1).length = b.length := List.length_map ..
  repeat' (first|(first|(refine jl ?_;first|refine j1 ?_|refine j4 ?_)|(refine jc ?_;first|refine c1 ?_|refine c2 ?_|refine c5 ?_)))
  refine cj_for (fun i : Nat => i ≤ a.length + b.length ∧ cmpL (a.drop i) (b.drop i) = cmpL a b) (fun i => [(5, .v (.int .i64 i))]) (fun _ => σ) (fun i => a.length + b.length - i) 0 ⟨Nat.zero_le _, rfl⟩ ⟨⟨_, rfl, fun _ _ h => h⟩, trivial⟩ (St.le_refl _) (fun i hi => ?_)
  obtain ⟨h1, h3⟩ := hi
  rcases hd : a.drop i with _ | ⟨x, r⟩
  · have z1 := dropn hd
    rw [hd] at h3
    rcases hd2 : b.drop i with _ | ⟨y, r2⟩
    · have z2 := dropn hd2
      rw [hd2] at h3
      repeat' (first|(first|(refine jl ?_;first|refine j7 ?_|refine j1 ?_|refine j4 ?_|refine j9 ?_)|(refine jc ?_;first|refine c1 ?_|refine c2 ?_|refine c7 ?_|refine c8 ?_)|refine n1 ?_|refine n3 ?_|refine n7 ?_|refine n8 ?_|refine n11 ?_)|(refine c9 (fun h=>?_) (fun h=>?_)<;>((try simp only [Bool.or_eq_true, Bool.and_eq_true, Bool.or_eq_false_iff, Bool.and_eq_false_iff, Bool.not_eq_true', Bool.not_eq_false', decide_eq_true_eq, decide_eq_false_iff_not, Bool.false_eq_true, Bool.true_eq_false, reduceCtorEq] at h) <;> (try simp (disch := omega) only [sb_bt, w64, Int.reduceAdd, Int.reduceToNat, Int.toNat_natCast, not_true_eq_false, false_or] at h) <;> (try (exfalso; omega)))))
      refine gives (St.le_refl _) (fin_one (.wk (Wk.of_eq ?_)))
      rw [← h3]; rfl
    · obtain ⟨u1, _, _⟩ := dropc hd2
      rw [hd2] at h3
      repeat' (first|(first|(refine jl ?_;first|refine j7 ?_|refine j1 ?_|refine j4 ?_|refine j9 ?_)|(refine jc ?_;first|refine c1 ?_|refine c2 ?_|refine c5 ?_|refine c6 ?_|refine c7 ?_)|refine n1 ?_|refine n2 ?_|refine n5 ?_|refine n6 ?_|refine n11 ?_)|(refine c9 (fun h=>?_) (fun h=>?_)<;>((try simp only [Bool.or_eq_true, Bool.and_eq_true, Bool.or_eq_false_iff, Bool.and_eq_false_iff, Bool.not_eq_true', Bool.not_eq_false', decide_eq_true_eq, decide_eq_false_iff_not, Bool.false_eq_true, Bool.true_eq_false, reduceCtorEq] at h) <;> (try simp (disch := omega) only [sb_bt, w64, Int.reduceAdd, Int.reduceToNat, Int.toNat_natCast, not_true_eq_false, false_or] at h) <;> (try (exfalso; omega)))))
      refine gives (St.le_refl _) (fin_one (.wk (Wk.of_eq ?_)))
      rw [← h3]; rfl
  · obtain ⟨u1, u2, u3⟩ := dropc hd
    have u4 := get_map int1 u3
    rw [hd] at h3
    rcases hd2 : b.drop i with _ | ⟨y, r2⟩
    · have z2 := dropn hd2
      rw [hd2] at h3
      repeat' (first|(first|(refine jl ?_;first|refine j7 ?_|refine j1 ?_|refine j4 ?_|refine j9 ?_)|(refine dl ?_;first|refine d7 ?_|refine d1 ?_|refine d4 ?_|refine d9 ?_|refine di3 ?_|refine di3 (el := int1 0) (hel := fun hc => absurd hc (by simp; omega)) ?_)|(refine jc ?_;first|refine c1 ?_|refine c2 ?_|refine c5 ?_|refine c6 ?_|refine c7 ?_|refine cq ?_)|refine n1 ?_|refine n2 ?_|refine n5 ?_|refine n6 ?_|refine n11 ?_)|(refine c9 (fun h=>?_) (fun h=>?_)<;>((try simp only [Bool.or_eq_true, Bool.and_eq_true, Bool.or_eq_false_iff, Bool.and_eq_false_iff, Bool.not_eq_true', Bool.not_eq_false', decide_eq_true_eq, decide_eq_false_iff_not, Bool.false_eq_true, Bool.true_eq_false, reduceCtorEq] at h) <;> (try simp (disch := omega) only [sb_bt, w64, Int.reduceAdd, Int.reduceToNat, Int.toNat_natCast, not_true_eq_false, false_or] at h) <;> (try (exfalso; omega)))))
      refine gives (St.le_refl _) (fin_one (.wk (Wk.of_eq ?_)))
      rw [← h3]; rfl
    · obtain ⟨v1, v2, v3⟩ := dropc hd2
      have v4 := get_map int1 v3
      rw [hd2] at h3
      have s1 := cmpI_spec x y
      rw [show cmpL (x :: r) (y :: r2) = if cmpI x y = 0 then cmpL r r2 else cmpI x y from rfl] at h3
      by_cases h0 : cmpI x y = 0
      · rw [if_pos h0, ← u2, ← v2] at h3
        repeat' (first|(first|(refine jl ?_;first|refine j7 ?_|refine j1 ?_|refine j4 ?_|refine j6 ?_|refine j9 ?_)|(refine dl ?_;first|refine d7 ?_|refine dbl ?_|refine d1 ?_|refine d4 ?_|refine d9 ?_|refine di1 ?_|refine di3 ?_)|(refine jc ?_;first|refine c1 ?_|refine c2 ?_|refine c5 ?_|refine c6 ?_|refine cq ?_)|refine n1 ?_|refine n10 ?_)|(refine c9 (fun h=>?_) (fun h=>?_)<;>((try simp only [Bool.or_eq_true, Bool.and_eq_true, Bool.or_eq_false_iff, Bool.and_eq_false_iff, Bool.not_eq_true', Bool.not_eq_false', decide_eq_true_eq, decide_eq_false_iff_not, Bool.false_eq_true, Bool.true_eq_false, reduceCtorEq] at h) <;> (try simp (disch := omega) only [sb_bt, w64, Int.reduceAdd, Int.reduceToNat, Int.toNat_natCast, not_true_eq_false, false_or] at h) <;> (try (exfalso; omega)))))
        all_goals first
          | exact nx_forS (i + 1) ⟨by omega, h3⟩ (by omega) ⟨⟨_, rfl, wk1 (by omega)⟩, trivial⟩ (St.le_refl _)
          | (exfalso; omega)
      · rw [if_neg h0] at h3
        repeat' (first|(first|(refine jl ?_;first|refine j7 ?_|refine j1 ?_|refine j4 ?_|refine j9 ?_)|(refine dl ?_;first|refine d7 ?_|refine dbl ?_|refine d1 ?_|refine d4 ?_|refine d9 ?_|refine di1 ?_|refine di3 ?_)|(refine jc ?_;first|refine c1 ?_|refine c2 ?_|refine c5 ?_|refine c6 ?_|refine c7 ?_|refine cq ?_)|refine n1 ?_|refine n2 ?_|refine n5 ?_|refine n6 ?_|refine n11 ?_)|(refine c9 (fun h=>?_) (fun h=>?_)<;>((try simp only [Bool.or_eq_true, Bool.and_eq_true, Bool.or_eq_false_iff, Bool.and_eq_false_iff, Bool.not_eq_true', Bool.not_eq_false', decide_eq_true_eq, decide_eq_false_iff_not, Bool.false_eq_true, Bool.true_eq_false, reduceCtorEq] at h) <;> (try simp (disch := omega) only [sb_bt, w64, Int.reduceAdd, Int.reduceToNat, Int.toNat_natCast, not_true_eq_false, false_or] at h) <;> (try (exfalso; omega)))))
        all_goals first
          | (exfalso; omega)
          | (refine gives (St.le_refl _) (fin_one (.wk (Wk.of_eq ?_)))
             rw [← h3]
             simp only [ofLeaf, AV.v.injEq, Value.int.injEq, true_and]
             omega)
theorem p_ahead (nla nlb : Option Bool) (fla flb : Bool) (a b : List Int) (ha : a.length ≤ 1000) (hb : b.length ≤ 1000) : Pure Try.prog 28 [.sl nla fla 1 (a.map int1), .sl nlb flb 1 (b.map int1)] (.v (.int .i64 (- cmpL a b))) := by
  refine enterW Try.func28 rfl rfl rfl rfl (fun σ => ?_)
  have hn1 : (a.map int1).length = a.length := List.length_map ..
  have hn2 : (b.map int1).length = b.length := List.length_map ..
  repeat' (first|(first|(refine jl ?_;first|refine j1 ?_|refine j4 ?_)|(refine jc ?_;first|refine c1 ?_|refine c2 ?_|refine c5 ?_)))
  refine cj_for (fun i : Nat => i ≤ a.length + b.length ∧ cmpL (a.drop i) (b.drop i) = cmpL a b) (fun i => [(5, .v (.int .i64 i))]) (fun _ => σ) (fun i => a.length + b.length - i) 0 ⟨Nat.zero_le _, rfl⟩ ⟨⟨_, rfl, fun _ _ h => h⟩, trivial⟩ (St.le_refl _) (fun i hi => ?_)
  obtain ⟨h1, h3⟩ := hi
  rcases hd : a.drop i with _ | ⟨x, r⟩
  · have z1 := dropn hd
    rw [hd] at h3
    rcases hd2 : b.drop i with _ | ⟨y, r2⟩
    · have z2 := dropn hd2
      rw [hd2] at h3
      repeat' (first|(first|(refine jl ?_;first|refine j7 ?_|refine j1 ?_|refine j4 ?_|refine j9 ?_)|(refine jc ?_;first|refine c1 ?_|refine c2 ?_|refine c7 ?_|refine c8 ?_)|refine n1 ?_|refine n3 ?_|refine n7 ?_|refine n8 ?_|refine n11 ?_)|(refine c9 (fun h=>?_) (fun h=>?_)<;>((try simp only [Bool.or_eq_true, Bool.and_eq_true, Bool.or_eq_false_iff, Bool.and_eq_false_iff, Bool.not_eq_true', Bool.not_eq_false', decide_eq_true_eq, decide_eq_false_iff_not, Bool.false_eq_true, Bool.true_eq_false, reduceCtorEq] at h) <;> (try simp (disch := omega) only [sb_bt, w64, Int.reduceAdd, Int.reduceToNat, Int.toNat_natCast, not_true_eq_false, false_or] at h) <;> (try (exfalso; omega)))))
      refine gives (St.le_refl _) (fin_one (.wk (Wk.of_eq ?_)))
      rw [← h3]; rfl
    · obtain ⟨u1, _, _⟩ := dropc hd2
      rw [hd2] at h3
      repeat' (first|(first|(refine jl ?_;first|refine j7 ?_|refine j1 ?_|refine j4 ?_|refine j9 ?_)|(refine jc ?_;first|refine c1 ?_|refine c2 ?_|refine c5 ?_|refine c6 ?_|refine c7 ?_)|refine n1 ?_|refine n2 ?_|refine n5 ?_|refine n6 ?_|refine n11 ?_)|(refine c9 (fun h=>?_) (fun h=>?_)<;>((try simp only [Bool.or_eq_true, Bool.and_eq_true, Bool.or_eq_false_iff, Bool.and_eq_false_iff, Bool.not_eq_true', Bool.not_eq_false', decide_eq_true_eq, decide_eq_false_iff_not, Bool.false_eq_true, Bool.true_eq_false, reduceCtorEq] at h) <;> (try simp (disch := omega) only [sb_bt, w64, Int.reduceAdd, Int.reduceToNat, Int.toNat_natCast, not_true_eq_false, false_or] at h) <;> (try (exfalso; omega)))))
      refine gives (St.le_refl _) (fin_one (.wk (Wk.of_eq ?_)))
      rw [← h3]; rfl
  · obtain ⟨u1, u2, u3⟩ := dropc hd
    have u4 := get_map int1 u3
    rw [hd] at h3
    rcases hd2 : b.drop i with _ | ⟨y, r2⟩
    · have z2 := dropn hd2
      rw [hd2] at h3
      repeat' (first|(first|(refine jl ?_;first|refine j7 ?_|refine j1 ?_|refine j4 ?_|refine j9 ?_)|(refine dl ?_;first|refine d7 ?_|refine d1 ?_|refine d4 ?_|refine d9 ?_|refine di3 ?_|refine di3 (el := int1 0) (hel := fun hc => absurd hc (by simp; omega)) ?_)|(refine jc ?_;first|refine c1 ?_|refine c2 ?_|refine c5 ?_|refine c6 ?_|refine c7 ?_|refine cq ?_)|refine n1 ?_|refine n2 ?_|refine n5 ?_|refine n6 ?_|refine n11 ?_)|(refine c9 (fun h=>?_) (fun h=>?_)<;>((try simp only [Bool.or_eq_true, Bool.and_eq_true, Bool.or_eq_false_iff, Bool.and_eq_false_iff, Bool.not_eq_true', Bool.not_eq_false', decide_eq_true_eq, decide_eq_false_iff_not, Bool.false_eq_true, Bool.true_eq_false, reduceCtorEq] at h) <;> (try simp (disch := omega) only [sb_bt, w64, Int.reduceAdd, Int.reduceToNat, Int.toNat_natCast, not_true_eq_false, false_or] at h) <;> (try (exfalso; omega)))))
      refine gives (St.le_refl _) (fin_one (.wk (Wk.of_eq ?_)))
      rw [← h3]; rfl
    · obtain ⟨v1, v2, v3⟩ := dropc hd2
      have v4 := get_map int1 v3
      rw [hd2] at h3
      have s1 := cmpI_spec x y
      rw [show cmpL (x :: r) (y :: r2) = if cmpI x y = 0 then cmpL r r2 else cmpI x y from rfl] at h3
      by_cases h0 : cmpI x y = 0
      · rw [if_pos h0, ← u2, ← v2] at h3
        repeat' (first|(first|(refine jl ?_;first|refine j7 ?_|refine j1 ?_|refine j4 ?_|refine j6 ?_|refine j9 ?_)|(refine dl ?_;first|refine d7 ?_|refine dbl ?_|refine d1 ?_|refine d4 ?_|refine d9 ?_|refine di1 ?_|refine di3 ?_)|(refine jc ?_;first|refine c1 ?_|refine c2 ?_|refine c5 ?_|refine c6 ?_|refine cq ?_)|refine n1 ?_|refine n10 ?_)|(refine c9 (fun h=>?_) (fun h=>?_)<;>((try simp only [Bool.or_eq_true, Bool.and_eq_true, Bool.or_eq_false_iff, Bool.and_eq_false_iff, Bool.not_eq_true', Bool.not_eq_false', decide_eq_true_eq, decide_eq_false_iff_not, Bool.false_eq_true, Bool.true_eq_false, reduceCtorEq] at h) <;> (try simp (disch := omega) only [sb_bt, w64, Int.reduceAdd, Int.reduceToNat, Int.toNat_natCast, not_true_eq_false, false_or] at h) <;> (try (exfalso; omega)))))
        all_goals first
          | exact nx_forS (i + 1) ⟨by omega, h3⟩ (by omega) ⟨⟨_, rfl, wk1 (by omega)⟩, trivial⟩ (St.le_refl _)
          | (exfalso; omega)
      · rw [if_neg h0] at h3
        repeat' (first|(first|(refine jl ?_;first|refine j7 ?_|refine j1 ?_|refine j4 ?_|refine j9 ?_)|(refine dl ?_;first|refine d7 ?_|refine dbl ?_|refine d1 ?_|refine d4 ?_|refine d9 ?_|refine di1 ?_|refine di3 ?_)|(refine jc ?_;first|refine c1 ?_|refine c2 ?_|refine c5 ?_|refine c6 ?_|refine c7 ?_|refine cq ?_)|refine n1 ?_|refine n2 ?_|refine n5 ?_|refine n6 ?_|refine n11 ?_)|(refine c9 (fun h=>?_) (fun h=>?_)<;>((try simp only [Bool.or_eq_true, Bool.and_eq_true, Bool.or_eq_false_iff, Bool.and_eq_false_iff, Bool.not_eq_true', Bool.not_eq_false', decide_eq_true_eq, decide_eq_false_iff_not, Bool.false_eq_true, Bool.true_eq_false, reduceCtorEq] at h) <;> (try simp (disch := omega) only [sb_bt, w64, Int.reduceAdd, Int.reduceToNat, Int.toNat_natCast, not_true_eq_false, false_or] at h) <;> (try (exfalso; omega)))))
        all_goals first
          | (exfalso; omega)
          | (refine gives (St.le_refl _) (fin_one (.wk (Wk.of_eq ?_)))
             rw [← h3]
             simp only [ofLeaf, AV.v.injEq, Value.int.injEq, true_and]
             omega)
end Go.Proofs.Ytbpoeggmpjepfaa.Ab

/- Orders: what comes ahead, both. -/
set_option linter.unusedVariables false
set_option linter.unusedSimpArgs false
set_option maxRecDepth 20000
namespace Go.Proofs.Ytbpoeggmpjepfaa.Ab
open Go
attribute [local irreducible] thn inb endR CJ LJ OpJ DJ DA DB AllocK
abbrev ordc (nl : Option Bool) (full : Bool) (rs : List Rul) (how : Int) : List AV := [.sl nl full 3 (rs.map ruc), .v (.int .u8 how)]
theorem stR_out {rs : List Rul} {i : Int} (h : i < 0 ∨ (rs.length : Int) ≤ i) : stR rs i = 0 := by
  unfold stR
  by_cases h0 : i < 0
  · rw [if_pos h0]
  · rw [if_neg h0, List.getElem?_eq_none (by omega)]
theorem stR_in {rs : List Rul} {i : Int} {r : Rul} (h : ¬ i < 0) (hr : rs[i.toNat]? = some r) : stR rs i = ((strN r.conds : Nat) : Int) := by
  unfold stR
  rw [if_neg h, hr]
theorem p_rstr (nl : Option Bool) (full : Bool) (rs : List Rul) (h : ∀ r ∈ rs, okR r) (i : Int) : Pure Try.prog 27 [.sl nl full 3 (rs.map ruc), .v (.int .i64 i)] (.v (.int .i64 (stR rs i))) := by
  refine enterW Try.func27 rfl rfl rfl rfl (fun σ => ?_)
  have hn : (rs.map ruc).length = rs.length := List.length_map ..
  by_cases ho : i < 0 ∨ (rs.length : Int) ≤ i
  · rw [stR_out ho]
    repeat' (first|(first|(refine jl ?_;first|refine j7 ?_|refine j1 ?_|refine j4 ?_|refine j9 ?_)|(refine jc ?_;first|refine c1 ?_|refine c2 ?_|refine c7 ?_)|refine n2 ?_|refine n11 ?_)|(refine c9 (fun h=>?_) (fun h=>?_)<;>((try simp only [Bool.or_eq_true, Bool.and_eq_true, Bool.or_eq_false_iff, Bool.and_eq_false_iff, Bool.not_eq_true', Bool.not_eq_false', decide_eq_true_eq, decide_eq_false_iff_not, Bool.false_eq_true, Bool.true_eq_false, reduceCtorEq] at h) <;> (try simp (disch := omega) only [sb_bt, w64, Int.reduceAdd, Int.reduceToNat, Int.toNat_natCast, not_true_eq_false, false_or] at h) <;> (try (exfalso; omega)))))
    all_goals first
      | (exfalso; omega)
      | exact gives (by repeat' (first | exact St.le_refl _ | refine St.le_any ?_)) (Fin.refl _ _ _)
  · obtain ⟨r, hr⟩ : ∃ r, rs[i.toNat]? = some r := ⟨_, List.getElem?_eq_getElem (by omega)⟩
    rw [stR_in (by omega) hr]
    have h4 := get_map ruc hr
    have k1 := p_strength4 r (h r (List.mem_of_getElem? hr))
    repeat' (first|(first|(refine jl ?_;first|refine j7 ?_|refine jbl ?_|refine j1 ?_|refine j4 ?_|refine j9 ?_|refine ji1 ?_|refine jp (k1) ?_)|(refine jc ?_;first|refine c1 ?_|refine c2 ?_|refine c6 ?_|refine c7 ?_)|refine n1 ?_|refine n11 ?_)|(refine c9 (fun h=>?_) (fun h=>?_)<;>((try simp only [Bool.or_eq_true, Bool.and_eq_true, Bool.or_eq_false_iff, Bool.and_eq_false_iff, Bool.not_eq_true', Bool.not_eq_false', decide_eq_true_eq, decide_eq_false_iff_not, Bool.false_eq_true, Bool.true_eq_false, reduceCtorEq] at h) <;> (try simp (disch := omega) only [sb_bt, w64, Int.reduceAdd, Int.reduceToNat, Int.toNat_natCast, not_true_eq_false, false_or] at h) <;> (try (exfalso; omega)))))
    all_goals first
      | (exfalso; omega)
      | exact gives (by repeat' (first | exact St.le_refl _ | refine St.le_any ?_)) (Fin.refl _ _ _)
theorem p_ostr (nl : Option Bool) (full : Bool) (rs : List Rul) (h : ∀ r ∈ rs, okR r) (how i : Int) : Pure Try.prog 45 [.agg (ordc nl full rs how), .v (.int .i64 i)] (.v (.int .i64 (stR rs i))) := by
  refine enterW Try.func45 rfl rfl rfl rfl (fun σ => ?_)
  have hn : (rs.map ruc).length = rs.length := List.length_map ..
  by_cases ho : i < 0 ∨ (rs.length : Int) ≤ i
  · rw [stR_out ho]
    repeat' (first|(first|(refine jl ?_;first|refine j7 ?_|refine j1 ?_|refine j4 ?_|refine j9 ?_|refine j12 (fun id hid=>?_)|refine j16 ?_)|(refine jc ?_;first|refine c1 ?_|refine c2 ?_|refine c7 ?_)|refine n2 ?_|refine n11 ?_)|(refine c9 (fun h=>?_) (fun h=>?_)<;>((try simp only [Bool.or_eq_true, Bool.and_eq_true, Bool.or_eq_false_iff, Bool.and_eq_false_iff, Bool.not_eq_true', Bool.not_eq_false', decide_eq_true_eq, decide_eq_false_iff_not, Bool.false_eq_true, Bool.true_eq_false, reduceCtorEq] at h) <;> (try simp (disch := omega) only [sb_bt, w64, Int.reduceAdd, Int.reduceToNat, Int.toNat_natCast, not_true_eq_false, false_or] at h) <;> (try (exfalso; omega)))))
    all_goals first
      | (exfalso; omega)
      | exact gives (by repeat' (first | exact St.le_refl _ | refine St.le_any ?_)) (Fin.refl _ _ _)
  · obtain ⟨r, hr⟩ : ∃ r, rs[i.toNat]? = some r := ⟨_, List.getElem?_eq_getElem (by omega)⟩
    rw [stR_in (by omega) hr]
    have h4 := get_map ruc hr
    have k1 := p_strength9 r (h r (List.mem_of_getElem? hr))
    repeat' (first|(first|(refine jl ?_;first|refine j7 ?_|refine jbl ?_|refine j1 ?_|refine j4 ?_|refine j9 ?_|refine j12 (fun id hid=>?_)|refine j14 ?_|refine j16 ?_|refine ji1 ?_|refine jp (k1) ?_)|(refine jc ?_;first|refine c1 ?_|refine c2 ?_|refine c6 ?_|refine c7 ?_)|refine n1 ?_|refine n11 ?_)|(refine c9 (fun h=>?_) (fun h=>?_)<;>((try simp only [Bool.or_eq_true, Bool.and_eq_true, Bool.or_eq_false_iff, Bool.and_eq_false_iff, Bool.not_eq_true', Bool.not_eq_false', decide_eq_true_eq, decide_eq_false_iff_not, Bool.false_eq_true, Bool.true_eq_false, reduceCtorEq] at h) <;> (try simp (disch := omega) only [sb_bt, w64, Int.reduceAdd, Int.reduceToNat, Int.toNat_natCast, not_true_eq_false, false_or] at h) <;> (try (exfalso; omega)))))
    all_goals first
      | (exfalso; omega)
      | exact gives (by repeat' (first | exact St.le_refl _ | refine St.le_any ?_)) (Fin.refl _ _ _)
set_option maxHeartbeats 1000000 in
theorem p_rless (nl : Option Bool) (full : Bool) (rs : List Rul) (h : ∀ r ∈ rs, okR r) (how : Int) (a b : Ins) (ha : a.tags.length ≤ 12) (hb : b.tags.length ≤ 12) : Pure Try.prog 10 [.sl nl full 3 (rs.map ruc), .v (.int .u8 how), .agg (inc a), .agg (inc b)] (.v (.bool (lessR (stR rs) how a b))) := by
  refine enterW Try.func10 rfl rfl rfl rfl (fun σ => ?_)
  obtain ⟨ar, at_⟩ := a
  obtain ⟨br, bt⟩ := b
  dsimp only at ha hb
  have k1 := p_rfirst none false at_
  have k2 := p_rfirst none false bt
  have k3 := p_rrec none false at_ (by omega)
  have k4 := p_rrec none false bt (by omega)
  have la := recP_len at_
  have lb := recP_len bt
  have k5 := p_recent none none false false (recP at_) (recP bt) (by omega) (by omega)
  have k6 := p_rstr nl full rs h ar
  have k7 := p_rstr nl full rs h br
  have k8 := p_ahead none none false false at_ bt (by omega) (by omega)
  repeat' (first|(first|(refine jl ?_;first|refine j1 ?_|refine j4 ?_|refine j12 (fun id hid=>?_)|refine j14 ?_|refine jp (k8) ?_)|(refine dl ?_;first|refine d8 ?_|refine d1 ?_|refine d4 ?_|refine d9 ?_|refine d14 ?_|refine d16 ?_|refine dp (k1) ?_|refine dpq (hp:=fun hc=>k1) ?_|refine dp (k2) ?_|refine dpq (hp:=fun hc=>k2) ?_|refine dp (k3) ?_|refine dp (k4) ?_|refine dp (k5) ?_|refine dp (k6) ?_|refine dp (k7) ?_)|(refine jc ?_;first|refine c1 ?_|refine c2 ?_|refine c5 ?_|refine c6 ?_|refine c7 ?_|refine cq ?_)|refine n1 ?_|refine n2 ?_|refine n6 ?_|refine n10 ?_|refine n11 ?_)|(refine c9 (fun h=>?_) (fun h=>?_)<;>((try simp only [Bool.or_eq_true, Bool.and_eq_true, Bool.or_eq_false_iff, Bool.and_eq_false_iff, Bool.not_eq_true', Bool.not_eq_false', decide_eq_true_eq, decide_eq_false_iff_not, Bool.false_eq_true, Bool.true_eq_false, reduceCtorEq] at h) <;> (try simp (disch := omega) only [sb_bt, w64, Int.reduceAdd, Int.reduceToNat, Int.toNat_natCast, not_true_eq_false, false_or] at h) <;> (try (exfalso; omega)))))
  all_goals
    refine gives (by repeat' (first | exact St.le_refl _ | refine St.le_any ?_)) (fin_one (.wk (Wk.of_eq ?_)))
    simp only [ofLeaf, AV.v.injEq, Value.bool.injEq]
    unfold lessR
    dsimp only
    repeat' split
    all_goals first
      | rfl
      | (exfalso; omega)
set_option maxHeartbeats 1000000 in
theorem p_ocmp (nl : Option Bool) (full : Bool) (rs : List Rul) (h : ∀ r ∈ rs, okR r) (how : Int) (a b : Ins) (ha : a.tags.length ≤ 12) (hb : b.tags.length ≤ 12) : Pure Try.prog 24 [.agg (ordc nl full rs how), .agg (inc a), .agg (inc b)] (.v (.int .i64 (cmpX (stR rs) how a b))) := by
  refine enterW Try.func24 rfl rfl rfl rfl (fun σ => ?_)
  have k1 := p_first b
  have k2 := p_first a
  have k3 := p_cmpI (firstT b.tags) (firstT a.tags)
  have k4 := p_recency none false a.tags ha
  have k5 := p_recency none false b.tags hb
  have la := recP_len a.tags
  have lb := recP_len b.tags
  have k6 := p_cmpL none none false false (recP b.tags) (recP a.tags) (by omega) (by omega)
  have k7 := p_ostr nl full rs h how a.rule
  have k8 := p_ostr nl full rs h how b.rule
  have k9 := p_cmpI (stR rs b.rule) (stR rs a.rule)
  have k10 := p_cmpI a.rule b.rule
  have k11 := p_cmpL none none false false a.tags b.tags (by omega) (by omega)
  by_cases hh : how = 1
  · have k12 := p_orI (cmpI (firstT b.tags) (firstT a.tags)) (cmpL (recP b.tags) (recP a.tags)) (cmpI (stR rs b.rule) (stR rs a.rule)) (cmpI a.rule b.rule) (cmpL a.tags b.tags)
    have e : cmpX (stR rs) how a b = (if (cmpI (firstT b.tags) (firstT a.tags)) = 0 then if cmpL (recP b.tags) (recP a.tags) = 0 then if cmpI (stR rs b.rule) (stR rs a.rule) = 0 then if cmpI a.rule b.rule = 0 then cmpL a.tags b.tags else cmpI a.rule b.rule else cmpI (stR rs b.rule) (stR rs a.rule) else cmpL (recP b.tags) (recP a.tags) else (cmpI (firstT b.tags) (firstT a.tags))) := by
      unfold cmpX orC
      dsimp only
      simp only [if_pos hh]
    rw [e]
    repeat' (first|(first|(refine jl ?_;first|refine j1 ?_|refine j4 ?_|refine j12 (fun id hid=>?_)|refine j14 ?_)|(refine dl ?_;first|refine d1 ?_|refine d4 ?_|refine d14 ?_|refine dp (k1) ?_|refine dp (k2) ?_|refine dp (k3) ?_)|(refine yl ?_;first|refine y7 ?_|refine y8 ?_|refine y10 ?_|refine y11 ?_|refine ybd ?_|refine ybl ?_|refine y1 ?_|refine y2 ?_|refine y3 ?_|refine y3f ?_|refine y9 ?_|refine y14 ?_|refine y15 ?_|refine y16 ?_|refine y17 ?_|refine y18 ?_|refine y21 ?_|refine y25 ?_|refine yi1 ?_|refine yi2 ?_|refine yi3 ?_|refine yi4 ?_|refine yi4q ?_|refine yi6 ?_|refine ylit ?_|refine yp (k1) ?_|refine ypy (k1) ?_|refine ypq (hp:=fun hc=>k1) ?_|refine yp (k2) ?_|refine ypy (k2) ?_|refine ypq (hp:=fun hc=>k2) ?_|refine yp (k3) ?_|refine ypy (k3) ?_|refine ypq (hp:=fun hc=>k3) ?_|refine yp (k4) ?_|refine ypy (k4) ?_|refine ypq (hp:=fun hc=>k4) ?_|refine yp (k5) ?_|refine ypy (k5) ?_|refine ypq (hp:=fun hc=>k5) ?_|refine yp (k6) ?_|refine ypy (k6) ?_|refine ypq (hp:=fun hc=>k6) ?_|refine yp (k7) ?_|refine ypy (k7) ?_|refine ypq (hp:=fun hc=>k7) ?_|refine yp (k8) ?_|refine ypy (k8) ?_|refine ypq (hp:=fun hc=>k8) ?_|refine yp (k9) ?_|refine ypy (k9) ?_|refine ypq (hp:=fun hc=>k9) ?_|refine yp (k10) ?_|refine ypy (k10) ?_|refine ypq (hp:=fun hc=>k10) ?_|refine yp (k11) ?_|refine ypy (k11) ?_|refine ypq (hp:=fun hc=>k11) ?_|refine yp (k12) ?_|refine ypy (k12) ?_|refine ypq (hp:=fun hc=>k12) ?_|refine ynil ?_)|(refine jc ?_;first|refine c1 ?_|refine c2 ?_|refine c7 ?_|refine cqy [] [0, 1, 2, 3, 4, 5, 6, 7, 8, 9, 10, 11, 12, 13, 14, 15, 16, 17, 18, 19, 20, 21, 22, 23, 24, 25, 26, 27, 28, 29] ?_|refine cq ?_)|refine n1 ?_|refine n11 ?_)|(refine c9 (fun h=>?_) (fun h=>?_)<;>((try simp only [Bool.or_eq_true, Bool.and_eq_true, Bool.or_eq_false_iff, Bool.and_eq_false_iff, Bool.not_eq_true', Bool.not_eq_false', decide_eq_true_eq, decide_eq_false_iff_not, Bool.false_eq_true, Bool.true_eq_false, reduceCtorEq] at h) <;> (try simp (disch := omega) only [sb_bt, w64, Int.reduceAdd, Int.reduceToNat, Int.toNat_natCast, not_true_eq_false, false_or] at h) <;> (try (exfalso; omega)))))
    all_goals first
      | (exfalso; omega)
      | exact gives (by repeat' (first | exact St.le_refl _ | refine St.le_any ?_)) (Fin.refl _ _ _)
  · have k12 := p_orI (0) (cmpL (recP b.tags) (recP a.tags)) (cmpI (stR rs b.rule) (stR rs a.rule)) (cmpI a.rule b.rule) (cmpL a.tags b.tags)
    have e : cmpX (stR rs) how a b = (if (0) = 0 then if cmpL (recP b.tags) (recP a.tags) = 0 then if cmpI (stR rs b.rule) (stR rs a.rule) = 0 then if cmpI a.rule b.rule = 0 then cmpL a.tags b.tags else cmpI a.rule b.rule else cmpI (stR rs b.rule) (stR rs a.rule) else cmpL (recP b.tags) (recP a.tags) else (0)) := by
      unfold cmpX orC
      dsimp only
      simp only [if_neg hh]
    rw [e]
    repeat' (first|(first|(refine jl ?_;first|refine j1 ?_|refine j4 ?_|refine j12 (fun id hid=>?_)|refine j14 ?_)|(refine yl ?_;first|refine y7 ?_|refine y8 ?_|refine y10 ?_|refine y11 ?_|refine ybd ?_|refine ybl ?_|refine y1 ?_|refine y2 ?_|refine y3 ?_|refine y3f ?_|refine y9 ?_|refine y14 ?_|refine y15 ?_|refine y16 ?_|refine y17 ?_|refine y18 ?_|refine y21 ?_|refine y25 ?_|refine yi1 ?_|refine yi2 ?_|refine yi3 ?_|refine yi4 ?_|refine yi4q ?_|refine yi6 ?_|refine ylit ?_|refine yp (k1) ?_|refine ypy (k1) ?_|refine ypq (hp:=fun hc=>k1) ?_|refine yp (k2) ?_|refine ypy (k2) ?_|refine ypq (hp:=fun hc=>k2) ?_|refine yp (k3) ?_|refine ypy (k3) ?_|refine ypq (hp:=fun hc=>k3) ?_|refine yp (k4) ?_|refine ypy (k4) ?_|refine ypq (hp:=fun hc=>k4) ?_|refine yp (k5) ?_|refine ypy (k5) ?_|refine ypq (hp:=fun hc=>k5) ?_|refine yp (k6) ?_|refine ypy (k6) ?_|refine ypq (hp:=fun hc=>k6) ?_|refine yp (k7) ?_|refine ypy (k7) ?_|refine ypq (hp:=fun hc=>k7) ?_|refine yp (k8) ?_|refine ypy (k8) ?_|refine ypq (hp:=fun hc=>k8) ?_|refine yp (k9) ?_|refine ypy (k9) ?_|refine ypq (hp:=fun hc=>k9) ?_|refine yp (k10) ?_|refine ypy (k10) ?_|refine ypq (hp:=fun hc=>k10) ?_|refine yp (k11) ?_|refine ypy (k11) ?_|refine ypq (hp:=fun hc=>k11) ?_|refine yp (k12) ?_|refine ypy (k12) ?_|refine ypq (hp:=fun hc=>k12) ?_|refine ynil ?_)|(refine jc ?_;first|refine c1 ?_|refine c2 ?_|refine c6 ?_|refine c7 ?_|refine cqy [] [0, 1, 2, 3, 4, 5, 6, 7, 8, 9, 10, 11, 12, 13, 14, 15, 16, 17, 18, 19, 20, 21, 22, 23, 24, 25, 26, 27, 28, 29] ?_)|refine n1 ?_|refine n11 ?_)|(refine c9 (fun h=>?_) (fun h=>?_)<;>((try simp only [Bool.or_eq_true, Bool.and_eq_true, Bool.or_eq_false_iff, Bool.and_eq_false_iff, Bool.not_eq_true', Bool.not_eq_false', decide_eq_true_eq, decide_eq_false_iff_not, Bool.false_eq_true, Bool.true_eq_false, reduceCtorEq] at h) <;> (try simp (disch := omega) only [sb_bt, w64, Int.reduceAdd, Int.reduceToNat, Int.toNat_natCast, not_true_eq_false, false_or] at h) <;> (try (exfalso; omega)))))
    all_goals first
      | (exfalso; omega)
      | exact gives (by repeat' (first | exact St.le_refl _ | refine St.le_any ?_)) (Fin.refl _ _ _)
theorem p_less (nl : Option Bool) (full : Bool) (rs : List Rul) (h : ∀ r ∈ rs, okR r) (how : Int) (a b : Ins) (ha : a.tags.length ≤ 12) (hb : b.tags.length ≤ 12) : Pure Try.prog 9 [.sl nl full 3 (rs.map ruc), .v (.int .u8 how), .agg (inc a), .agg (inc b)] (.v (.bool (lessX (stR rs) how a b))) := by
  refine enterW Try.func9 rfl rfl rfl rfl (fun σ => ?_)
  have k1 := p_ocmp nl full rs h how a b ha hb
  repeat' (first|(first|(refine jl ?_;first|refine jb ?_|refine j1 ?_|refine j4 ?_|refine j12 (fun id hid=>?_)|refine j14 ?_|refine jp (k1) ?_)|(refine jc ?_;first|refine c1 ?_|refine c2 ?_|refine c7 ?_)|refine n11 ?_))
  exact gives (by repeat' (first | exact St.le_refl _ | refine St.le_any ?_)) (Fin.refl _ _ _)
end Go.Proofs.Ytbpoeggmpjepfaa.Ab

/- Orders: instantiations sorted in place. -/
set_option linter.unusedVariables false
set_option linter.unusedSimpArgs false
set_option maxRecDepth 20000
namespace Go.Proofs.Ytbpoeggmpjepfaa.Ab
open Go
attribute [local irreducible] thn inb endR CJ LJ OpJ DJ DA DB AllocK
def shortI (l : List Ins) : Prop := ∀ x ∈ l, x.tags.length ≤ 12
abbrev cmpf (nl : Option Bool) (full : Bool) (rs : List Rul) (how : Int) : AV := .bf 24 [.agg (ordc nl full rs how)]
set_option maxHeartbeats 4000000 in
theorem q_insN {σ : St} {w : Nat} {l : List Ins} (nl : Option Bool) (full : Bool) (rs : List Rul) (hr : ∀ r ∈ rs, okR r) (how : Int) (hs : shortI l) (hw : σ w = some (.row 2 32 (l.map inc))) (hl : l.length ≤ 20) : ACalls Try.prog 53 [.osl w 2 0 l.length, .v (.int .i64 0), .v (.int .i64 l.length), cmpf nl full rs how] σ (fun e σ' => e = .ret (.tup []) ∧ σ' = σ.set w (.row 2 32 ((sorts (lessX (stR rs) how) l).map inc))) := by
  refine acalls_gives ?_
  refine enter Try.func53 rfl rfl rfl rfl ?_
  generalize hlt0 : lessX (stR rs) how = lt
  repeat' (first|(first|(refine jl ?_;first|refine j1 ?_|refine j4 ?_)|(refine jc ?_;first|refine c1 ?_|refine c2 ?_|refine c5 ?_)))
  refine cj_for (fun i : Nat => 1 ≤ i ∧ (i ≤ l.length ∨ i = 1)) (fun i => [(8, .v (.int .i64 i))]) (fun i => σ.set w (.row 2 32 ((partS lt l i).map inc))) (fun i => l.length - i) 1 ⟨Nat.le_refl _, .inr rfl⟩ ⟨⟨_, rfl, fun _ _ h => h⟩, trivial⟩ (by rw [partS_one lt l (Nat.le_refl 1)]; exact St.le_setk (St.le_refl _) hw) (fun i hi => ?_)
  by_cases hlt : i < l.length
  · obtain ⟨x, hx⟩ : ∃ x, l[i]? = some x := ⟨_, List.getElem?_eq_getElem hlt⟩
    obtain ⟨hI, hC, hlen⟩ := InsI.start (lt := lt) hx
    have hxs := hs x (List.mem_of_getElem? hx)
    rw [hC]
    repeat' (first|(first|(refine jl ?_;first|refine j1 ?_|refine j4 ?_)|(refine jc ?_;first|refine c1 ?_|refine c2 ?_|refine c5 ?_|refine c6 ?_)|refine n1 ?_)|(refine c9 (fun h=>?_) (fun h=>?_)<;>((try simp only [Bool.or_eq_true, Bool.and_eq_true, Bool.or_eq_false_iff, Bool.and_eq_false_iff, Bool.not_eq_true', Bool.not_eq_false', decide_eq_true_eq, decide_eq_false_iff_not, Bool.false_eq_true, Bool.true_eq_false, reduceCtorEq] at h) <;> (try simp (disch := omega) only [sb_bt, w64, Int.reduceAdd, Int.reduceToNat, Int.toNat_natCast, not_true_eq_false, false_or] at h) <;> (try (exfalso; omega)))))
    refine cj_for (fun s : List Ins × List Ins => InsI lt l i x s.1 s.2) (fun s => [(9, .v (.int .i64 s.2.length))]) (fun s => σ.set w (.row 2 32 ((insC l i x s.1 s.2).map inc))) (fun s => s.2.length) ([], srtB lt [] (l.take i)) hI ⟨⟨_, rfl, Wk.of_eq (by rw [hlen])⟩, trivial⟩ (St.le_refl _) (fun s hs2 => ?_)
    obtain ⟨d, t⟩ := s
    dsimp only at hs2 ⊢
    obtain ⟨hcl, hdt⟩ := insC_len hs2 hx
    cases t with
    | nil =>
      have h0 : ([] : List Ins).length = 0 := rfl
      repeat' (first|(first|(refine jl ?_;first|refine j1 ?_|refine j6 ?_)|(refine yl ?_;first|refine y7 ?_|refine y8 ?_|refine y10 ?_|refine y11 ?_|refine ybd ?_|refine ybl ?_|refine y1 ?_|refine y2 ?_|refine y3 ?_|refine y3f ?_|refine y9 ?_|refine y14 ?_|refine y15 ?_|refine y16 ?_|refine y17 ?_|refine y18 ?_|refine y21 ?_|refine y25 ?_|refine yi1 ?_|refine yi2 ?_|refine yi3 ?_|refine yi4 ?_|refine yi4q ?_|refine yi6 ?_|refine ylit ?_|refine yff ?_|refine ynil ?_)|(refine jc ?_;first|refine c1 ?_|refine c2 ?_|refine cqy [] [0, 1, 2, 3, 4, 5, 6, 7, 8, 9, 10, 11, 12, 13, 14, 15, 16] ?_|refine c8 ?_)|refine n1 ?_|refine n3 ?_|refine n7 ?_|refine n8 ?_|refine n10 ?_)|(refine c9 (fun h=>?_) (fun h=>?_)<;>((try simp only [Bool.or_eq_true, Bool.and_eq_true, Bool.or_eq_false_iff, Bool.and_eq_false_iff, Bool.not_eq_true', Bool.not_eq_false', decide_eq_true_eq, decide_eq_false_iff_not, Bool.false_eq_true, Bool.true_eq_false, reduceCtorEq] at h) <;> (try simp (disch := omega) only [sb_bt, w64, Int.reduceAdd, Int.reduceToNat, Int.toNat_natCast, not_true_eq_false, false_or] at h) <;> (try (exfalso; omega)))))
      · rw [hs2.stop hx (.inl rfl)]
        exact nx_forS (i + 1) ⟨by omega, .inl (by omega)⟩ (by omega) ⟨⟨_, rfl, wk1 (by omega)⟩, trivial⟩ (St.le_refl _)
    | cons y t =>
      have h0 : (y :: t).length = t.length + 1 := rfl
      obtain ⟨gy, gx⟩ := @insC_get Ins l i x y d t
      have hys : y.tags.length ≤ 12 := by
        have h1 := (srtB_perm lt (l.take i) []).mem_iff (a := y)
        rw [List.append_nil, hs2.pt] at h1
        exact hs y (List.mem_of_mem_take (h1.1 (List.mem_append_right _ (List.mem_cons_self ..))))
      have w1 : IntKind.i64.wrap (((y :: t).length : Int) - 1) = ((t.length : Nat) : Int) := by rw [w64 (by omega) (by omega)]; omega
      have ex : ((insC l i x d (y :: t)).map inc)[0 + (((y :: t).length : Nat) : Int).toNat]? = some (inc x) := by rw [Nat.zero_add]; exact get_map inc gx
      have ey : ((insC l i x d (y :: t)).map inc)[0 + (IntKind.i64.wrap (((y :: t).length : Int) - 1)).toNat]? = some (inc y) := by rw [w1, Nat.zero_add]; exact get_map inc gy
      have k1 := p_ocmp nl full rs hr how x y hxs hys
      have s1 : ((insC l i x d (y :: t)).map inc).set (0 + (((y :: t).length : Nat) : Int).toNat) (inc y) = ((insC l i x d (y :: t)).set (t.length + 1) y).map inc := by rw [Nat.zero_add, Int.toNat_natCast, h0, List.map_set]
      have e1 : (((insC l i x d (y :: t)).set (t.length + 1) y).map inc)[0 + (IntKind.i64.wrap (((y :: t).length : Int) - 1)).toNat]? = some (inc y) := by
        rw [w1, Nat.zero_add]
        refine get_map inc ?_
        rw [List.getElem?_set_ne (by omega)]
        exact gy
      have s2 : (((insC l i x d (y :: t)).set (t.length + 1) y).map inc).set (0 + (IntKind.i64.wrap (((y :: t).length : Int) - 1)).toNat) (inc x) = (((insC l i x d (y :: t)).set (t.length + 1) y).set t.length x).map inc := by rw [w1, Nat.zero_add, Int.toNat_natCast, ← List.map_set]
      repeat' (first|(first|(refine jl ?_;first|refine j1 ?_|refine j6 ?_)|(refine yl ?_;first|refine y7 ?_|refine y8 ?_|refine y10 ?_|refine y11 ?_|refine ybd ?_|refine ybl ?_|refine y1 ?_|refine y2 ?_|refine y3 ?_|refine y3f ?_|refine y9 ?_|refine y14 ?_|refine y15 ?_|refine y16 ?_|refine y17 ?_|refine y18 ?_|refine y21 ?_|refine y25 ?_|refine yi1 ?_|refine yi2 ?_|refine yi3 ?_|refine yi4 ?_|refine yi4q ?_|refine yi6 ?_|refine ylit ?_|refine y16 (he := ex) ?_|refine y16 (he := ey) ?_|refine y14 (he := ex) ?_|refine y14 (he := ey) ?_|refine y17 (he := ex) (hn2 := s1) ?_|refine y17 (he := e1) (hn2 := s2) ?_|refine yclbq (hp := fun _ => k1) ?_|refine ynil ?_)|(refine jc ?_;first|refine c1 ?_|refine c2 ?_|refine c5 ?_|refine c6 ?_|refine cqy [15, 17] [0, 1, 2, 3, 4, 5, 6, 7, 8, 9, 10, 11, 12, 13, 14, 15, 16, 17] ?_|refine cqy [] [0, 1, 2, 3, 4, 5, 6, 7, 8, 9, 10, 11, 12, 13, 14, 15, 16] ?_|refine c8 ?_)|refine n1 ?_|refine n3 ?_|refine n7 ?_|refine n8 ?_|refine n10 ?_)|(refine c9 (fun h=>?_) (fun h=>?_)<;>((try simp only [Bool.or_eq_true, Bool.and_eq_true, Bool.or_eq_false_iff, Bool.and_eq_false_iff, Bool.not_eq_true', Bool.not_eq_false', decide_eq_true_eq, decide_eq_false_iff_not, Bool.false_eq_true, Bool.true_eq_false, reduceCtorEq] at h) <;> (try simp (disch := omega) only [sb_bt, w64, Int.reduceAdd, Int.reduceToNat, Int.toNat_natCast, not_true_eq_false, false_or] at h) <;> (try (exfalso; omega)))))
      · have hlx : lt x y = true := by rw [← hlt0]; exact decide_eq_true h.2
        obtain ⟨q1, q2, q3, q4⟩ := hs2.step hlx
        rw [show t.length + 1 = (y :: t).length from rfl] at q4
        refine nx_forS (d ++ [y], t) q1 (by dsimp only; omega) ⟨⟨_, rfl, Wk.of_eq (congrArg (fun v => AV.v (Value.int .i64 v)) w1)⟩, trivial⟩ ?_
        rw [St.set_set, St.set_set, ← q4, h0]
        exact St.le_refl _
      · have hlx : lt x y = false := by
          rw [← hlt0]
          refine decide_eq_false ?_
          rcases h with h | h
          · exfalso; omega
          · exact h
        rw [hs2.stop hx (.inr ⟨y, t, rfl, hlx⟩)]
        exact nx_forS (i + 1) ⟨by omega, .inl (by omega)⟩ (by omega) ⟨⟨_, rfl, wk1 (by omega)⟩, trivial⟩ (St.le_refl _)
  · repeat' (first|(first|(refine jl ?_;first|refine j1 ?_|refine j4 ?_)|(refine jc ?_;first|refine c1 ?_|refine c2 ?_|refine c8 ?_)|refine n3 ?_|refine n7 ?_|refine n8 ?_|refine n12 ?_)|(refine c9 (fun h=>?_) (fun h=>?_)<;>((try simp only [Bool.or_eq_true, Bool.and_eq_true, Bool.or_eq_false_iff, Bool.and_eq_false_iff, Bool.not_eq_true', Bool.not_eq_false', decide_eq_true_eq, decide_eq_false_iff_not, Bool.false_eq_true, Bool.true_eq_false, reduceCtorEq] at h) <;> (try simp (disch := omega) only [sb_bt, w64, Int.reduceAdd, Int.reduceToNat, Int.toNat_natCast, not_true_eq_false, false_or] at h) <;> (try (exfalso; omega)))))
    have e : partS lt l i = sorts lt l := by
      by_cases h1 : i ≤ 1
      · rw [partS_one lt l h1, ← partS_all, partS_one lt l (by omega)]
      · obtain ⟨_, h2⟩ := hi
        rw [show i = l.length by omega, partS_all]
    rw [e]
    exact gives (St.le_refl _) (Fin.refl _ _ _)
theorem q_insN0 {σ : St} {w n : Nat} (a b : Int) (f : AV) (hab : b ≤ a + 1) (ha : 0 ≤ a) (ha2 : a ≤ 1000) : ACalls Try.prog 53 [.osl w 2 0 n, .v (.int .i64 a), .v (.int .i64 b), f] σ (fun e σ' => e = .ret (.tup []) ∧ σ' = σ) := by
  refine acalls_gives ?_
  refine enter Try.func53 rfl rfl rfl rfl ?_
  have hw : IntKind.i64.wrap (a + 1) = a + 1 := w64 (by omega) (by omega)
  repeat' (first|(first|(refine jl ?_;first|refine j1 ?_|refine j4 ?_)|(refine jc ?_;first|refine c1 ?_|refine c2 ?_|refine c5 ?_)))
  refine cj_for (fun i : Int => i = a + 1) (fun i => [(8, .v (.int .i64 i))]) (fun _ => σ) (fun _ => 0) (a + 1) rfl ⟨⟨_, rfl, Wk.of_eq (by rw [hw])⟩, trivial⟩ (St.le_refl _) (fun i hi => ?_)
  subst hi
  repeat' (first|(first|(refine jl ?_;first|refine j1 ?_|refine j4 ?_)|(refine jc ?_;first|refine c1 ?_|refine c2 ?_|refine c8 ?_)|refine n3 ?_|refine n7 ?_|refine n8 ?_|refine n12 ?_)|(refine c9 (fun h=>?_) (fun h=>?_)<;>((try simp only [Bool.or_eq_true, Bool.and_eq_true, Bool.or_eq_false_iff, Bool.and_eq_false_iff, Bool.not_eq_true', Bool.not_eq_false', decide_eq_true_eq, decide_eq_false_iff_not, Bool.false_eq_true, Bool.true_eq_false, reduceCtorEq] at h) <;> (try simp (disch := omega) only [sb_bt, w64, Int.reduceAdd, Int.reduceToNat, Int.toNat_natCast, not_true_eq_false, false_or] at h) <;> (try (exfalso; omega)))))
  exact gives (St.le_refl _) (Fin.refl _ _ _)
set_option maxHeartbeats 1000000 in
theorem q_stable {σ : St} {w : Nat} {l : List Ins} (nl : Option Bool) (full : Bool) (rs : List Rul) (hr : ∀ r ∈ rs, okR r) (how : Int) (hs : shortI l) (hw : σ w = some (.row 2 32 (l.map inc))) (hl : l.length ≤ 20) : ACalls Try.prog 46 [.osl w 2 0 l.length, .v (.int .i64 l.length), cmpf nl full rs how] σ (fun e σ' => e = .ret (.tup []) ∧ σ' = σ.set w (.row 2 32 ((sorts (lessX (stR rs) how) l).map inc))) := by
  refine acalls_gives ?_
  refine enter Try.func46 rfl rfl rfl rfl ?_
  have k1 := q_insN nl full rs hr how hs hw hl
  by_cases h20 : l.length = 20
  · rw [h20] at k1 ⊢
    have k2 := q_insN0 (σ := σ.set w (.row 2 32 ((sorts (lessX (stR rs) how) l).map inc))) (w := w) (n := 20) 20 20 (cmpf nl full rs how) (by omega) (by omega) (by omega)
    repeat' (first|(first|(refine jl ?_;first|refine j1 ?_|refine j4 ?_)|(refine jc ?_;first|refine c1 ?_|refine c2 ?_|refine c5 ?_)))
    refine cj_for (fun b : Bool => True) (fun b => [(7, .v (.int .i64 (if b then 20 else 0))), (8, .v (.int .i64 (if b then 40 else 20)))]) (fun b => if b then σ.set w (.row 2 32 ((sorts (lessX (stR rs) how) l).map inc)) else σ) (fun b => if b then 0 else 1) false trivial ⟨⟨_, rfl, fun _ _ h => h⟩, ⟨_, rfl, fun _ _ h => h⟩, trivial⟩ (St.le_refl _) (fun b _ => ?_)
    cases b
    · simp only [Bool.false_eq_true, if_false]
      repeat' (first|(first|(refine jl ?_;first|refine j1 ?_|refine j4 ?_|refine j6 ?_|refine lj_to rfl rfl rfl k1 ?_)|(refine jc ?_;first|refine c1 ?_|refine c2 ?_|refine c5 ?_|refine c6 ?_)|refine n1 ?_|refine n10 ?_)|(refine c9 (fun h=>?_) (fun h=>?_)<;>((try simp only [Bool.or_eq_true, Bool.and_eq_true, Bool.or_eq_false_iff, Bool.and_eq_false_iff, Bool.not_eq_true', Bool.not_eq_false', decide_eq_true_eq, decide_eq_false_iff_not, Bool.false_eq_true, Bool.true_eq_false, reduceCtorEq] at h) <;> (try simp (disch := omega) only [sb_bt, w64, Int.reduceAdd, Int.reduceToNat, Int.toNat_natCast, not_true_eq_false, false_or] at h) <;> (try (exfalso; omega)))))
      exact nx_forS true trivial (by decide) ⟨⟨_, rfl, fun _ _ h => h⟩, ⟨_, rfl, Wk.of_eq (by rfl)⟩, trivial⟩ (St.le_refl _)
    · simp only [if_true]
      repeat' (first|(first|(refine jl ?_;first|refine j1 ?_|refine j4 ?_|refine lj_to rfl rfl rfl k2 ?_)|(refine jc ?_;first|refine c1 ?_|refine c2 ?_|refine c5 ?_|refine c8 ?_)|refine n1 ?_|refine n3 ?_|refine n7 ?_|refine n8 ?_)|(refine c9 (fun h=>?_) (fun h=>?_)<;>((try simp only [Bool.or_eq_true, Bool.and_eq_true, Bool.or_eq_false_iff, Bool.and_eq_false_iff, Bool.not_eq_true', Bool.not_eq_false', decide_eq_true_eq, decide_eq_false_iff_not, Bool.false_eq_true, Bool.true_eq_false, reduceCtorEq] at h) <;> (try simp (disch := omega) only [sb_bt, w64, Int.reduceAdd, Int.reduceToNat, Int.toNat_natCast, not_true_eq_false, false_or] at h) <;> (try (exfalso; omega)))))
      refine cj_for (fun _ : Unit => True) (fun _ => [(6, .v (.int .i64 20))]) (fun _ => _) (fun _ => 0) () trivial ⟨⟨_, rfl, fun _ _ h => h⟩, trivial⟩ (St.le_refl _) (fun _ _ => ?_)
      repeat' (first|(first|(refine jl ?_;first|refine j1 ?_|refine j4 ?_)|(refine jc ?_;first|refine c1 ?_|refine c2 ?_|refine c8 ?_)|refine n3 ?_|refine n7 ?_|refine n8 ?_|refine n12 ?_)|(refine c9 (fun h=>?_) (fun h=>?_)<;>((try simp only [Bool.or_eq_true, Bool.and_eq_true, Bool.or_eq_false_iff, Bool.and_eq_false_iff, Bool.not_eq_true', Bool.not_eq_false', decide_eq_true_eq, decide_eq_false_iff_not, Bool.false_eq_true, Bool.true_eq_false, reduceCtorEq] at h) <;> (try simp (disch := omega) only [sb_bt, w64, Int.reduceAdd, Int.reduceToNat, Int.toNat_natCast, not_true_eq_false, false_or] at h) <;> (try (exfalso; omega)))))
      exact gives (St.le_refl _) (Fin.refl _ _ _)
  · repeat' (first|(first|(refine jl ?_;first|refine j1 ?_|refine j4 ?_)|(refine jc ?_;first|refine c1 ?_|refine c2 ?_|refine c5 ?_)))
    refine cj_for (fun _ : Unit => True) (fun b => [(7, .v (.int .i64 0)), (8, .v (.int .i64 20))]) (fun _ => σ) (fun _ => 0) () trivial ⟨⟨_, rfl, fun _ _ h => h⟩, ⟨_, rfl, fun _ _ h => h⟩, trivial⟩ (St.le_refl _) (fun _ _ => ?_)
    repeat' (first|(first|(refine jl ?_;first|refine j1 ?_|refine j4 ?_|refine lj_to rfl rfl rfl k1 ?_)|(refine jc ?_;first|refine c1 ?_|refine c2 ?_|refine c5 ?_|refine c8 ?_)|refine n1 ?_|refine n3 ?_|refine n7 ?_|refine n8 ?_)|(refine c9 (fun h=>?_) (fun h=>?_)<;>((try simp only [Bool.or_eq_true, Bool.and_eq_true, Bool.or_eq_false_iff, Bool.and_eq_false_iff, Bool.not_eq_true', Bool.not_eq_false', decide_eq_true_eq, decide_eq_false_iff_not, Bool.false_eq_true, Bool.true_eq_false, reduceCtorEq] at h) <;> (try simp (disch := omega) only [sb_bt, w64, Int.reduceAdd, Int.reduceToNat, Int.toNat_natCast, not_true_eq_false, false_or] at h) <;> (try (exfalso; omega)))))
    refine cj_for (fun _ : Unit => True) (fun _ => [(6, .v (.int .i64 20))]) (fun _ => _) (fun _ => 0) () trivial ⟨⟨_, rfl, fun _ _ h => h⟩, trivial⟩ (St.le_refl _) (fun _ _ => ?_)
    repeat' (first|(first|(refine jl ?_;first|refine j1 ?_|refine j4 ?_)|(refine jc ?_;first|refine c1 ?_|refine c2 ?_|refine c8 ?_)|refine n3 ?_|refine n7 ?_|refine n8 ?_|refine n12 ?_)|(refine c9 (fun h=>?_) (fun h=>?_)<;>((try simp only [Bool.or_eq_true, Bool.and_eq_true, Bool.or_eq_false_iff, Bool.and_eq_false_iff, Bool.not_eq_true', Bool.not_eq_false', decide_eq_true_eq, decide_eq_false_iff_not, Bool.false_eq_true, Bool.true_eq_false, reduceCtorEq] at h) <;> (try simp (disch := omega) only [sb_bt, w64, Int.reduceAdd, Int.reduceToNat, Int.toNat_natCast, not_true_eq_false, false_or] at h) <;> (try (exfalso; omega)))))
    exact gives (St.le_refl _) (Fin.refl _ _ _)
theorem q_sortst {σ : St} {w : Nat} {l : List Ins} (nl : Option Bool) (full : Bool) (rs : List Rul) (hr : ∀ r ∈ rs, okR r) (how : Int) (hs : shortI l) (hw : σ w = some (.row 2 32 (l.map inc))) (hl : l.length ≤ 20) : ACalls Try.prog 31 [.osl w 2 0 l.length, cmpf nl full rs how] σ (fun e σ' => e = .ret (.tup []) ∧ σ' = σ.set w (.row 2 32 ((sorts (lessX (stR rs) how) l).map inc))) := by
  refine acalls_gives ?_
  refine enter Try.func31 rfl rfl rfl rfl ?_
  have k1 := q_stable nl full rs hr how hs hw hl
  repeat' (first|(first|(refine jl ?_;first|refine j1 ?_|refine j6 ?_|refine lj_to rfl rfl rfl k1 ?_)|(refine jc ?_;first|refine c2 ?_)|refine n12 ?_))
  exact gives (St.le_refl _) (Fin.refl _ _ _)
theorem q_cloneN (nl : Option Bool) (full : Bool) (l : List Ins) (hl : l.length ≤ 65536) (σ : St) : ACalls Try.prog 30 [.sl nl full 2 (l.map inc)] σ (fun e σ' => ∃ id, σ id = none ∧ e = .ret (.osl id 2 0 l.length) ∧ σ' = σ.set id (.row 2 32 (l.map inc))) := by
  refine enter Try.func30 rfl rfl rfl rfl ?_
  have hn : (l.map inc).length = l.length := List.length_map ..
  repeat (first|(refine jl ?_;first|refine j1 ?_|refine j4 ?_)|(refine jc ?_;first|refine c1 ?_|refine c2 ?_))
  refine lj_v_any rfl (fun R hR => opj_isnil_sl rfl rfl rfl rfl hR) (fun b hb => ?_)
  cases b
  · repeat (first|(refine jl ?_;first|refine j4 ?_)|(refine jc ?_;first|refine c1 ?_|refine c2 ?_|refine c4 ?_|refine c6 ?_)|refine n1 ?_)
    refine jlito (fun a ha => ?_)
    repeat (first|(refine jl ?_;first|refine j1 ?_))
    refine japo (id := a) (els := []) (n := 0) (m := l.length) (news := l.map inc) (all := l.map inc) (fun w' hw' => ?_) rfl (by omega) (hn := Nat.zero_le _) (hb := by omega)
    rw [St.del_set ha]
    repeat (first|(refine jl ?_;first|refine j1 ?_|refine j4 ?_)|(refine jc ?_;first|refine c7 ?_)|refine n11 ?_)
    exact ⟨w', St.ns1 hw', rfl, rfl⟩
  · have h0 : l = [] := List.map_eq_nil_iff.1 (hb rfl)
    subst h0
    (first|(refine jl ?_;first|refine j4 ?_))
    (first|(refine jc ?_;first|refine c3 ?_))
    (first|(refine jc ?_;first|refine c1 ?_))
    (first|(refine jc ?_;first|refine c2 ?_))
    (first|(refine jl ?_;first|refine j1 ?_))
    (first|(refine jl ?_;first|refine j4 ?_))
    refine cj_ghost (ghost_nil (t := 2) 2 32 rfl (fun w hw => ?_))
    repeat (first|(refine jc ?_;first|refine c7 ?_)|refine n2 ?_|refine n11 ?_)
    exact ⟨w, hw, rfl, rfl⟩
theorem p_sort (nl nl2 : Option Bool) (full full2 : Bool) (rs : List Rul) (hr : ∀ r ∈ rs, okR r) (how : Int) (l : List Ins) (hs : shortI l) (hl : l.length ≤ 20) : Pure Try.prog 12 [.sl nl full 3 (rs.map ruc), .v (.int .u8 how), .sl nl2 full2 2 (l.map inc)] (.sl none false 2 ((sorts (lessX (stR rs) how) l).map inc)) := by
  refine enterW Try.func12 rfl rfl rfl rfl (fun σ => ?_)
  have hq := (sorts_perm (lessX (stR rs) how) l).length_eq
  repeat (first|(refine jl ?_;first|refine j1 ?_|refine j4 ?_)|(refine jc ?_;first|refine c1 ?_|refine c2 ?_))
  refine lj_calls rfl rfl rfl (q_cloneN nl2 full2 l (by omega) _) (fun r σ' hr => ?_) (by rintro x σ' ⟨_, _, h, _⟩; cases h)
  obtain ⟨w, hw, hr1, hr2⟩ := hr
  cases hr1
  subst hr2
  have q1 := q_sortst (σ := σ.set w (.row 2 32 (l.map inc))) nl full rs (by assumption) how hs (St.set_same _ _ _) hl
  rw [St.set_set] at q1
  repeat' (first|(first|(refine jl ?_;first|refine jb ?_|refine j1 ?_|refine j4 ?_|refine jbfn ?_|refine lj_to rfl rfl rfl q1 ?_)|(refine jc ?_;first|refine c1 ?_|refine c2 ?_|refine c7 ?_)|refine n11 ?_))
  have hm : ((sorts (lessX (stR rs) how) l).map inc).length = l.length := by rw [List.length_map, hq]
  exact gvs (by (repeat' (first | exact finl_nil | apply finl_cons | exact Fin.refl _ _ _ | apply fin_pk2 | apply fin_pk3 | apply fin_agg | apply fin_tup | exact fin_nil | exact fin_sl rfl | exact fin_fz (by exact lkp) (by first | assumption | exact St.ns1 (by assumption) | exact St.ns2 (by assumption) | exact St.ns3 (by assumption) | exact St.ns4 (by assumption) | exact St.ns5 (by assumption) | exact St.ns6 (by assumption) | exact St.ns7 (by assumption) | exact St.ns8 (by assumption) | exact St.ns9 (by assumption) | exact St.ns10 (by assumption) | exact St.ns11 (by assumption) | exact St.ns12 (by assumption) | exact St.ns13 (by assumption) | exact St.ns14 (by assumption) | exact St.ns10 (by assumption) | exact St.ns11 (by assumption) | exact St.ns12 (by assumption) | exact St.ns13 (by assumption) | exact St.ns14 (by assumption)) (by first | exact rfl | assumption | (simp only [List.length_map, List.length_append, List.length_cons, List.length_nil]; done) | (simp only [List.length_map, List.length_append, List.length_cons, List.length_nil]; omega)) rfl (fun _ => rfl) | exact fin_eq rfl))) (St.le_any (St.le_refl _))
end Go.Proofs.Ytbpoeggmpjepfaa.Ab

/- Orders: the first one; the document's sorting and choosing. -/
set_option linter.unusedVariables false
set_option linter.unusedSimpArgs false
set_option maxRecDepth 20000
namespace Go.Proofs.Ytbpoeggmpjepfaa.Ab
open Go
attribute [local irreducible] thn inb endR CJ LJ OpJ DJ DA DB AllocK
set_option maxHeartbeats 2000000 in
theorem p_minf (nl nl2 : Option Bool) (full full2 : Bool) (rs : List Rul) (hr : ∀ r ∈ rs, okR r) (how : Int) (x : Ins) (l : List Ins) (hs : shortI (x :: l)) (hl : l.length ≤ 1000) : Pure Try.prog 39 [.sl nl2 full2 2 ((x :: l).map inc), cmpf nl full rs how] (.agg (inc (minB (lessX (stR rs) how) x l))) := by
  refine enterW Try.func39 rfl rfl rfl rfl (fun σ => ?_)
  have hn : ((x :: l).map inc).length = l.length + 1 := List.length_map ..
  have hx0 : ((x :: l).map inc)[(0 : Int).toNat]? = some (inc x) := rfl
  repeat' (first|(first|(refine jl ?_;first|refine jbl ?_|refine j1 ?_|refine j4 ?_|refine j13 (fun id hid=>?_)|refine j17t ?_|refine ji1 ?_)|(refine jc ?_;first|refine c1 ?_|refine c2 ?_|refine c5 ?_|refine c6 ?_)|refine n1 ?_)|(refine c9 (fun h=>?_) (fun h=>?_)<;>((try simp only [Bool.or_eq_true, Bool.and_eq_true, Bool.or_eq_false_iff, Bool.and_eq_false_iff, Bool.not_eq_true', Bool.not_eq_false', decide_eq_true_eq, decide_eq_false_iff_not, Bool.false_eq_true, Bool.true_eq_false, reduceCtorEq] at h) <;> (try simp (disch := omega) only [sb_bt, w64, Int.reduceAdd, Int.reduceToNat, Int.toNat_natCast, not_true_eq_false, false_or] at h) <;> (try (exfalso; omega)))))
  first | refine cj_id 4 (fun b0 e => ?_) | refine lj_id 4 (fun b0 e => ?_)
  subst e
  first | refine cj_id 5 (fun b e => ?_) | refine lj_id 5 (fun b e => ?_)
  subst e
  refine cj_for (fun s : Nat × Ins => s.1 ≤ l.length ∧ s.2.tags.length ≤ 12 ∧ minB (lessX (stR rs) how) s.2 (l.drop s.1) = minB (lessX (stR rs) how) x l) (fun s => [(6, .v (.int .i64 ((s.1 + 1 : Nat) : Int)))]) (fun s => (σ.set b0 (.row 2 32 [[.v (.int .i64 0), .sl (some true) true 1 []]])).set b (.row 2 32 [inc s.2])) (fun s => l.length - s.1) (0, x) ⟨Nat.zero_le _, hs x (List.mem_cons_self ..), rfl⟩ ⟨⟨_, rfl, fun _ _ h => h⟩, trivial⟩ (St.le_refl _) (fun s hs2 => ?_)
  obtain ⟨i, m⟩ := s
  dsimp only at hs2 ⊢
  obtain ⟨h1, h2, h3⟩ := hs2
  rcases hd : l.drop i with _ | ⟨y, r⟩
  · have z1 := dropn hd
    rw [hd, minB] at h3
    repeat' (first|(first|(refine jl ?_;first|refine j1 ?_|refine j4 ?_|refine j14 ?_|refine j17 ?_)|(refine jc ?_;first|refine c1 ?_|refine c2 ?_|refine c7 ?_|refine c8 ?_)|refine n1 ?_|refine n3 ?_|refine n7 ?_|refine n8 ?_|refine n14 ?_)|(refine c9 (fun h=>?_) (fun h=>?_)<;>((try simp only [Bool.or_eq_true, Bool.and_eq_true, Bool.or_eq_false_iff, Bool.and_eq_false_iff, Bool.not_eq_true', Bool.not_eq_false', decide_eq_true_eq, decide_eq_false_iff_not, Bool.false_eq_true, Bool.true_eq_false, reduceCtorEq] at h) <;> (try simp (disch := omega) only [sb_bt, w64, Int.reduceAdd, Int.reduceToNat, Int.toNat_natCast, not_true_eq_false, false_or] at h) <;> (try (exfalso; omega)))))
    rw [← h3]
    exact gives (by repeat' (first | exact St.le_refl _ | refine St.le_any ?_)) (Fin.refl _ _ _)
  · obtain ⟨u1, u2, u3⟩ := dropc hd
    have u4 : ((x :: l).map inc)[((i + 1 : Nat) : Int).toNat]? = some (inc y) := by
      rw [Int.toNat_natCast]
      show (inc x :: l.map inc)[i + 1]? = _
      rw [List.getElem?_cons_succ]
      have := get_map inc u3
      rwa [Int.toNat_natCast] at this
    have hy := hs y (List.mem_cons_of_mem _ (List.mem_of_getElem? u3))
    rw [hd, minB] at h3
    have k1 := p_ocmp nl full rs hr how y m hy h2
    repeat' (first|(first|(refine jl ?_;first|refine jbl ?_|refine j1 ?_|refine j4 ?_|refine j6 ?_|refine j17t ?_|refine ji1 ?_)|(refine yl ?_;first|refine y7 ?_|refine y8 ?_|refine y10 ?_|refine y11 ?_|refine ybd ?_|refine ybl ?_|refine y1 ?_|refine y2 ?_|refine y3 ?_|refine y3f ?_|refine y9 ?_|refine y14 ?_|refine y15 ?_|refine y16 ?_|refine y17 ?_|refine y18 ?_|refine y21 ?_|refine y25 ?_|refine yi1 ?_|refine yi2 ?_|refine yi3 ?_|refine yi4 ?_|refine yi4q ?_|refine yi6 ?_|refine ylit ?_|refine yclb (hp := k1) ?_|refine ynil ?_)|(refine jc ?_;first|refine c1 ?_|refine c2 ?_|refine c5 ?_|refine c6 ?_|refine cqy [] [0, 1, 2, 3, 4, 5, 6, 7] ?_)|refine n1 ?_|refine n10 ?_)|(refine c9 (fun h=>?_) (fun h=>?_)<;>((try simp only [Bool.or_eq_true, Bool.and_eq_true, Bool.or_eq_false_iff, Bool.and_eq_false_iff, Bool.not_eq_true', Bool.not_eq_false', decide_eq_true_eq, decide_eq_false_iff_not, Bool.false_eq_true, Bool.true_eq_false, reduceCtorEq] at h) <;> (try simp (disch := omega) only [sb_bt, w64, Int.reduceAdd, Int.reduceToNat, Int.toNat_natCast, not_true_eq_false, false_or] at h) <;> (try (exfalso; omega)))))
    · rw [if_pos (show lessX (stR rs) how y m = true from decide_eq_true h), ← u2] at h3
      exact nx_forS (i + 1, y) ⟨by dsimp only; omega, hy, h3⟩ (by dsimp only; omega) ⟨⟨_, rfl, wk1 (by omega)⟩, trivial⟩ (St.le_refl _)
    · rw [if_neg (show ¬ lessX (stR rs) how y m = true from by unfold lessX; rw [decide_eq_false h]; simp), ← u2] at h3
      exact nx_forS (i + 1, m) ⟨by dsimp only; omega, h2, h3⟩ (by dsimp only; omega) ⟨⟨_, rfl, wk1 (by omega)⟩, trivial⟩ (St.le_refl _)
/-- What of entries is left. -/
structure Ent where
  x : Ins
  fired : Bool
abbrev enc (e : Ent) : List AV := [.v (.int .i64 e.x.rule), .sl none false 1 (e.x.tags.map int1), .v (.bool e.fired)]
def leftE (l : List Ent) : List Ins := (l.filter (fun e => !e.fired)).map Ent.x
theorem leftE_cons (e : Ent) (l : List Ent) : leftE (e :: l) = if e.fired then leftE l else e.x :: leftE l := by
  unfold leftE
  rw [List.filter_cons]
  cases e.fired <;> rfl
theorem leftE_len (l : List Ent) : (leftE l).length ≤ l.length := by
  unfold leftE
  rw [List.length_map]
  exact List.length_filter_le _ _
def selX (lt : Ins → Ins → Bool) : List Ins → Ins × Bool
  | [] => (⟨0, []⟩, false)
  | x :: l => (minB lt x l, true)
set_option maxHeartbeats 2000000 in
theorem p_select (nl nl2 : Option Bool) (full full2 : Bool) (rs : List Rul) (hr : ∀ r ∈ rs, okR r) (how : Int) (l : List Ent) (hs : ∀ e ∈ l, e.x.tags.length ≤ 12) (hl : l.length ≤ 100) : Pure Try.prog 19 [.sl nl full 3 (rs.map ruc), .v (.int .u8 how), .sl nl2 full2 3 (l.map enc)] (.tup [.agg (inc (selX (lessX (stR rs) how) (leftE l)).1), .v (.bool (selX (lessX (stR rs) how) (leftE l)).2)]) := by
  refine enterW Try.func19 rfl rfl rfl rfl (fun σ => ?_)
  have hn : (l.map enc).length = l.length := List.length_map ..
  repeat' (first|(first|(refine jl ?_;first|refine j1 ?_|refine j4 ?_|refine j13 (fun id hid=>?_))|(refine jc ?_;first|refine c1 ?_|refine c2 ?_|refine c5 ?_)))
  first | refine cj_id 6 (fun b e => ?_) | refine lj_id 6 (fun b e => ?_)
  subst e
  refine cj_ghost (ghost_nil (t := 8) 2 32 rfl (fun w0 hw0 => ?_))
  have hb : σ b = none := hid
  refine cj_for (fun s : Nat × Nat × List Ins => s.1 ≤ l.length ∧ (σ.set b (.row 2 32 [[.v (.int .i64 0), .sl (some true) true 1 []]])) s.2.1 = none ∧ s.2.2 ++ leftE (l.drop s.1) = leftE l ∧ s.2.2.length ≤ s.1) (fun s => [(13, .v (.int .i64 s.1)), (8, .osl s.2.1 2 0 s.2.2.length)]) (fun s => (σ.set b (.row 2 32 [[.v (.int .i64 0), .sl (some true) true 1 []]])).set s.2.1 (.row 2 32 (s.2.2.map inc))) (fun s => l.length - s.1) (0, w0, []) ⟨Nat.zero_le _, hw0, rfl, Nat.le_refl _⟩ ⟨⟨_, rfl, fun _ _ h => h⟩, ⟨_, rfl, fun _ _ h => h⟩, trivial⟩ (St.le_refl _) (fun s hs2 => ?_)
  obtain ⟨i, w, out⟩ := s
  dsimp only at hs2 ⊢
  obtain ⟨h1, h2, h3, h4⟩ := hs2
  have hno : (out.map inc).length = out.length := List.length_map ..
  rcases hd : l.drop i with _ | ⟨e, r⟩
  · have z1 := dropn hd
    rw [hd] at h3
    obtain rfl : out = leftE l := by rw [← h3]; exact (List.append_nil _).symm
    refine cj_freeze 8 (els := (leftE l).map inc) rfl (St.set_same _ _ _) hno.symm (by decide) ?_
    rw [St.del_set h2]
    have hsl : shortI (leftE l) := fun x hx => by
      unfold leftE at hx
      obtain ⟨e, he, rfl⟩ := List.mem_map.1 hx
      exact hs e (List.mem_filter.1 he).1
    have hll := leftE_len l
    rcases hq : leftE l with _ | ⟨x, m⟩
    · have h0 : ([] : List Ins).length = 0 := rfl
      repeat' (first|(first|(refine jl ?_;first|refine jb ?_|refine j1 ?_|refine j4 ?_|refine j17t ?_)|(refine jc ?_;first|refine c1 ?_|refine c2 ?_|refine c6 ?_|refine c7 ?_|refine c8 ?_)|refine n1 ?_|refine n2 ?_|refine n3 ?_|refine n7 ?_|refine n8 ?_|refine n15 ?_)|(refine c9 (fun h=>?_) (fun h=>?_)<;>((try simp only [Bool.or_eq_true, Bool.and_eq_true, Bool.or_eq_false_iff, Bool.and_eq_false_iff, Bool.not_eq_true', Bool.not_eq_false', decide_eq_true_eq, decide_eq_false_iff_not, Bool.false_eq_true, Bool.true_eq_false, reduceCtorEq] at h) <;> (try simp (disch := omega) only [sb_bt, w64, Int.reduceAdd, Int.reduceToNat, Int.toNat_natCast, not_true_eq_false, false_or] at h) <;> (try (exfalso; omega)))))
      all_goals first
        | exact gives (by repeat' (first | exact St.le_refl _ | refine St.le_any ?_)) (fin_two (.wk (Wk.agg ⟨fun _ _ h => h, Wk.sl _ _ _ _, trivial⟩)) (Fin.refl _ _ _))
        | exact absurd rfl h
    · rw [hq] at hsl hll hno
      have k1 := p_minf nl none full false rs hr how x m hsl (by rw [List.length_cons] at hll; omega)
      have h0 : (x :: m).length = m.length + 1 := rfl
      repeat' (first|(first|(refine jl ?_;first|refine jb ?_|refine j1 ?_|refine j4 ?_|refine j17t ?_|refine jbfn ?_|refine jp (k1) ?_)|(refine jc ?_;first|refine c1 ?_|refine c2 ?_|refine c6 ?_|refine c7 ?_|refine c8 ?_)|refine n1 ?_|refine n3 ?_|refine n7 ?_|refine n8 ?_|refine n15 ?_)|(refine c9 (fun h=>?_) (fun h=>?_)<;>((try simp only [Bool.or_eq_true, Bool.and_eq_true, Bool.or_eq_false_iff, Bool.and_eq_false_iff, Bool.not_eq_true', Bool.not_eq_false', decide_eq_true_eq, decide_eq_false_iff_not, Bool.false_eq_true, Bool.true_eq_false, reduceCtorEq] at h) <;> (try simp (disch := omega) only [sb_bt, w64, Int.reduceAdd, Int.reduceToNat, Int.toNat_natCast, not_true_eq_false, false_or] at h) <;> (try (exfalso; omega)))))
      exact gives (by repeat' (first | exact St.le_refl _ | refine St.le_any ?_)) (Fin.refl _ _ _)
  · obtain ⟨u1, u2, u3⟩ := dropc hd
    have u4 := get_map enc u3
    obtain ⟨⟨er, et⟩, ef⟩ := e
    rw [hd, leftE_cons, ← u2] at h3
    dsimp only at h3
    cases ef with
    | true =>
      repeat' (first|(first|(refine jl ?_;first|refine jbl ?_|refine j1 ?_|refine j4 ?_|refine j6 ?_|refine j13 (fun id hid=>?_)|refine j14 ?_|refine j17t ?_|refine ji1 ?_)|(refine jc ?_;first|refine c1 ?_|refine c2 ?_|refine c5 ?_|refine c6 ?_)|refine n1 ?_|refine n10 ?_)|(refine c9 (fun h=>?_) (fun h=>?_)<;>((try simp only [Bool.or_eq_true, Bool.and_eq_true, Bool.or_eq_false_iff, Bool.and_eq_false_iff, Bool.not_eq_true', Bool.not_eq_false', decide_eq_true_eq, decide_eq_false_iff_not, Bool.false_eq_true, Bool.true_eq_false, reduceCtorEq] at h) <;> (try simp (disch := omega) only [sb_bt, w64, Int.reduceAdd, Int.reduceToNat, Int.toNat_natCast, not_true_eq_false, false_or] at h) <;> (try (exfalso; omega)))))
      exact nx_forS (i + 1, w, out) ⟨by dsimp only; omega, h2, h3, by dsimp only; omega⟩ (by dsimp only; omega) ⟨⟨_, rfl, wk1 (by omega)⟩, ⟨_, rfl, fun _ _ h => h⟩, trivial⟩ (St.le_any (St.le_refl _))
    | false =>
      have ha : (out.map inc).take out.length ++ [inc ⟨er, et⟩] = (out ++ [(⟨er, et⟩ : Ins)]).map inc := by rw [List.take_of_length_le (by omega), List.map_append]; rfl
      repeat' (first|(first|(refine jl ?_;first|refine jbl ?_|refine j1 ?_|refine j4 ?_|refine j13 (fun id hid=>?_)|refine j14 ?_|refine j17t ?_|refine ji1 ?_|refine jlit ?_)|(refine jc ?_;first|refine c1 ?_|refine c2 ?_|refine c5 ?_|refine c6 ?_)|refine n1 ?_)|(refine c9 (fun h=>?_) (fun h=>?_)<;>((try simp only [Bool.or_eq_true, Bool.and_eq_true, Bool.or_eq_false_iff, Bool.and_eq_false_iff, Bool.not_eq_true', Bool.not_eq_false', decide_eq_true_eq, decide_eq_false_iff_not, Bool.false_eq_true, Bool.true_eq_false, reduceCtorEq] at h) <;> (try simp (disch := omega) only [sb_bt, w64, Int.reduceAdd, Int.reduceToNat, Int.toNat_natCast, not_true_eq_false, false_or] at h) <;> (try (exfalso; omega)))))
      refine japo (n := out.length) (m := out.length + 1) (news := [inc ⟨er, et⟩]) (fun w2 hw2 => ?_) ha rfl (hn := by omega) (hb := by dsimp only [List.length]; omega)
      have hw2' := St.ns2 hw2
      repeat (first|(refine jl ?_;first|refine j1 ?_|refine j6 ?_)|(refine jc ?_;first|refine c2 ?_)|refine n1 ?_|refine n10 ?_)
      refine nx_forS (i + 1, w2, out ++ [(⟨er, et⟩ : Ins)]) ⟨by dsimp only; omega, hw2', by dsimp only; rw [List.append_assoc]; exact h3, by dsimp only; rw [List.length_append, List.length_singleton]; omega⟩ (by dsimp only; omega) ⟨⟨_, rfl, wk1 (by omega)⟩, ⟨_, rfl, Wk.of_eq (by dsimp only; rw [List.length_append, List.length_singleton])⟩, trivial⟩ ?_
      exact St.le_set2 (St.leX_same (St.leX_del (St.leX_any (St.leX_any (St.leX_refl _ _) h2) (St.ns1 (by assumption))) h2)) (St.set_same _ _ _)
def selF (lt : Ins → Ins → Bool) : List Ent → Option Ins → Option Ins
  | [], b => b
  | e :: l, b => selF lt l (if e.fired then b else match b with
    | none => some e.x
    | some m => if lt e.x m then some e.x else some m)
theorem selF_cons (lt : Ins → Ins → Bool) (e : Ent) (l : List Ent) (b : Option Ins) : selF lt (e :: l) b = selF lt l (if e.fired then b else match b with
    | none => some e.x
    | some m => if lt e.x m then some e.x else some m) := rfl
theorem selF_some (lt : Ins → Ins → Bool) : ∀ (l : List Ent) (m : Ins), selF lt l (some m) = some (minB lt m (leftE l))
  | [], m => rfl
  | e :: l, m => by
    unfold selF
    rw [leftE_cons]
    cases e.fired with
    | true => exact selF_some lt l m
    | false =>
      show selF lt l (if lt e.x m then some e.x else some m) = some (minB lt (if lt e.x m then e.x else m) (leftE l))
      split
      · exact selF_some lt l _
      · exact selF_some lt l _
theorem selF_none (lt : Ins → Ins → Bool) : ∀ l : List Ent, selF lt l none = match leftE l with
    | [] => none
    | x :: m => some (minB lt x m)
  | [] => rfl
  | e :: l => by
    unfold selF
    rw [leftE_cons]
    cases e.fired with
    | true => exact selF_none lt l
    | false => exact selF_some lt l _
abbrev bestC : Option Ins → List AV
  | none => [.v (.int .i64 0), .sl (some true) true 1 []]
  | some x => inc x
set_option maxHeartbeats 2000000 in
theorem p_rselect (nl nl2 : Option Bool) (full full2 : Bool) (rs : List Rul) (hr : ∀ r ∈ rs, okR r) (how : Int) (l : List Ent) (hs : ∀ e ∈ l, e.x.tags.length ≤ 12) (hl : l.length ≤ 100) : Pure Try.prog 20 [.sl nl full 3 (rs.map ruc), .v (.int .u8 how), .sl nl2 full2 3 (l.map enc)] (.tup [.agg (inc (selX (lessX (stR rs) how) (leftE l)).1), .v (.bool (selX (lessX (stR rs) how) (leftE l)).2)]) := by
  refine enterW Try.func20 rfl rfl rfl rfl (fun σ => ?_)
  have hn : (l.map enc).length = l.length := List.length_map ..
  have he : lessR (stR rs) how = lessX (stR rs) how := by funext a b; exact lessR_eq _ _ _ _
  repeat' (first|(first|(refine jl ?_;first|refine jb ?_|refine j1 ?_|refine j4 ?_|refine j13 (fun id hid=>?_)|refine j17t ?_)|(refine jc ?_;first|refine c1 ?_|refine c2 ?_|refine c5 ?_)))
  first | refine cj_id 6 (fun b0 e => ?_) | refine lj_id 6 (fun b0 e => ?_)
  subst e
  first | refine cj_id 8 (fun b e => ?_) | refine lj_id 8 (fun b e => ?_)
  subst e
  refine cj_for (fun s : Nat × Option Ins => s.1 ≤ l.length ∧ (∀ x, s.2 = some x → x.tags.length ≤ 12) ∧ selF (lessX (stR rs) how) (l.drop s.1) s.2 = selF (lessX (stR rs) how) l none) (fun s => [(10, .v (.int .i64 s.1)), (9, .v (.bool s.2.isSome))]) (fun s => (σ.set b0 (.row 2 32 [[.v (.int .i64 0), .sl (some true) true 1 []]])).set b (.row 2 32 [bestC s.2])) (fun s => l.length - s.1) (0, none) ⟨Nat.zero_le _, (fun _ h => nomatch h), rfl⟩ ⟨⟨_, rfl, fun _ _ h => h⟩, ⟨_, rfl, fun _ _ h => h⟩, trivial⟩ (St.le_refl _) (fun s hs2 => ?_)
  obtain ⟨i, best⟩ := s
  dsimp only at hs2 ⊢
  obtain ⟨h1, h2, h3⟩ := hs2
  rcases hd : l.drop i with _ | ⟨e, r⟩
  · have z1 := dropn hd
    rw [hd, selF_none] at h3
    have hres : selX (lessX (stR rs) how) (leftE l) = (best.getD ⟨0, []⟩, best.isSome) := by
      have h4 : selF (lessX (stR rs) how) [] best = best := rfl
      rw [h4] at h3
      rw [h3]
      cases leftE l with
      | nil => rfl
      | cons x m => rfl
    rw [hres]
    cases best with
    | none =>
      repeat' (first|(first|(refine jl ?_;first|refine j1 ?_|refine j4 ?_|refine j14 ?_|refine j17 ?_)|(refine jc ?_;first|refine c1 ?_|refine c2 ?_|refine c7 ?_|refine c8 ?_)|refine n1 ?_|refine n3 ?_|refine n7 ?_|refine n8 ?_|refine n15 ?_)|(refine c9 (fun h=>?_) (fun h=>?_)<;>((try simp only [Bool.or_eq_true, Bool.and_eq_true, Bool.or_eq_false_iff, Bool.and_eq_false_iff, Bool.not_eq_true', Bool.not_eq_false', decide_eq_true_eq, decide_eq_false_iff_not, Bool.false_eq_true, Bool.true_eq_false, reduceCtorEq] at h) <;> (try simp (disch := omega) only [sb_bt, w64, Int.reduceAdd, Int.reduceToNat, Int.toNat_natCast, not_true_eq_false, false_or] at h) <;> (try (exfalso; omega)))))
      exact gives (by repeat' (first | exact St.le_refl _ | refine St.le_any ?_)) (fin_two (.wk (Wk.agg ⟨fun _ _ h => h, Wk.sl _ _ _ _, trivial⟩)) (Fin.refl _ _ _))
    | some m =>
      repeat' (first|(first|(refine jl ?_;first|refine j1 ?_|refine j4 ?_|refine j14 ?_|refine j17 ?_)|(refine jc ?_;first|refine c1 ?_|refine c2 ?_|refine c7 ?_|refine c8 ?_)|refine n1 ?_|refine n3 ?_|refine n7 ?_|refine n8 ?_|refine n15 ?_)|(refine c9 (fun h=>?_) (fun h=>?_)<;>((try simp only [Bool.or_eq_true, Bool.and_eq_true, Bool.or_eq_false_iff, Bool.and_eq_false_iff, Bool.not_eq_true', Bool.not_eq_false', decide_eq_true_eq, decide_eq_false_iff_not, Bool.false_eq_true, Bool.true_eq_false, reduceCtorEq] at h) <;> (try simp (disch := omega) only [sb_bt, w64, Int.reduceAdd, Int.reduceToNat, Int.toNat_natCast, not_true_eq_false, false_or] at h) <;> (try (exfalso; omega)))))
      exact gives (by repeat' (first | exact St.le_refl _ | refine St.le_any ?_)) (Fin.refl _ _ _)
  · obtain ⟨u1, u2, u3⟩ := dropc hd
    have u4 := get_map enc u3
    have hx := hs e (List.mem_of_getElem? u3)
    obtain ⟨⟨er, et⟩, ef⟩ := e
    rw [hd, selF_cons, ← u2] at h3
    dsimp only at h3 hx
    cases best with
    | none =>
      cases ef with
      | true =>
        repeat' (first|(first|(refine jl ?_;first|refine jbl ?_|refine j1 ?_|refine j4 ?_|refine j6 ?_|refine j17t ?_|refine ji1 ?_)|(refine dl ?_;first|refine d8 ?_|refine d10 ?_|refine dbl ?_|refine d1 ?_|refine d4 ?_|refine d9 ?_|refine d16 ?_|refine di1 ?_|refine di3 ?_|refine dff ?_)|(refine jc ?_;first|refine c1 ?_|refine c2 ?_|refine c5 ?_|refine c6 ?_|refine cq ?_)|refine n1 ?_|refine n10 ?_)|(refine c9 (fun h=>?_) (fun h=>?_)<;>((try simp only [Bool.or_eq_true, Bool.and_eq_true, Bool.or_eq_false_iff, Bool.and_eq_false_iff, Bool.not_eq_true', Bool.not_eq_false', decide_eq_true_eq, decide_eq_false_iff_not, Bool.false_eq_true, Bool.true_eq_false, reduceCtorEq] at h) <;> (try simp (disch := omega) only [sb_bt, w64, Int.reduceAdd, Int.reduceToNat, Int.toNat_natCast, not_true_eq_false, false_or] at h) <;> (try (exfalso; omega)))))
        all_goals first
          | exact nx_forS (i + 1, none) ⟨by dsimp only; omega, h2, h3⟩ (by dsimp only; omega) ⟨⟨_, rfl, wk1 (by omega)⟩, ⟨_, rfl, fun _ _ h => h⟩, trivial⟩ (St.le_refl _)
          | (exfalso; simp at h; done)
      | false =>
        repeat' (first|(first|(refine jl ?_;first|refine jbl ?_|refine j1 ?_|refine j4 ?_|refine j6 ?_|refine j17t ?_|refine ji1 ?_)|(refine dl ?_;first|refine d8 ?_|refine d10 ?_|refine dbl ?_|refine d1 ?_|refine d4 ?_|refine d9 ?_|refine d16 ?_|refine di1 ?_|refine di3 ?_|refine dff ?_)|(refine jc ?_;first|refine c1 ?_|refine c2 ?_|refine c5 ?_|refine c6 ?_|refine cq ?_)|refine n1 ?_|refine n10 ?_)|(refine c9 (fun h=>?_) (fun h=>?_)<;>((try simp only [Bool.or_eq_true, Bool.and_eq_true, Bool.or_eq_false_iff, Bool.and_eq_false_iff, Bool.not_eq_true', Bool.not_eq_false', decide_eq_true_eq, decide_eq_false_iff_not, Bool.false_eq_true, Bool.true_eq_false, reduceCtorEq] at h) <;> (try simp (disch := omega) only [sb_bt, w64, Int.reduceAdd, Int.reduceToNat, Int.toNat_natCast, not_true_eq_false, false_or] at h) <;> (try (exfalso; omega)))))
        all_goals first
          | exact nx_forS (i + 1, some ⟨er, et⟩) ⟨by dsimp only; omega, (fun x hx' => by cases hx'; exact hx), h3⟩ (by dsimp only; omega) ⟨⟨_, rfl, wk1 (by omega)⟩, ⟨_, rfl, fun _ _ h => h⟩, trivial⟩ (St.le_refl _)
          | (exfalso; simp at h; done)
    | some m =>
      have hm := h2 m rfl
      have k1 := p_rless nl full rs hr how ⟨er, et⟩ m hx hm
      rw [he] at k1
      cases ef with
      | true =>
        repeat' (first|(first|(refine jl ?_;first|refine jbl ?_|refine j1 ?_|refine j4 ?_|refine j6 ?_|refine j17t ?_|refine ji1 ?_)|(refine dl ?_;first|refine d8 ?_|refine d10 ?_|refine dbl ?_|refine d1 ?_|refine d4 ?_|refine d9 ?_|refine d16 ?_|refine di1 ?_|refine di3 ?_|refine dpq (hp:=fun hc=>k1) ?_)|(refine jc ?_;first|refine c1 ?_|refine c2 ?_|refine c5 ?_|refine c6 ?_|refine cq ?_)|refine n1 ?_|refine n10 ?_)|(refine c9 (fun h=>?_) (fun h=>?_)<;>((try simp only [Bool.or_eq_true, Bool.and_eq_true, Bool.or_eq_false_iff, Bool.and_eq_false_iff, Bool.not_eq_true', Bool.not_eq_false', decide_eq_true_eq, decide_eq_false_iff_not, Bool.false_eq_true, Bool.true_eq_false, reduceCtorEq] at h) <;> (try simp (disch := omega) only [sb_bt, w64, Int.reduceAdd, Int.reduceToNat, Int.toNat_natCast, not_true_eq_false, false_or] at h) <;> (try (exfalso; omega)))))
        all_goals first
          | exact nx_forS (i + 1, some m) ⟨by dsimp only; omega, h2, h3⟩ (by dsimp only; omega) ⟨⟨_, rfl, wk1 (by omega)⟩, ⟨_, rfl, fun _ _ h => h⟩, trivial⟩ (St.le_refl _)
          | (exfalso; simp at h; done)
      | false =>
        replace h3 : selF (lessX (stR rs) how) (l.drop (i + 1)) (if lessX (stR rs) how ⟨er, et⟩ m then some ⟨er, et⟩ else some m) = selF (lessX (stR rs) how) l none := h3
        cases hlt : lessX (stR rs) how ⟨er, et⟩ m with
        | true =>
          rw [hlt] at h3 k1
          repeat' (first|(first|(refine jl ?_;first|refine jbl ?_|refine j1 ?_|refine j4 ?_|refine j6 ?_|refine j17t ?_|refine ji1 ?_)|(refine dl ?_;first|refine d8 ?_|refine d10 ?_|refine dbl ?_|refine d1 ?_|refine d4 ?_|refine d9 ?_|refine d16 ?_|refine di1 ?_|refine di3 ?_|refine dpq (hp:=fun hc=>k1) ?_)|(refine jc ?_;first|refine c1 ?_|refine c2 ?_|refine c5 ?_|refine c6 ?_|refine cq ?_)|refine n1 ?_|refine n10 ?_)|(refine c9 (fun h=>?_) (fun h=>?_)<;>((try simp only [Bool.or_eq_true, Bool.and_eq_true, Bool.or_eq_false_iff, Bool.and_eq_false_iff, Bool.not_eq_true', Bool.not_eq_false', decide_eq_true_eq, decide_eq_false_iff_not, Bool.false_eq_true, Bool.true_eq_false, reduceCtorEq] at h) <;> (try simp (disch := omega) only [sb_bt, w64, Int.reduceAdd, Int.reduceToNat, Int.toNat_natCast, not_true_eq_false, false_or] at h) <;> (try (exfalso; omega)))))
          all_goals first
            | exact nx_forS (i + 1, some ⟨er, et⟩) ⟨by dsimp only; omega, (fun x hx' => by cases hx'; exact hx), h3⟩ (by dsimp only; omega) ⟨⟨_, rfl, wk1 (by omega)⟩, ⟨_, rfl, fun _ _ h => h⟩, trivial⟩ (St.le_refl _)
            | (exfalso; simp at h; done)
        | false =>
          rw [hlt] at h3 k1
          repeat' (first|(first|(refine jl ?_;first|refine jbl ?_|refine j1 ?_|refine j4 ?_|refine j6 ?_|refine j17t ?_|refine ji1 ?_)|(refine dl ?_;first|refine d8 ?_|refine d10 ?_|refine dbl ?_|refine d1 ?_|refine d4 ?_|refine d9 ?_|refine d16 ?_|refine di1 ?_|refine di3 ?_|refine dpq (hp:=fun hc=>k1) ?_)|(refine jc ?_;first|refine c1 ?_|refine c2 ?_|refine c5 ?_|refine c6 ?_|refine cq ?_)|refine n1 ?_|refine n10 ?_)|(refine c9 (fun h=>?_) (fun h=>?_)<;>((try simp only [Bool.or_eq_true, Bool.and_eq_true, Bool.or_eq_false_iff, Bool.and_eq_false_iff, Bool.not_eq_true', Bool.not_eq_false', decide_eq_true_eq, decide_eq_false_iff_not, Bool.false_eq_true, Bool.true_eq_false, reduceCtorEq] at h) <;> (try simp (disch := omega) only [sb_bt, w64, Int.reduceAdd, Int.reduceToNat, Int.toNat_natCast, not_true_eq_false, false_or] at h) <;> (try (exfalso; omega)))))
          all_goals first
            | exact nx_forS (i + 1, some m) ⟨by dsimp only; omega, h2, h3⟩ (by dsimp only; omega) ⟨⟨_, rfl, wk1 (by omega)⟩, ⟨_, rfl, fun _ _ h => h⟩, trivial⟩ (St.le_refl _)
            | (exfalso; simp at h; done)
end Go.Proofs.Ytbpoeggmpjepfaa.Ab

/- Orders: the document's sorting. -/
set_option linter.unusedVariables false
set_option linter.unusedSimpArgs false
set_option maxRecDepth 20000
namespace Go.Proofs.Ytbpoeggmpjepfaa.Ab
open Go
attribute [local irreducible] thn inb endR CJ LJ OpJ DJ DA DB AllocK
theorem insB_stop {α : Type} (lt : α → α → Bool) (x : α) {out : List α} {k : Nat} (h : insB lt x out.reverse = (out.drop k).reverse ++ insB lt x (out.take k).reverse) (hs : insB lt x (out.take k).reverse = x :: (out.take k).reverse) : (insB lt x out.reverse).reverse = out.take k ++ [x] ++ out.drop k := by
  rw [h, hs, List.reverse_append, List.reverse_cons, List.reverse_reverse, List.reverse_reverse]
theorem insB_go {α : Type} (lt : α → α → Bool) (x y : α) {out : List α} {k : Nat} (h : insB lt x out.reverse = (out.drop (k + 1)).reverse ++ insB lt x (out.take (k + 1)).reverse) (hy : out[k]? = some y) (hlt : lt x y = true) : insB lt x out.reverse = (out.drop k).reverse ++ insB lt x (out.take k).reverse := by
  have hk := (List.getElem?_eq_some_iff.1 hy).1
  rw [h, List.take_add_one, hy, Option.toList_some, List.reverse_append, List.reverse_singleton]
  show _ ++ (if lt x y then y :: insB lt x _ else _) = _
  rw [if_pos hlt, List.drop_eq_getElem_cons hk, (List.getElem?_eq_some_iff.1 hy).2, List.reverse_cons, List.append_assoc]
  rfl
theorem insB_no {α : Type} (lt : α → α → Bool) (x y : α) {out : List α} {k : Nat} (hy : out[k]? = some y) (hlt : lt x y = false) : insB lt x (out.take (k + 1)).reverse = x :: (out.take (k + 1)).reverse := by
  rw [List.take_add_one, hy, Option.toList_some, List.reverse_append, List.reverse_singleton]
  show (if lt x y then _ else _) = _
  rw [hlt]
  rfl
set_option maxHeartbeats 4000000 in
theorem p_rsort (nl nl2 : Option Bool) (full full2 : Bool) (rs : List Rul) (hr : ∀ r ∈ rs, okR r) (how : Int) (l : List Ins) (hs : shortI l) (hl : l.length ≤ 100) : Pure Try.prog 13 [.sl nl full 3 (rs.map ruc), .v (.int .u8 how), .sl nl2 full2 2 (l.map inc)] (.sl none false 2 ((sorts (lessX (stR rs) how) l).map inc)) := by
  refine enterW Try.func13 rfl rfl rfl rfl (fun σ => ?_)
  have hn : (l.map inc).length = l.length := List.length_map ..
  have he : lessR (stR rs) how = lessX (stR rs) how := by funext a b; exact lessR_eq _ _ _ _
  have hp0 := srtB_perm (lessX (stR rs) how) l []
  have hX : ∀ x y : Ins, x.tags.length ≤ 12 → y.tags.length ≤ 12 → Pure Try.prog 10 [.sl nl full 3 (rs.map ruc), .v (.int .u8 how), .agg (inc x), .agg (inc y)] (.v (.bool (lessX (stR rs) how x y))) := fun x y hx hy => by
    rw [← he]; exact p_rless nl full rs hr how x y hx hy
  unfold sorts
  generalize hlt0 : lessX (stR rs) how = lt at hX hp0 ⊢
  repeat' (first|(first|(refine jl ?_;first|refine j1 ?_|refine j4 ?_)|(refine jc ?_;first|refine c1 ?_|refine c2 ?_|refine c5 ?_)))
  refine cj_for (fun s : Nat × List Ins => s.1 ≤ l.length ∧ s.2.length ≤ s.1 ∧ srtB lt s.2.reverse (l.drop s.1) = srtB lt [] l ∧ shortI s.2) (fun s => [(8, .v (.int .i64 s.1)), (7, .sl none false 2 (s.2.map inc))]) (fun _ => σ) (fun s => l.length - s.1) (0, []) ⟨Nat.zero_le _, Nat.le_refl _, rfl, (fun _ h => absurd h (List.not_mem_nil))⟩ ⟨⟨_, rfl, fun _ _ h => h⟩, ⟨_, rfl, Wk.nilk 2⟩, trivial⟩ (St.le_refl _) (fun s hs2 => ?_)
  obtain ⟨i, out⟩ := s
  dsimp only at hs2 ⊢
  obtain ⟨h1, h2, h3, h4⟩ := hs2
  have hn2 : (out.map inc).length = out.length := List.length_map ..
  rcases hd : l.drop i with _ | ⟨x, r⟩
  · have z1 := dropn hd
    rw [hd] at h3
    have h5 : out = (srtB lt [] l).reverse := by rw [← h3]; exact (List.reverse_reverse _).symm
    rw [← h5]
    repeat' (first|(first|(refine jl ?_;first|refine j1 ?_|refine j4 ?_)|(refine jc ?_;first|refine c1 ?_|refine c2 ?_|refine c7 ?_|refine c8 ?_)|refine n1 ?_|refine n3 ?_|refine n7 ?_|refine n8 ?_|refine n11 ?_)|(refine c9 (fun h=>?_) (fun h=>?_)<;>((try simp only [Bool.or_eq_true, Bool.and_eq_true, Bool.or_eq_false_iff, Bool.and_eq_false_iff, Bool.not_eq_true', Bool.not_eq_false', decide_eq_true_eq, decide_eq_false_iff_not, Bool.false_eq_true, Bool.true_eq_false, reduceCtorEq] at h) <;> (try simp (disch := omega) only [sb_bt, w64, Int.reduceAdd, Int.reduceToNat, Int.toNat_natCast, not_true_eq_false, false_or] at h) <;> (try (exfalso; omega)))))
    exact gvs (by (repeat' (first | exact finl_nil | apply finl_cons | exact Fin.refl _ _ _ | apply fin_pk2 | apply fin_pk3 | apply fin_agg | apply fin_tup | exact fin_nil | exact fin_sl rfl | exact fin_fz (by exact lkp) (by first | assumption | exact St.ns1 (by assumption) | exact St.ns2 (by assumption) | exact St.ns3 (by assumption) | exact St.ns4 (by assumption) | exact St.ns5 (by assumption) | exact St.ns6 (by assumption) | exact St.ns7 (by assumption) | exact St.ns8 (by assumption) | exact St.ns9 (by assumption) | exact St.ns10 (by assumption) | exact St.ns11 (by assumption) | exact St.ns12 (by assumption) | exact St.ns13 (by assumption) | exact St.ns14 (by assumption) | exact St.ns10 (by assumption) | exact St.ns11 (by assumption) | exact St.ns12 (by assumption) | exact St.ns13 (by assumption) | exact St.ns14 (by assumption)) (by first | exact rfl | assumption | (simp only [List.length_map, List.length_append, List.length_cons, List.length_nil]; done) | (simp only [List.length_map, List.length_append, List.length_cons, List.length_nil]; omega)) rfl (fun _ => rfl) | exact fin_eq rfl))) (St.le_refl _)
  · obtain ⟨u1, u2, u3⟩ := dropc hd
    have u4 := get_map inc u3
    have hx := hs x (List.mem_of_getElem? u3)
    rw [hd] at h3
    have h3 : srtB lt (insB lt x out.reverse) (l.drop (i + 1)) = srtB lt [] l := by rw [u2]; exact h3
    repeat' (first|(first|(refine jl ?_;first|refine j1 ?_|refine j4 ?_)|(refine jc ?_;first|refine c1 ?_|refine c2 ?_|refine c5 ?_|refine c6 ?_)|refine n1 ?_)|(refine c9 (fun h=>?_) (fun h=>?_)<;>((try simp only [Bool.or_eq_true, Bool.and_eq_true, Bool.or_eq_false_iff, Bool.and_eq_false_iff, Bool.not_eq_true', Bool.not_eq_false', decide_eq_true_eq, decide_eq_false_iff_not, Bool.false_eq_true, Bool.true_eq_false, reduceCtorEq] at h) <;> (try simp (disch := omega) only [sb_bt, w64, Int.reduceAdd, Int.reduceToNat, Int.toNat_natCast, not_true_eq_false, false_or] at h) <;> (try (exfalso; omega)))))
    refine cj_for (fun k : Nat => k ≤ out.length ∧ insB lt x out.reverse = (out.drop k).reverse ++ insB lt x (out.take k).reverse) (fun k => [(9, .v (.int .i64 k))]) (fun _ => σ) (fun k => k) out.length ⟨Nat.le_refl _, by rw [List.drop_length, List.take_length]; rfl⟩ ⟨⟨_, rfl, Wk.of_eq (by rw [hn2])⟩, trivial⟩ (St.le_refl _) (fun k hk => ?_)
    obtain ⟨k1, k2⟩ := hk
    by_cases hgo : ∃ j y, k = j + 1 ∧ out[j]? = some y ∧ lt x y = true
    · obtain ⟨k, y, rfl, hy, hlt⟩ := hgo
      have v4 := get_map inc hy
      have hw : IntKind.i64.wrap (((k + 1 : Nat) : Int) - 1) = ((k : Nat) : Int) := by rw [w64 (by omega) (by omega)]; omega
      have v5 : (out.map inc)[(IntKind.i64.wrap (((k + 1 : Nat) : Int) - 1)).toNat]? = some (inc y) := by rw [hw]; exact v4
      have q1 := hX x y hx (h4 y (List.mem_of_getElem? hy))
      rw [hlt] at q1
      repeat' (first|(first|(refine jl ?_;first|refine j1 ?_|refine j4 ?_|refine j6 ?_)|(refine dl ?_;first|refine d8 ?_|refine d1 ?_|refine d4 ?_|refine d9 ?_|refine di3 ?_|refine dpq (hp:=fun hc=>q1) ?_)|(refine jc ?_;first|refine c1 ?_|refine c2 ?_|refine c5 ?_|refine c6 ?_|refine c8 ?_|refine cq ?_)|refine n1 ?_|refine n3 ?_|refine n7 ?_|refine n8 ?_|refine n10 ?_)|(refine c9 (fun h=>?_) (fun h=>?_)<;>((try simp only [Bool.or_eq_true, Bool.and_eq_true, Bool.or_eq_false_iff, Bool.and_eq_false_iff, Bool.not_eq_true', Bool.not_eq_false', decide_eq_true_eq, decide_eq_false_iff_not, Bool.false_eq_true, Bool.true_eq_false, reduceCtorEq] at h) <;> (try simp (disch := omega) only [sb_bt, w64, Int.reduceAdd, Int.reduceToNat, Int.toNat_natCast, not_true_eq_false, false_or] at h) <;> (try (exfalso; omega)))))
      all_goals first
        | exact nx_forS k ⟨by omega, insB_go lt x y k2 hy hlt⟩ (by omega) ⟨⟨_, rfl, Wk.of_eq (congrArg (fun v => AV.v (Value.int .i64 v)) hw)⟩, trivial⟩ (St.le_refl _)
        | (exfalso; simp at h; done)
        | (exfalso; simp at h; omega)
    · have hstop : insB lt x (out.take k).reverse = x :: (out.take k).reverse := by
        cases k with
        | zero => rfl
        | succ k =>
          obtain ⟨y, hy⟩ : ∃ y, out[k]? = some y := ⟨_, List.getElem?_eq_getElem (by omega)⟩
          refine insB_no lt x y hy ?_
          cases hlt : lt x y with
          | false => rfl
          | true => exact absurd ⟨k, y, rfl, hy, hlt⟩ hgo
      have hfin := insB_stop lt x k2 hstop
      have hc1 : ((out.map inc).take ((k : Nat) : Int).toNat).drop (0 : Int).toNat = (out.take k).map inc := by rw [Int.toNat_natCast, ← List.map_take]; rfl
      have hc2 : ((out.map inc).take (((out.map inc).length : Nat) : Int).toNat).drop ((k : Nat) : Int).toNat = (out.drop k).map inc := by rw [Int.toNat_natCast, Int.toNat_natCast, List.take_length, ← List.map_drop]
      have hm1 : ((out.take k).map inc).length = k := by rw [List.length_map, List.length_take]; omega
      have ha1 : ((out.take k).map inc).take k ++ [inc x] = (out.take k ++ [x]).map inc := by rw [List.take_of_length_le (by omega), List.map_append]; rfl
      have hd1 : ((out.drop k).map inc).length = out.length - k := by rw [List.length_map, List.length_drop]
      have hm2 : ((out.take k ++ [x]).map inc).length = k + 1 := by rw [List.length_map, List.length_append, List.length_take]; show min k out.length + 1 = _; omega
      have fin : ((out.take k ++ [x]).map inc).take (k + 1) ++ (out.drop k).map inc = ((insB lt x out.reverse).reverse).map inc := by
        rw [List.take_of_length_le (by omega), ← List.map_append, hfin]
      have hlen : ((insB lt x out.reverse).reverse).length = out.length + 1 := by
        rw [List.length_reverse, (insB_perm lt x out.reverse).length_eq, List.length_cons, List.length_reverse]
      have hlm : (((insB lt x out.reverse).reverse).map inc).length = out.length + 1 := by rw [List.length_map, hlen]
      have hsh : shortI (insB lt x out.reverse).reverse := fun z hz => by
        have := (insB_perm lt x out.reverse).mem_iff.1 (List.mem_reverse.1 hz)
        rcases List.mem_cons.1 this with rfl | hz
        · exact hx
        · exact h4 z (List.mem_reverse.1 hz)
      cases k with
      | zero =>
        have k00 : (0 : Nat) = 0 := rfl
        repeat' (first|(first|(refine jl ?_;first|refine j1 ?_|refine j4 ?_)|(refine dl ?_;first|refine d8 ?_|refine d1 ?_|refine d4 ?_|refine d9 ?_|refine di3 ?_|refine dff ?_)|(refine yl ?_;first|refine y7 ?_|refine y8 ?_|refine y10 ?_|refine y11 ?_|refine ybd ?_|refine ybl ?_|refine y1 ?_|refine y2 ?_|refine y3 ?_|refine y3f ?_|refine y9 ?_|refine y14 ?_|refine y15 ?_|refine y16 ?_|refine y17 ?_|refine y18 ?_|refine y21 ?_|refine y25 ?_|refine yi1 ?_|refine yi2 ?_|refine yi3 ?_|refine yi4 ?_|refine yi4q ?_|refine yi6 ?_|refine ylit ?_|refine ycf (b := 0) hc1 (by omega) (by omega) (by omega) ?_|refine ycf (k := (((out.map inc).length : Nat) : Int)) hc2 (by omega) (by omega) (by omega) ?_|refine yapg (m := 0) (fun w1 hw1 => ?_) hm1 (hb := by omega))|(refine jc ?_;first|refine c1 ?_|refine c2 ?_|refine cqy (id := 9) [4, 10, 14] [0, 1, 2, 3, 5, 6, 7, 8, 9, 11, 12, 13, 4, 10, 14, 15] ?_|refine c8 ?_|refine cq ?_)|refine n1 ?_|refine n3 ?_|refine n7 ?_|refine n8 ?_)|(refine c9 (fun h=>?_) (fun h=>?_)<;>((try simp only [Bool.or_eq_true, Bool.and_eq_true, Bool.or_eq_false_iff, Bool.and_eq_false_iff, Bool.not_eq_true', Bool.not_eq_false', decide_eq_true_eq, decide_eq_false_iff_not, Bool.false_eq_true, Bool.true_eq_false, reduceCtorEq] at h) <;> (try simp (disch := omega) only [sb_bt, w64, Int.reduceAdd, Int.reduceToNat, Int.toNat_natCast, not_true_eq_false, false_or] at h) <;> (try (exfalso; omega)))))
        all_goals try (exfalso; simp at h; done)
        refine yapo (els := (out.take 0).map inc) (n := 0) (news := [inc x]) (all := (out.take 0 ++ [x]).map inc) (m := 0 + 1) (fun w2 hw2 => ?_) ha1 rfl (hn := by omega) (hb := by dsimp only [List.length]; omega)
        have hw2' : σ w2 = none := St.ns1 hw2
        rw [St.del_set hw1]
        refine yapo (els := (out.take 0 ++ [x]).map inc) (n := 0 + 1) (news := (out.drop 0).map inc) (all := ((insB lt x out.reverse).reverse).map inc) (m := out.length + 1) (fun w3 hw3 => ?_) fin (by omega) (hn := by omega) (hb := by omega)
        have hw3' : σ w3 = none := St.ns1 hw3
        rw [St.del_set hw2']
        repeat (first|(refine yl ?_;first|refine y7 ?_|refine y8 ?_|refine y10 ?_|refine y11 ?_|refine ybd ?_|refine ybl ?_|refine y1 ?_|refine y2 ?_|refine y3 ?_|refine y3f ?_|refine y9 ?_|refine y14 ?_|refine y15 ?_|refine y16 ?_|refine y17 ?_|refine y18 ?_|refine y21 ?_|refine y25 ?_|refine yi1 ?_|refine yi2 ?_|refine yi3 ?_|refine yi4 ?_|refine yi4q ?_|refine yi6 ?_|refine ylit ?_))
        refine ynil ?_
        (first|refine n10 ?_)
        (first|refine n1 ?_)
        refine cj_freeze 7 (els := ((insB lt x out.reverse).reverse).map inc) rfl (St.set_same _ _ _) hlm.symm (by decide) ?_
        rw [St.del_set hw3']
        repeat (first|(refine jl ?_;first|refine j1 ?_|refine j6 ?_)|(refine jc ?_;first|refine c2 ?_))
        exact nx_forS (i + 1, (insB lt x out.reverse).reverse) ⟨by dsimp only; omega, by dsimp only; omega, by dsimp only; rw [List.reverse_reverse]; exact h3, hsh⟩ (by dsimp only; omega) ⟨⟨_, rfl, wk1 (by omega)⟩, ⟨_, rfl, fun _ _ h => h⟩, trivial⟩ (St.le_refl _)
      | succ k =>
        obtain ⟨y, hy⟩ : ∃ y, out[k]? = some y := ⟨_, List.getElem?_eq_getElem (by omega)⟩; have v4 := get_map inc hy; have hw : IntKind.i64.wrap (((k + 1 : Nat) : Int) - 1) = ((k : Nat) : Int) := (by rw [w64 (by omega) (by omega)]; omega); have v5 : (out.map inc)[(IntKind.i64.wrap (((k + 1 : Nat) : Int) - 1)).toNat]? = some (inc y) := (by rw [hw]; exact v4); have hlt : lt x y = false := (Bool.eq_false_iff.2 fun e => hgo ⟨k, y, rfl, hy, e⟩); have q1 := hX x y hx (h4 y (List.mem_of_getElem? hy)); rw [hlt] at q1
        repeat' (first|(first|(refine jl ?_;first|refine j1 ?_|refine j4 ?_|refine j6 ?_)|(refine dl ?_;first|refine d8 ?_|refine d1 ?_|refine d4 ?_|refine d9 ?_|refine di3 ?_|refine dpq (hp:=fun hc=>q1) ?_)|(refine yl ?_;first|refine y7 ?_|refine y8 ?_|refine y10 ?_|refine y11 ?_|refine ybd ?_|refine ybl ?_|refine y1 ?_|refine y2 ?_|refine y3 ?_|refine y3f ?_|refine y9 ?_|refine y14 ?_|refine y15 ?_|refine y16 ?_|refine y17 ?_|refine y18 ?_|refine y21 ?_|refine y25 ?_|refine yi1 ?_|refine yi2 ?_|refine yi3 ?_|refine yi4 ?_|refine yi4q ?_|refine yi6 ?_|refine ylit ?_|refine yp (q1) ?_|refine ypy (q1) ?_|refine ypq (hp:=fun hc=>q1) ?_|refine ycf (b := 0) hc1 (by omega) (by omega) (by omega) ?_|refine ycf (k := (((out.map inc).length : Nat) : Int)) hc2 (by omega) (by omega) (by omega) ?_|refine yapg (m := (k + 1)) (fun w1 hw1 => ?_) hm1 (hb := by omega))|(refine jc ?_;first|refine c1 ?_|refine c2 ?_|refine c5 ?_|refine c6 ?_|refine cqy (id := 9) [4, 10, 14] [0, 1, 2, 3, 5, 6, 7, 8, 9, 11, 12, 13, 4, 10, 14, 15] ?_|refine c8 ?_|refine cq ?_)|refine n1 ?_|refine n3 ?_|refine n7 ?_|refine n8 ?_|refine n10 ?_)|(refine c9 (fun h=>?_) (fun h=>?_)<;>((try simp only [Bool.or_eq_true, Bool.and_eq_true, Bool.or_eq_false_iff, Bool.and_eq_false_iff, Bool.not_eq_true', Bool.not_eq_false', decide_eq_true_eq, decide_eq_false_iff_not, Bool.false_eq_true, Bool.true_eq_false, reduceCtorEq] at h) <;> (try simp (disch := omega) only [sb_bt, w64, Int.reduceAdd, Int.reduceToNat, Int.toNat_natCast, not_true_eq_false, false_or] at h) <;> (try (exfalso; omega)))))
        all_goals try (exfalso; simp at h; done)
        refine yapo (els := (out.take (k + 1)).map inc) (n := (k + 1)) (news := [inc x]) (all := (out.take (k + 1) ++ [x]).map inc) (m := (k + 1) + 1) (fun w2 hw2 => ?_) ha1 rfl (hn := by omega) (hb := by dsimp only [List.length]; omega)
        have hw2' : σ w2 = none := St.ns1 hw2
        rw [St.del_set hw1]
        refine yapo (els := (out.take (k + 1) ++ [x]).map inc) (n := (k + 1) + 1) (news := (out.drop (k + 1)).map inc) (all := ((insB lt x out.reverse).reverse).map inc) (m := out.length + 1) (fun w3 hw3 => ?_) fin (by omega) (hn := by omega) (hb := by omega)
        have hw3' : σ w3 = none := St.ns1 hw3
        rw [St.del_set hw2']
        repeat (first|(refine yl ?_;first|refine y7 ?_|refine y8 ?_|refine y10 ?_|refine y11 ?_|refine ybd ?_|refine ybl ?_|refine y1 ?_|refine y2 ?_|refine y3 ?_|refine y3f ?_|refine y9 ?_|refine y14 ?_|refine y15 ?_|refine y16 ?_|refine y17 ?_|refine y18 ?_|refine y21 ?_|refine y25 ?_|refine yi1 ?_|refine yi2 ?_|refine yi3 ?_|refine yi4 ?_|refine yi4q ?_|refine yi6 ?_|refine ylit ?_))
        refine ynil ?_
        (first|refine n10 ?_)
        (first|refine n1 ?_)
        refine cj_freeze 7 (els := ((insB lt x out.reverse).reverse).map inc) rfl (St.set_same _ _ _) hlm.symm (by decide) ?_
        rw [St.del_set hw3']
        repeat (first|(refine jl ?_;first|refine j1 ?_|refine j6 ?_)|(refine jc ?_;first|refine c2 ?_))
        exact nx_forS (i + 1, (insB lt x out.reverse).reverse) ⟨by dsimp only; omega, by dsimp only; omega, by dsimp only; rw [List.reverse_reverse]; exact h3, hsh⟩ (by dsimp only; omega) ⟨⟨_, rfl, wk1 (by omega)⟩, ⟨_, rfl, fun _ _ h => h⟩, trivial⟩ (St.le_refl _)
end Go.Proofs.Ytbpoeggmpjepfaa.Ab

/- Orders: the same; few and short enough. -/
set_option linter.unusedVariables false
set_option linter.unusedSimpArgs false
set_option maxRecDepth 20000
namespace Go.Proofs.Ytbpoeggmpjepfaa.Ab
open Go
attribute [local irreducible] thn inb endR CJ LJ OpJ DJ DA DB AllocK
def sameT (a b : List Int) : Bool := decide (a = b)
def sameN (x y : Ins) : Bool := decide (x.rule = y.rule) && sameT x.tags y.tags
def sameL : List Ins → List Ins → Bool
  | [], [] => true
  | x :: l, y :: m => sameN x y && sameL l m
  | _, _ => false
theorem sameT_self (a : List Int) : sameT a a = true := decide_eq_true rfl
theorem sameN_self (x : Ins) : sameN x x = true := by unfold sameN; rw [sameT_self, decide_eq_true rfl]; rfl
theorem sameN_iff {x y : Ins} : sameN x y = true ↔ x = y := by
  unfold sameN sameT
  rw [Bool.and_eq_true, decide_eq_true_eq, decide_eq_true_eq]
  obtain ⟨a, b⟩ := x
  obtain ⟨c, d⟩ := y
  simp
theorem sameL_self : ∀ l : List Ins, sameL l l = true
  | [] => rfl
  | x :: l => by unfold sameL; rw [sameN_self, sameL_self l]; rfl
theorem p_sameInts (nla nlb : Option Bool) (fla flb : Bool) (a b : List Int) : Pure Try.prog 14 [.sl nla fla 1 (a.map int1), .sl nlb flb 1 (b.map int1)] (.v (.bool (sameT a b))) := by
  refine enterW Try.func14 rfl rfl rfl rfl (fun σ => ?_)
  refine cj_len 0 (fun hm0 => ?_)
  have hn1 : (a.map int1).length = a.length := List.length_map ..
  have hn2 : (b.map int1).length = b.length := List.length_map ..
  by_cases hne : a.length = b.length
  · repeat' (first|(first|(refine jl ?_;first|refine j1 ?_|refine j4 ?_)|(refine jc ?_;first|refine c1 ?_|refine c2 ?_|refine c5 ?_|refine c6 ?_)|refine n1 ?_)|(refine c9 (fun h=>?_) (fun h=>?_)<;>((try simp only [Bool.or_eq_true, Bool.and_eq_true, Bool.or_eq_false_iff, Bool.and_eq_false_iff, Bool.not_eq_true', Bool.not_eq_false', decide_eq_true_eq, decide_eq_false_iff_not, Bool.false_eq_true, Bool.true_eq_false, reduceCtorEq] at h) <;> (try simp (disch := omega) only [sb_bt, w64, Int.reduceAdd, Int.reduceToNat, Int.toNat_natCast, not_true_eq_false, false_or] at h) <;> (try (exfalso; omega)))))
    refine cj_for (fun i : Nat => i ≤ a.length ∧ decide (a.drop i = b.drop i) = decide (a = b)) (fun i => [(5, .v (.int .i64 i))]) (fun _ => σ) (fun i => a.length - i) 0 ⟨Nat.zero_le _, rfl⟩ ⟨⟨_, rfl, fun _ _ h => h⟩, trivial⟩ (St.le_refl _) (fun i hi => ?_)
    obtain ⟨h1, h3⟩ := hi
    unfold sameT
    rcases hd : a.drop i with _ | ⟨x, r⟩
    · have z1 := dropn hd
      have z2 : b.drop i = [] := List.drop_eq_nil_iff.2 (by omega)
      rw [hd, z2] at h3
      repeat' (first|(first|(refine jl ?_;first|refine j1 ?_|refine j4 ?_)|(refine jc ?_;first|refine c1 ?_|refine c2 ?_|refine c7 ?_|refine c8 ?_)|refine n1 ?_|refine n3 ?_|refine n7 ?_|refine n8 ?_|refine n11 ?_)|(refine c9 (fun h=>?_) (fun h=>?_)<;>((try simp only [Bool.or_eq_true, Bool.and_eq_true, Bool.or_eq_false_iff, Bool.and_eq_false_iff, Bool.not_eq_true', Bool.not_eq_false', decide_eq_true_eq, decide_eq_false_iff_not, Bool.false_eq_true, Bool.true_eq_false, reduceCtorEq] at h) <;> (try simp (disch := omega) only [sb_bt, w64, Int.reduceAdd, Int.reduceToNat, Int.toNat_natCast, not_true_eq_false, false_or] at h) <;> (try (exfalso; omega)))))
      rw [← h3]
      exact gives (St.le_refl _) (Fin.refl _ _ _)
    · obtain ⟨u1, u2, u3⟩ := dropc hd
      have u4 := get_map int1 u3
      obtain ⟨y, v3⟩ : ∃ y, b[i]? = some y := ⟨_, List.getElem?_eq_getElem (by omega)⟩
      have v4 := get_map int1 v3
      have hd2 : b.drop i = y :: b.drop (i + 1) := by
        rw [List.drop_eq_getElem_cons (by omega)]
        congr 1
        exact (List.getElem?_eq_some_iff.1 v3).2
      rw [hd, hd2, ← u2] at h3
      by_cases hxy : x = y
      · subst hxy
        have h3 : decide (a.drop (i + 1) = b.drop (i + 1)) = decide (a = b) := by rw [← h3]; simp
        repeat' (first|(first|(refine jl ?_;first|refine j1 ?_|refine j4 ?_|refine j6 ?_)|(refine dl ?_;first|refine dbl ?_|refine d1 ?_|refine d4 ?_|refine di1 ?_)|(refine jc ?_;first|refine c1 ?_|refine c2 ?_|refine c5 ?_|refine c6 ?_|refine cq ?_)|refine n1 ?_|refine n10 ?_)|(refine c9 (fun h=>?_) (fun h=>?_)<;>((try simp only [Bool.or_eq_true, Bool.and_eq_true, Bool.or_eq_false_iff, Bool.and_eq_false_iff, Bool.not_eq_true', Bool.not_eq_false', decide_eq_true_eq, decide_eq_false_iff_not, Bool.false_eq_true, Bool.true_eq_false, reduceCtorEq] at h) <;> (try simp (disch := omega) only [sb_bt, w64, Int.reduceAdd, Int.reduceToNat, Int.toNat_natCast, not_true_eq_false, false_or] at h) <;> (try (exfalso; omega)))))
        all_goals first
          | exact nx_forS (i + 1) ⟨by omega, h3⟩ (by omega) ⟨⟨_, rfl, wk1 (by omega)⟩, trivial⟩ (St.le_refl _)
          | (exfalso; exact h rfl)
      · have h3 : false = decide (a = b) := by rw [← h3]; simp [hxy]
        repeat' (first|(first|(refine jl ?_;first|refine j1 ?_|refine j4 ?_)|(refine dl ?_;first|refine dbl ?_|refine d1 ?_|refine d4 ?_|refine di1 ?_)|(refine jc ?_;first|refine c1 ?_|refine c2 ?_|refine c5 ?_|refine c6 ?_|refine c7 ?_|refine cq ?_)|refine n1 ?_|refine n2 ?_|refine n5 ?_|refine n6 ?_|refine n11 ?_)|(refine c9 (fun h=>?_) (fun h=>?_)<;>((try simp only [Bool.or_eq_true, Bool.and_eq_true, Bool.or_eq_false_iff, Bool.and_eq_false_iff, Bool.not_eq_true', Bool.not_eq_false', decide_eq_true_eq, decide_eq_false_iff_not, Bool.false_eq_true, Bool.true_eq_false, reduceCtorEq] at h) <;> (try simp (disch := omega) only [sb_bt, w64, Int.reduceAdd, Int.reduceToNat, Int.toNat_natCast, not_true_eq_false, false_or] at h) <;> (try (exfalso; omega)))))
        all_goals first
          | (rw [← h3]; exact gives (St.le_refl _) (Fin.refl _ _ _))
          | (exfalso; exact hxy h)
          | (exfalso; omega)
  · have hd : sameT a b = false := decide_eq_false fun e => hne (e ▸ rfl)
    rw [hd]
    repeat' (first|(first|(refine jl ?_;first|refine j1 ?_|refine j4 ?_)|(refine jc ?_;first|refine c1 ?_|refine c2 ?_|refine c7 ?_)|refine n2 ?_|refine n11 ?_)|(refine c9 (fun h=>?_) (fun h=>?_)<;>((try simp only [Bool.or_eq_true, Bool.and_eq_true, Bool.or_eq_false_iff, Bool.and_eq_false_iff, Bool.not_eq_true', Bool.not_eq_false', decide_eq_true_eq, decide_eq_false_iff_not, Bool.false_eq_true, Bool.true_eq_false, reduceCtorEq] at h) <;> (try simp (disch := omega) only [sb_bt, w64, Int.reduceAdd, Int.reduceToNat, Int.toNat_natCast, not_true_eq_false, false_or] at h) <;> (try (exfalso; omega)))))
    all_goals first
      | exact gives (St.le_refl _) (Fin.refl _ _ _)
      | (exfalso; omega)
theorem p_sameInst (x y : Ins) : Pure Try.prog 21 [.agg (inc x), .agg (inc y)] (.v (.bool (sameN x y))) := by
  refine enterW Try.func21 rfl rfl rfl rfl (fun σ => ?_)
  have k1 := p_sameInts none none false false x.tags y.tags
  repeat' (first|(first|(refine jl ?_;first|refine j8 ?_|refine j1 ?_|refine j4 ?_|refine j9 ?_|refine j12 (fun id hid=>?_)|refine j14 ?_|refine j16 ?_|refine jcq (hp:=fun hc=>k1) ?_)|(refine jc ?_;first|refine c1 ?_|refine c2 ?_|refine c7 ?_)|refine n11 ?_))
  exact gives (by repeat' (first | exact St.le_refl _ | refine St.le_any ?_)) (Fin.refl _ _ _)
theorem p_sameInsts (nla nlb : Option Bool) (fla flb : Bool) (a b : List Ins) : Pure Try.prog 29 [.sl nla fla 2 (a.map inc), .sl nlb flb 2 (b.map inc)] (.v (.bool (sameL a b))) := by
  refine enterW Try.func29 rfl rfl rfl rfl (fun σ => ?_)
  refine cj_len 0 (fun hm0 => ?_)
  have hn1 : (a.map inc).length = a.length := List.length_map ..
  have hn2 : (b.map inc).length = b.length := List.length_map ..
  have hlen : ∀ {a b : List Ins}, sameL a b = true → a.length = b.length := by
    intro a
    induction a with
    | nil => intro b h; cases b with
      | nil => rfl
      | cons y m => cases h
    | cons x l ih => intro b h; cases b with
      | nil => cases h
      | cons y m =>
        unfold sameL at h
        rw [Bool.and_eq_true] at h
        rw [List.length_cons, List.length_cons, ih h.2]
  by_cases hne : a.length = b.length
  · repeat' (first|(first|(refine jl ?_;first|refine j1 ?_|refine j4 ?_)|(refine jc ?_;first|refine c1 ?_|refine c2 ?_|refine c5 ?_|refine c6 ?_)|refine n1 ?_)|(refine c9 (fun h=>?_) (fun h=>?_)<;>((try simp only [Bool.or_eq_true, Bool.and_eq_true, Bool.or_eq_false_iff, Bool.and_eq_false_iff, Bool.not_eq_true', Bool.not_eq_false', decide_eq_true_eq, decide_eq_false_iff_not, Bool.false_eq_true, Bool.true_eq_false, reduceCtorEq] at h) <;> (try simp (disch := omega) only [sb_bt, w64, Int.reduceAdd, Int.reduceToNat, Int.toNat_natCast, not_true_eq_false, false_or] at h) <;> (try (exfalso; omega)))))
    refine cj_for (fun i : Nat => i ≤ a.length ∧ sameL (a.drop i) (b.drop i) = sameL a b) (fun i => [(5, .v (.int .i64 i))]) (fun _ => σ) (fun i => a.length - i) 0 ⟨Nat.zero_le _, rfl⟩ ⟨⟨_, rfl, fun _ _ h => h⟩, trivial⟩ (St.le_refl _) (fun i hi => ?_)
    obtain ⟨h1, h3⟩ := hi
    rcases hd : a.drop i with _ | ⟨x, r⟩
    · have z1 := dropn hd
      have z2 : b.drop i = [] := List.drop_eq_nil_iff.2 (by omega)
      rw [hd, z2] at h3
      repeat' (first|(first|(refine jl ?_;first|refine j1 ?_|refine j4 ?_)|(refine jc ?_;first|refine c1 ?_|refine c2 ?_|refine c7 ?_|refine c8 ?_)|refine n1 ?_|refine n3 ?_|refine n7 ?_|refine n8 ?_|refine n11 ?_)|(refine c9 (fun h=>?_) (fun h=>?_)<;>((try simp only [Bool.or_eq_true, Bool.and_eq_true, Bool.or_eq_false_iff, Bool.and_eq_false_iff, Bool.not_eq_true', Bool.not_eq_false', decide_eq_true_eq, decide_eq_false_iff_not, Bool.false_eq_true, Bool.true_eq_false, reduceCtorEq] at h) <;> (try simp (disch := omega) only [sb_bt, w64, Int.reduceAdd, Int.reduceToNat, Int.toNat_natCast, not_true_eq_false, false_or] at h) <;> (try (exfalso; omega)))))
      rw [← h3]
      exact gives (St.le_refl _) (Fin.refl _ _ _)
    · obtain ⟨u1, u2, u3⟩ := dropc hd
      have u4 := get_map inc u3
      obtain ⟨y, v3⟩ : ∃ y, b[i]? = some y := ⟨_, List.getElem?_eq_getElem (by omega)⟩
      have v4 := get_map inc v3
      have hd2 : b.drop i = y :: b.drop (i + 1) := by
        rw [List.drop_eq_getElem_cons (by omega)]
        congr 1
        exact (List.getElem?_eq_some_iff.1 v3).2
      rw [hd, hd2, ← u2, sameL] at h3
      have k1 := p_sameInst x y
      cases hxy : sameN x y with
      | true =>
        rw [hxy] at h3 k1
        repeat' (first|(first|(refine jl ?_;first|refine j1 ?_|refine j4 ?_|refine j6 ?_)|(refine dl ?_;first|refine dbl ?_|refine d1 ?_|refine d4 ?_|refine di1 ?_|refine dp (k1) ?_)|(refine jc ?_;first|refine c1 ?_|refine c2 ?_|refine c5 ?_|refine c6 ?_|refine cq ?_)|refine n1 ?_|refine n10 ?_)|(refine c9 (fun h=>?_) (fun h=>?_)<;>((try simp only [Bool.or_eq_true, Bool.and_eq_true, Bool.or_eq_false_iff, Bool.and_eq_false_iff, Bool.not_eq_true', Bool.not_eq_false', decide_eq_true_eq, decide_eq_false_iff_not, Bool.false_eq_true, Bool.true_eq_false, reduceCtorEq] at h) <;> (try simp (disch := omega) only [sb_bt, w64, Int.reduceAdd, Int.reduceToNat, Int.toNat_natCast, not_true_eq_false, false_or] at h) <;> (try (exfalso; omega)))))
        all_goals first
          | exact nx_forS (i + 1) ⟨by omega, h3⟩ (by omega) ⟨⟨_, rfl, wk1 (by omega)⟩, trivial⟩ (St.le_refl _)
          | (exfalso; simp at h; done)
      | false =>
        rw [hxy] at h3 k1
        repeat' (first|(first|(refine jl ?_;first|refine j1 ?_|refine j4 ?_)|(refine dl ?_;first|refine dbl ?_|refine d1 ?_|refine d4 ?_|refine di1 ?_|refine dp (k1) ?_)|(refine jc ?_;first|refine c1 ?_|refine c2 ?_|refine c5 ?_|refine c6 ?_|refine c7 ?_|refine cq ?_)|refine n1 ?_|refine n2 ?_|refine n5 ?_|refine n6 ?_|refine n11 ?_)|(refine c9 (fun h=>?_) (fun h=>?_)<;>((try simp only [Bool.or_eq_true, Bool.and_eq_true, Bool.or_eq_false_iff, Bool.and_eq_false_iff, Bool.not_eq_true', Bool.not_eq_false', decide_eq_true_eq, decide_eq_false_iff_not, Bool.false_eq_true, Bool.true_eq_false, reduceCtorEq] at h) <;> (try simp (disch := omega) only [sb_bt, w64, Int.reduceAdd, Int.reduceToNat, Int.toNat_natCast, not_true_eq_false, false_or] at h) <;> (try (exfalso; omega)))))
        all_goals first
          | (rw [← h3]; exact gives (St.le_refl _) (Fin.refl _ _ _))
          | (exfalso; simp at h; done)
  · have hd : sameL a b = false := Bool.eq_false_iff.2 fun e => hne (hlen e)
    rw [hd]
    repeat' (first|(first|(refine jl ?_;first|refine j1 ?_|refine j4 ?_)|(refine jc ?_;first|refine c1 ?_|refine c2 ?_|refine c7 ?_)|refine n2 ?_|refine n11 ?_)|(refine c9 (fun h=>?_) (fun h=>?_)<;>((try simp only [Bool.or_eq_true, Bool.and_eq_true, Bool.or_eq_false_iff, Bool.and_eq_false_iff, Bool.not_eq_true', Bool.not_eq_false', decide_eq_true_eq, decide_eq_false_iff_not, Bool.false_eq_true, Bool.true_eq_false, reduceCtorEq] at h) <;> (try simp (disch := omega) only [sb_bt, w64, Int.reduceAdd, Int.reduceToNat, Int.toNat_natCast, not_true_eq_false, false_or] at h) <;> (try (exfalso; omega)))))
    all_goals first
      | exact gives (St.le_refl _) (Fin.refl _ _ _)
      | (exfalso; omega)
theorem p_lsame (nla nlb : Option Bool) (fla flb : Bool) (a b : List Ins) : Pure Try.prog 11 [.sl nla fla 2 (a.map inc), .sl nlb flb 2 (b.map inc)] (.v (.bool (sameL a b))) := by
  refine enterW Try.func11 rfl rfl rfl rfl (fun σ => ?_)
  have k1 := p_sameInsts nla nlb fla flb a b
  repeat' (first|(first|(refine jl ?_;first|refine j1 ?_|refine j4 ?_|refine jp (k1) ?_)|(refine jc ?_;first|refine c1 ?_|refine c2 ?_|refine c7 ?_)|refine n11 ?_))
  exact gives (by repeat' (first | exact St.le_refl _ | refine St.le_any ?_)) (Fin.refl _ _ _)
theorem p_inst26 (nl : Option Bool) (full : Bool) (r : Int) (ts : List Int) : Pure Try.prog 23 [.v (.int .i64 r), .sl nl full 1 (ts.map int1)] (.agg (inc ⟨r, ts⟩)) := by
  refine enterW Try.func23 rfl rfl rfl rfl (fun σ => ?_)
  repeat' (first|(first|(refine jl ?_;first|refine jb ?_|refine j1 ?_|refine j4 ?_|refine j13 (fun id hid=>?_)|refine j17t ?_)|(refine jc ?_;first|refine c1 ?_|refine c2 ?_|refine c7 ?_)|refine n14 ?_))
  exact gives (by repeat' (first | exact St.le_refl _ | refine St.le_any ?_)) (fin_one (.wk (Wk.agg ⟨fun _ _ h => h, Wk.sl _ _ _ _, trivial⟩)))
def ltO (x : Ins) : Bool := decide (x.tags.length ≤ 8)
def ltB26 (p : Prg) (l : List Ins) : Bool := ltPb p && decide (l.length ≤ 20) && l.all ltO
set_option maxHeartbeats 1000000 in
theorem p_light26 (nl : Option Bool) (full : Bool) (p : Prg) (l : List Ins) : Pure Try.prog 7 [.agg (pgc p), .sl nl full 2 (l.map inc)] (.v (.bool (ltB26 p l))) := by
  refine enterW Try.func7 rfl rfl rfl rfl (fun σ => ?_)
  refine cj_len 1 (fun hm0 => ?_)
  have hn1 : (l.map inc).length = l.length := List.length_map ..
  have k1 := p_light p
  by_cases hc : ltPb p = true ∧ l.length ≤ 20
  · obtain ⟨hp1, hp2⟩ := hc
    rw [hp1] at k1
    have e : ltB26 p l = l.all ltO := by unfold ltB26; rw [hp1, decide_eq_true hp2]; rfl
    rw [e]
    repeat' (first|(first|(refine jl ?_;first|refine j7 ?_|refine j1 ?_|refine j4 ?_|refine j9 ?_|refine j12 (fun id hid=>?_)|refine j14 ?_|refine jp (k1) ?_)|(refine jc ?_;first|refine c1 ?_|refine c2 ?_|refine c5 ?_|refine c6 ?_)|refine n1 ?_)|(refine c9 (fun h=>?_) (fun h=>?_)<;>((try simp only [Bool.or_eq_true, Bool.and_eq_true, Bool.or_eq_false_iff, Bool.and_eq_false_iff, Bool.not_eq_true', Bool.not_eq_false', decide_eq_true_eq, decide_eq_false_iff_not, Bool.false_eq_true, Bool.true_eq_false, reduceCtorEq] at h) <;> (try simp (disch := omega) only [sb_bt, w64, Int.reduceAdd, Int.reduceToNat, Int.toNat_natCast, not_true_eq_false, false_or] at h) <;> (try (exfalso; omega)))))
    all_goals first | (exfalso; simp at h; done) | (exfalso; simp at h; omega) | (exfalso; omega) | skip
    refine cj_for (fun i : Nat => i ≤ l.length ∧ (l.drop i).all ltO = l.all ltO) (fun i => [(5, .v (.int .i64 i))]) (fun _ => _) (fun i => l.length - i) 0 ⟨Nat.zero_le _, rfl⟩ ⟨⟨_, rfl, fun _ _ h => h⟩, trivial⟩ (St.le_refl _) (fun i hi => ?_)
    obtain ⟨h1, h3⟩ := hi
    rcases hd : l.drop i with _ | ⟨x, r⟩
    · have z1 := dropn hd
      rw [hd] at h3
      repeat' (first|(first|(refine jl ?_;first|refine j1 ?_|refine j4 ?_)|(refine jc ?_;first|refine c1 ?_|refine c2 ?_|refine c7 ?_|refine c8 ?_)|refine n1 ?_|refine n3 ?_|refine n7 ?_|refine n8 ?_|refine n11 ?_)|(refine c9 (fun h=>?_) (fun h=>?_)<;>((try simp only [Bool.or_eq_true, Bool.and_eq_true, Bool.or_eq_false_iff, Bool.and_eq_false_iff, Bool.not_eq_true', Bool.not_eq_false', decide_eq_true_eq, decide_eq_false_iff_not, Bool.false_eq_true, Bool.true_eq_false, reduceCtorEq] at h) <;> (try simp (disch := omega) only [sb_bt, w64, Int.reduceAdd, Int.reduceToNat, Int.toNat_natCast, not_true_eq_false, false_or] at h) <;> (try (exfalso; omega)))))
      rw [all_end h3]
      exact gives (by repeat' (first | exact St.le_refl _ | refine St.le_any ?_)) (Fin.refl _ _ _)
    · obtain ⟨u1, u2, u3⟩ := dropc hd
      have u4 := get_map inc u3
      have hn3 : (x.tags.map int1).length = x.tags.length := List.length_map ..
      rw [hd, ← u2] at h3
      repeat' (first|(first|(refine jl ?_;first|refine jbl ?_|refine j1 ?_|refine j4 ?_|refine j6 ?_|refine ji1 ?_)|(refine jc ?_;first|refine c1 ?_|refine c2 ?_|refine c5 ?_|refine c6 ?_|refine c7 ?_)|refine n1 ?_|refine n2 ?_|refine n5 ?_|refine n6 ?_|refine n10 ?_|refine n11 ?_)|(refine c9 (fun h=>?_) (fun h=>?_)<;>((try simp only [Bool.or_eq_true, Bool.and_eq_true, Bool.or_eq_false_iff, Bool.and_eq_false_iff, Bool.not_eq_true', Bool.not_eq_false', decide_eq_true_eq, decide_eq_false_iff_not, Bool.false_eq_true, Bool.true_eq_false, reduceCtorEq] at h) <;> (try simp (disch := omega) only [sb_bt, w64, Int.reduceAdd, Int.reduceToNat, Int.toNat_natCast, not_true_eq_false, false_or] at h) <;> (try (exfalso; omega)))))
      · rw [all_no h3 (decide_eq_false (by omega))]
        exact gives (by repeat' (first | exact St.le_refl _ | refine St.le_any ?_)) (Fin.refl _ _ _)
      · exact nx_forS (i + 1) ⟨by omega, all_yes h3 (decide_eq_true (by omega))⟩ (by omega) ⟨⟨_, rfl, wk1 (by omega)⟩, trivial⟩ (St.le_refl _)
  · have e : ltB26 p l = false := by
      unfold ltB26
      cases h1 : ltPb p with
      | false => rfl
      | true => rw [decide_eq_false fun h2 => hc ⟨h1, h2⟩]; rfl
    rw [e]
    repeat' (first|(first|(refine jl ?_;first|refine j7 ?_|refine j1 ?_|refine j4 ?_|refine j9 ?_|refine j12 (fun id hid=>?_)|refine j14 ?_|refine jp (k1) ?_)|(refine jc ?_;first|refine c1 ?_|refine c2 ?_|refine c5 ?_|refine c6 ?_|refine c7 ?_)|refine n1 ?_|refine n2 ?_|refine n11 ?_)|(refine c9 (fun h=>?_) (fun h=>?_)<;>((try simp only [Bool.or_eq_true, Bool.and_eq_true, Bool.or_eq_false_iff, Bool.and_eq_false_iff, Bool.not_eq_true', Bool.not_eq_false', decide_eq_true_eq, decide_eq_false_iff_not, Bool.false_eq_true, Bool.true_eq_false, reduceCtorEq] at h) <;> (try simp (disch := omega) only [sb_bt, w64, Int.reduceAdd, Int.reduceToNat, Int.toNat_natCast, not_true_eq_false, false_or] at h) <;> (try (exfalso; omega)))))
    all_goals first
      | exact gives (by repeat' (first | exact St.le_refl _ | refine St.le_any ?_)) (Fin.refl _ _ _)
      | (exfalso; exact hc ⟨by simpa using h.1, by have := h.2; omega⟩)
end Go.Proofs.Ytbpoeggmpjepfaa.Ab

/- Orders: what every right program puts first. -/
set_option linter.unusedVariables false
set_option linter.unusedSimpArgs false
set_option maxRecDepth 20000
namespace Go.Proofs.Ytbpoeggmpjepfaa.Ab
open Go
/-- A guard that is told is none. -/
theorem jun {P : Program} {nt : Nat} {ops : Array Oper} {Q : Post} {fr : Fr} {σ : St} {rest : List Oper} {op : Op} {ty : TypeId} {pos : String} {aft : Array Edge} {j u : Nat} {b : Bool} {a : AV} {dst : Option Tmp} (h : LJ P nt ops Q (⟨dst, op, ty, pos, aft, none⟩ :: rest) fr σ) (hj : (ops[j]?).bind (·.dst) = some u := by exact rfl) (hl : lk fr u = some a := by exact rfl) (hb : a = .v (.bool b) := by with_reducible rfl) : LJ P nt ops Q (⟨dst, op, ty, pos, aft, some (j, b)⟩ :: rest) fr σ := fun k a' hσ hk hz hf => by
  have h1 := h k a' hσ hk hz hf
  unfold wpList at h1 ⊢
  rw [if_pos (by simp [Region.wanted])] at h1
  rw [if_pos (by simp [Region.wanted, yields hf hj (hb ▸ hl)])]
  exact h1
attribute [local irreducible] thn inb endR CJ LJ OpJ DJ DA DB AllocK
theorem no26 : ∀ r ∈ ([] : List Rul), okR r := fun r h => nomatch h
def ents26 : List Ent := [⟨⟨0, [9]⟩, true⟩, ⟨⟨0, [2, 2]⟩, false⟩, ⟨⟨1, [3, 1]⟩, false⟩, ⟨⟨0, [3]⟩, false⟩]
theorem p_awake26 : Pure Try.prog 8 [] (.v (.bool true)) := by
  refine enterW Try.func8 rfl rfl rfl rfl (fun σ => ?_)
  have z1 := p_inst26 (some false) true 0 [9]
  have z2 := p_inst26 (some false) true 0 [2, 2]
  have z3 := p_inst26 (some false) true 1 [3, 1]
  have z4 := p_inst26 (some false) true 0 [3]
  have z5 := p_inst26 (some false) true 0 [3, 1]
  have z6 := p_inst26 (some false) true 0 [2, 1]
  have z7 := p_inst26 (some false) true 0 [1, 9]
  have z8 := p_inst26 (some false) true 0 [1]
  have k1 : Pure Try.prog 19 [.sl (some true) true 1 [], .v (.int .u8 0), .sl (some false) true 3 (ents26.map enc)] (.tup [.agg (inc ⟨1, [3, 1]⟩), .v (.bool true)]) := by
    have := Pure.wka (bs := _) (p_select none (some false) false true [] no26 0 ents26 (by decide) (by decide)) (show WkL [.sl (some true) true 1 [], .v (.int .u8 0), .sl (some false) true 3 (ents26.map enc)] _ from ⟨Wk.nil _ _ _ _, Wk.refl _, Wk.refl _, trivial⟩)
    rwa [show selX (lessX (stR []) 0) (leftE ents26) = (⟨1, [3, 1]⟩, true) by kernel_rfl] at this
  have hl : ∀ (how : Int) (a b : Ins) (c : Bool), a.tags.length ≤ 12 → b.tags.length ≤ 12 → lessX (stR []) how a b = c → Pure Try.prog 9 [.sl (some true) true 1 [], .v (.int .u8 how), .agg (inc a), .agg (inc b)] (.v (.bool c)) := fun how a b c ha hb e => by
    have := Pure.wka (bs := _) (p_less none false [] no26 how a b ha hb) (show WkL [.sl (some true) true 1 [], .v (.int .u8 how), .agg (inc a), .agg (inc b)] _ from ⟨Wk.nil _ _ _ _, Wk.refl _, Wk.refl _, Wk.refl _, trivial⟩)
    rwa [e] at this
  have k2 := hl 0 ⟨0, [3, 1]⟩ ⟨0, [3]⟩ true (by decide) (by decide) (by kernel_rfl)
  have k3 := hl 1 ⟨0, [2, 1]⟩ ⟨0, [1, 9]⟩ true (by decide) (by decide) (by kernel_rfl)
  have k4 := hl 0 ⟨0, [2, 1]⟩ ⟨0, [1, 9]⟩ false (by decide) (by decide) (by kernel_rfl)
  have k5 := p_recency (some false) true [1, 0, 3] (by decide)
  rw [show recP [1, 0, 3] = [3, 1] by kernel_rfl] at k5
  have k6 := p_sameInts none (some false) false true [3, 1] [3, 1]
  rw [sameT_self] at k6
  have k7 : Pure Try.prog 12 [.sl (some true) true 1 [], .v (.int .u8 0), .sl (some false) true 2 [inc ⟨0, [1]⟩]] (.sl none false 2 [inc ⟨0, [1]⟩]) := by
    have := Pure.wka (bs := _) (p_sort none (some false) false true [] no26 0 [⟨0, [1]⟩] (by intro x hx; rw [List.mem_singleton.1 hx]; decide) (by decide)) (show WkL [.sl (some true) true 1 [], .v (.int .u8 0), .sl (some false) true 2 [inc ⟨0, [1]⟩]] _ from ⟨Wk.nil _ _ _ _, Wk.refl _, Wk.refl _, trivial⟩)
    rwa [show sorts (lessX (stR []) 0) [⟨0, [1]⟩] = [⟨0, [1]⟩] by kernel_rfl] at this
  repeat' (first|(first|(refine jl ?_;first|refine jtf ?_|refine jb ?_|refine j1 ?_|refine j2 ?_|refine j4 ?_|refine j13 (fun id hid=>?_)|refine j15 ?_|refine j17t ?_|refine jp (z1) ?_|refine jp (z2) ?_|refine jp (z3) ?_|refine jp (z4) ?_|refine jp (k1) ?_|refine jlit ?_)|(refine jc ?_;first|refine c1 ?_|refine c2 ?_)))
  refine lj_gcase rfl rfl (fun _ => ?_) (fun h => absurd h (by decide))
  repeat' (first|(first|(refine jl ?_;first|refine jtf ?_|refine j1 ?_|refine j2 ?_|refine j4 ?_|refine jun ?_|refine jp (z4) ?_|refine jp (z5) ?_|refine jp (z6) ?_|refine jp (z7) ?_|refine jp (z8) ?_|refine jp (k2) ?_|refine jp (k3) ?_|refine jp (k4) ?_|refine jp (k5) ?_|refine jp (k6) ?_|refine jp (k7) ?_|refine jlit ?_)|(refine jc ?_;first|refine c7 ?_)|refine n11 ?_))
  exact gives (by repeat' (first | exact St.le_refl _ | refine St.le_any ?_)) (Fin.refl _ _ _)
end Go.Proofs.Ytbpoeggmpjepfaa.Ab

/- Law 26: OrderSorts. -/
set_option linter.unusedVariables false
set_option linter.unusedSimpArgs false
set_option maxRecDepth 20000
namespace Go.Proofs.Ytbpoeggmpjepfaa.Ab
open Go
attribute [local irreducible] thn inb endR CJ LJ OpJ DJ DA DB AllocK
theorem ltB26_of {p : Prg} {l : List Ins} (h : ltB26 p l = true) : ltPb p = true ∧ l.length ≤ 20 ∧ (∀ x ∈ l, x.tags.length ≤ 8) ∧ ∀ r ∈ p.rules, okR r := by
  unfold ltB26 at h
  rw [Bool.and_eq_true, Bool.and_eq_true, decide_eq_true_eq, List.all_eq_true] at h
  obtain ⟨⟨h1, h2⟩, h3⟩ := h
  refine ⟨h1, h2, fun x hx => of_decide_eq_true (h3 x hx), fun r hr => okR_of ?_⟩
  unfold ltPb at h1
  simp only [Bool.and_eq_true, List.all_eq_true] at h1
  exact h1.2 r hr
set_option maxHeartbeats 4000000 in
theorem l_orderSorts (p : Prg) (how : Int) (l : List Ins) : Pure Try.prog 3 [.agg (pgc p), .v (.int .u8 how), .sl none false 2 (l.map inc)] (.v (.bool true)) := by
  refine enterW Try.func3 rfl rfl rfl rfl (fun σ => ?_)
  have hn : (l.map inc).length = l.length := List.length_map ..
  have k0 := p_awake26
  have k1 := p_light26 none false p l
  cases hb : ltB26 p l with
  | false =>
    rw [hb] at k1
    obtain ⟨pc, pr⟩ := p
    repeat' (first|(first|(refine jl ?_;first|refine j1 ?_|refine j4 ?_|refine j12 (fun id hid=>?_)|refine j14 ?_|refine jp (k0) ?_|refine jp (k1) ?_)|(refine jc ?_;first|refine c1 ?_|refine c2 ?_|refine c7 ?_)|refine n2 ?_|refine n11 ?_)|(refine c9 (fun h=>?_) (fun h=>?_)<;>((try simp only [Bool.or_eq_true, Bool.and_eq_true, Bool.or_eq_false_iff, Bool.and_eq_false_iff, Bool.not_eq_true', Bool.not_eq_false', decide_eq_true_eq, decide_eq_false_iff_not, Bool.false_eq_true, Bool.true_eq_false, reduceCtorEq] at h) <;> (try simp (disch := omega) only [sb_bt, w64, Int.reduceAdd, Int.reduceToNat, Int.toNat_natCast, not_true_eq_false, false_or] at h) <;> (try (exfalso; omega)))))
    all_goals first
      | (exfalso; simp at h; done)
      | exact gives (by repeat' (first | exact St.le_refl _ | refine St.le_any ?_)) (Fin.refl _ _ _)
  | true =>
    rw [hb] at k1
    obtain ⟨h1, h2, h3, h4⟩ := ltB26_of hb
    obtain ⟨pc, pr⟩ := p
    dsimp only at h4
    have hs : shortI l := fun x hx => Nat.le_trans (h3 x hx) (by decide)
    have e : lessR (stR pr) how = lessX (stR pr) how := by funext a b; exact lessR_eq _ _ _ _
    have k2 := p_sort none none false false pr h4 how l hs h2
    have k3 := p_rsort none none false false pr h4 how l hs (by omega)
    have k4 := p_lsame none none false false (sorts (lessX (stR pr) how) l) (sorts (lessX (stR pr) how) l)
    rw [sameL_self] at k4
    repeat' (first|(first|(refine jl ?_;first|refine j1 ?_|refine j4 ?_|refine j12 (fun id hid=>?_)|refine j14 ?_|refine jp (k1) ?_)|(refine jc ?_;first|refine c1 ?_|refine c2 ?_|refine c5 ?_|refine c6 ?_)|refine n1 ?_)|(refine c9 (fun h=>?_) (fun h=>?_)<;>((try simp only [Bool.or_eq_true, Bool.and_eq_true, Bool.or_eq_false_iff, Bool.and_eq_false_iff, Bool.not_eq_true', Bool.not_eq_false', decide_eq_true_eq, decide_eq_false_iff_not, Bool.false_eq_true, Bool.true_eq_false, reduceCtorEq] at h) <;> (try simp (disch := omega) only [sb_bt, w64, Int.reduceAdd, Int.reduceToNat, Int.toNat_natCast, not_true_eq_false, false_or] at h) <;> (try (exfalso; omega)))))
    refine cj_for (fun i : Nat => i ≤ l.length) (fun i => [(7, .v (.int .i64 i))]) (fun _ => _) (fun i => l.length - i) 0 (Nat.zero_le _) ⟨⟨_, rfl, fun _ _ h => h⟩, trivial⟩ (St.le_refl _) (fun i hi => ?_)
    rcases hd : l.drop i with _ | ⟨x, r⟩
    · have z1 := dropn hd
      repeat' (first|(first|(refine jl ?_;first|refine j1 ?_|refine j4 ?_)|(refine dl ?_;first|refine dtf ?_|refine d1 ?_|refine d4 ?_|refine d14 ?_|refine dpy (k0) ?_|refine dp (k2) ?_|refine dp (k3) ?_|refine dp (k4) ?_)|(refine jc ?_;first|refine c1 ?_|refine c2 ?_|refine c7 ?_|refine c8 ?_|refine cq ?_)|refine n1 ?_|refine n3 ?_|refine n7 ?_|refine n8 ?_|refine n11 ?_)|(refine c9 (fun h=>?_) (fun h=>?_)<;>((try simp only [Bool.or_eq_true, Bool.and_eq_true, Bool.or_eq_false_iff, Bool.and_eq_false_iff, Bool.not_eq_true', Bool.not_eq_false', decide_eq_true_eq, decide_eq_false_iff_not, Bool.false_eq_true, Bool.true_eq_false, reduceCtorEq] at h) <;> (try simp (disch := omega) only [sb_bt, w64, Int.reduceAdd, Int.reduceToNat, Int.toNat_natCast, not_true_eq_false, false_or] at h) <;> (try (exfalso; omega)))))
      exact gives (by repeat' (first | exact St.le_refl _ | refine St.le_any ?_)) (Fin.refl _ _ _)
    · obtain ⟨u1, u2, u3⟩ := dropc hd
      have u4 := get_map inc u3
      have hx := hs x (List.mem_of_getElem? u3)
      repeat' (first|(first|(refine jl ?_;first|refine j1 ?_|refine j4 ?_)|(refine jc ?_;first|refine c1 ?_|refine c2 ?_|refine c5 ?_|refine c6 ?_)|refine n1 ?_)|(refine c9 (fun h=>?_) (fun h=>?_)<;>((try simp only [Bool.or_eq_true, Bool.and_eq_true, Bool.or_eq_false_iff, Bool.and_eq_false_iff, Bool.not_eq_true', Bool.not_eq_false', decide_eq_true_eq, decide_eq_false_iff_not, Bool.false_eq_true, Bool.true_eq_false, reduceCtorEq] at h) <;> (try simp (disch := omega) only [sb_bt, w64, Int.reduceAdd, Int.reduceToNat, Int.toNat_natCast, not_true_eq_false, false_or] at h) <;> (try (exfalso; omega)))))
      refine cj_for (fun j : Nat => j ≤ l.length) (fun j => [(8, .v (.int .i64 j))]) (fun _ => _) (fun j => l.length - j) 0 (Nat.zero_le _) ⟨⟨_, rfl, fun _ _ h => h⟩, trivial⟩ (St.le_refl _) (fun j hj => ?_)
      rcases hd2 : l.drop j with _ | ⟨y, r2⟩
      · have z2 := dropn hd2
        repeat' (first|(first|(refine jl ?_;first|refine j1 ?_|refine j4 ?_|refine j6 ?_)|(refine jc ?_;first|refine c1 ?_|refine c2 ?_|refine c8 ?_)|refine n1 ?_|refine n3 ?_|refine n7 ?_|refine n8 ?_|refine n10 ?_)|(refine c9 (fun h=>?_) (fun h=>?_)<;>((try simp only [Bool.or_eq_true, Bool.and_eq_true, Bool.or_eq_false_iff, Bool.and_eq_false_iff, Bool.not_eq_true', Bool.not_eq_false', decide_eq_true_eq, decide_eq_false_iff_not, Bool.false_eq_true, Bool.true_eq_false, reduceCtorEq] at h) <;> (try simp (disch := omega) only [sb_bt, w64, Int.reduceAdd, Int.reduceToNat, Int.toNat_natCast, not_true_eq_false, false_or] at h) <;> (try (exfalso; omega)))))
        exact nx_forS (i + 1) (by omega) (by omega) ⟨⟨_, rfl, wk1 (by omega)⟩, trivial⟩ (by repeat' (first | exact St.le_refl _ | refine St.le_any ?_))
      · obtain ⟨v1, v2, v3⟩ := dropc hd2
        have v4 := get_map inc v3
        have hy := hs y (List.mem_of_getElem? v3)
        have k5 := p_less none false pr h4 how x y hx hy
        have k6 := p_rless none false pr h4 how x y hx hy
        rw [e] at k6
        repeat' (first|(first|(refine jl ?_;first|refine j1 ?_|refine j4 ?_|refine j6 ?_)|(refine dl ?_;first|refine dbl ?_|refine d1 ?_|refine d4 ?_|refine d14 ?_|refine di1 ?_|refine dp (k5) ?_|refine dp (k6) ?_)|(refine jc ?_;first|refine c1 ?_|refine c2 ?_|refine c5 ?_|refine c6 ?_|refine c7 ?_|refine cq ?_)|refine n1 ?_|refine n2 ?_|refine n5 ?_|refine n6 ?_|refine n10 ?_|refine n11 ?_)|(refine c9 (fun h=>?_) (fun h=>?_)<;>((try simp only [Bool.or_eq_true, Bool.and_eq_true, Bool.or_eq_false_iff, Bool.and_eq_false_iff, Bool.not_eq_true', Bool.not_eq_false', decide_eq_true_eq, decide_eq_false_iff_not, Bool.false_eq_true, Bool.true_eq_false, reduceCtorEq] at h) <;> (try simp (disch := omega) only [sb_bt, w64, Int.reduceAdd, Int.reduceToNat, Int.toNat_natCast, not_true_eq_false, false_or] at h) <;> (try (exfalso; omega)))))
        all_goals first
          | (exfalso; simp at h; done)
          | exact nx_forS (j + 1) (by omega) (by omega) ⟨⟨_, rfl, wk1 (by omega)⟩, trivial⟩ (by repeat' (first | exact St.le_refl _ | refine St.le_any ?_))
end Go.Proofs.Ytbpoeggmpjepfaa.Ab

/- Law 26: OrderSelects. -/
set_option linter.unusedVariables false
set_option linter.unusedSimpArgs false
set_option maxRecDepth 20000
namespace Go.Proofs.Ytbpoeggmpjepfaa.Ab
open Go
attribute [local irreducible] thn inb endR CJ LJ OpJ DJ DA DB AllocK
set_option maxHeartbeats 8000000 in
theorem l_orderSelects (p : Prg) (how : Int) (l : List Ent) : Pure Try.prog 4 [.agg (pgc p), .v (.int .u8 how), .sl none false 3 (l.map enc)] (.v (.bool true)) := by
  refine enterW Try.func4 rfl rfl rfl rfl (fun σ => ?_)
  refine cj_len 2 (fun hm0 => ?_)
  have hn : (l.map enc).length = l.length := List.length_map ..
  have k0 := p_awake26
  by_cases hl : 20 < l.length
  · obtain ⟨pc, pr⟩ := p
    repeat' (first|(first|(refine jl ?_;first|refine j1 ?_|refine j4 ?_|refine j12 (fun id hid=>?_)|refine jp (k0) ?_)|(refine jc ?_;first|refine c1 ?_|refine c2 ?_|refine c7 ?_)|refine n2 ?_|refine n11 ?_)|(refine c9 (fun h=>?_) (fun h=>?_)<;>((try simp only [Bool.or_eq_true, Bool.and_eq_true, Bool.or_eq_false_iff, Bool.and_eq_false_iff, Bool.not_eq_true', Bool.not_eq_false', decide_eq_true_eq, decide_eq_false_iff_not, Bool.false_eq_true, Bool.true_eq_false, reduceCtorEq] at h) <;> (try simp (disch := omega) only [sb_bt, w64, Int.reduceAdd, Int.reduceToNat, Int.toNat_natCast, not_true_eq_false, false_or] at h) <;> (try (exfalso; omega)))))
    all_goals first
      | (exfalso; omega)
      | exact gives (by repeat' (first | exact St.le_refl _ | refine St.le_any ?_)) (Fin.refl _ _ _)
  · obtain ⟨m, hm⟩ : ∃ m, m = l.map Ent.x := ⟨_, rfl⟩
    have hml : m.length = l.length := by rw [hm, List.length_map]
    have k1 := p_light26 none false p m
    obtain ⟨pc, pr⟩ := p
    repeat' (first|(first|(refine jl ?_;first|refine j1 ?_|refine j4 ?_|refine j12 (fun id hid=>?_))|(refine jc ?_;first|refine c1 ?_|refine c2 ?_|refine c5 ?_|refine c6 ?_)|refine n1 ?_)|(refine c9 (fun h=>?_) (fun h=>?_)<;>((try simp only [Bool.or_eq_true, Bool.and_eq_true, Bool.or_eq_false_iff, Bool.and_eq_false_iff, Bool.not_eq_true', Bool.not_eq_false', decide_eq_true_eq, decide_eq_false_iff_not, Bool.false_eq_true, Bool.true_eq_false, reduceCtorEq] at h) <;> (try simp (disch := omega) only [sb_bt, w64, Int.reduceAdd, Int.reduceToNat, Int.toNat_natCast, not_true_eq_false, false_or] at h) <;> (try (exfalso; omega)))))
    all_goals first | (exfalso; omega) | skip
    first | refine cj_id 3 (fun b e => ?_) | refine lj_id 3 (fun b e => ?_)
    subst e
    refine cj_name (fun τ hτ => ?_)
    have hbp : τ b = some (.row 2 25 [pgc ⟨pc, pr⟩]) := by rw [hτ]; exact St.set_same _ _ _
    have hle : σ.le τ := by rw [hτ]; exact St.le_set _ hid
    clear hτ
    refine cj_ghost (ghost_nil (t := 7) 2 32 rfl (fun w0 hw0 => ?_))
    refine cj_for (fun s : Nat × Nat × List Ins => s.1 ≤ l.length ∧ τ s.2.1 = none ∧ s.2.2 ++ (l.drop s.1).map Ent.x = m ∧ s.2.2.length = s.1) (fun s => [(8, .v (.int .i64 s.1)), (7, .osl s.2.1 2 0 s.2.2.length)]) (fun s => τ.set s.2.1 (.row 2 32 (s.2.2.map inc))) (fun s => l.length - s.1) (0, w0, []) ⟨Nat.zero_le _, hw0, hm.symm, rfl⟩ ⟨⟨_, rfl, fun _ _ h => h⟩, ⟨_, rfl, fun _ _ h => h⟩, trivial⟩ (St.le_refl _) (fun s hs2 => ?_)
    obtain ⟨i, w, out⟩ := s
    dsimp only at hs2 ⊢
    obtain ⟨h1, h2, h3, h4⟩ := hs2
    have hno : (out.map inc).length = out.length := List.length_map ..
    rcases hd : l.drop i with _ | ⟨e, r⟩
    · have z1 := dropn hd
      rw [hd] at h3
      obtain rfl : out = m := by rw [← h3]; exact (List.append_nil _).symm
      refine cj_freeze 7 (els := out.map inc) rfl (St.set_same _ _ _) hno.symm (by decide) ?_
      rw [St.del_set h2]
      have hno : (out.map inc).length = out.length := List.length_map ..
      cases hb : ltB26 ⟨pc, pr⟩ out with
      | false =>
        rw [hb] at k1
        repeat' (first|(first|(refine jl ?_;first|refine j1 ?_|refine j4 ?_|refine j14 ?_|refine jp (k0) ?_|refine jp (k1) ?_)|(refine jc ?_;first|refine c1 ?_|refine c2 ?_|refine c7 ?_|refine c8 ?_)|refine n1 ?_|refine n2 ?_|refine n3 ?_|refine n7 ?_|refine n8 ?_|refine n11 ?_)|(refine c9 (fun h=>?_) (fun h=>?_)<;>((try simp only [Bool.or_eq_true, Bool.and_eq_true, Bool.or_eq_false_iff, Bool.and_eq_false_iff, Bool.not_eq_true', Bool.not_eq_false', decide_eq_true_eq, decide_eq_false_iff_not, Bool.false_eq_true, Bool.true_eq_false, reduceCtorEq] at h) <;> (try simp (disch := omega) only [sb_bt, w64, Int.reduceAdd, Int.reduceToNat, Int.toNat_natCast, not_true_eq_false, false_or] at h) <;> (try (exfalso; omega)))))
        all_goals first
          | (exfalso; simp at h; done)
          | exact gives (St.le_trans hle (by repeat' (first | exact St.le_refl _ | refine St.le_any ?_))) (Fin.refl _ _ _)
      | true =>
        rw [hb] at k1
        obtain ⟨b1, b2, b3, b4⟩ := ltB26_of hb
        dsimp only at b4
        have b5 : pr.length ≤ 6 := by
          unfold ltPb at b1
          simp only [Bool.and_eq_true, decide_eq_true_eq] at b1
          exact b1.1.1.2
        repeat' (first|(first|(refine jl ?_;first|refine j1 ?_|refine j4 ?_|refine j14 ?_|refine jp (k1) ?_)|(refine jc ?_;first|refine c1 ?_|refine c2 ?_|refine c5 ?_|refine c6 ?_|refine c8 ?_)|refine n1 ?_|refine n3 ?_|refine n7 ?_|refine n8 ?_)|(refine c9 (fun h=>?_) (fun h=>?_)<;>((try simp only [Bool.or_eq_true, Bool.and_eq_true, Bool.or_eq_false_iff, Bool.and_eq_false_iff, Bool.not_eq_true', Bool.not_eq_false', decide_eq_true_eq, decide_eq_false_iff_not, Bool.false_eq_true, Bool.true_eq_false, reduceCtorEq] at h) <;> (try simp (disch := omega) only [sb_bt, w64, Int.reduceAdd, Int.reduceToNat, Int.toNat_natCast, not_true_eq_false, false_or] at h) <;> (try (exfalso; omega)))))
        all_goals first | (exfalso; simp at h; done) | skip
        refine cj_for (fun i : Nat => i ≤ out.length) (fun i => [(9, .v (.int .i64 i))]) (fun _ => _) (fun i => out.length - i) 0 (Nat.zero_le _) ⟨⟨_, rfl, fun _ _ h => h⟩, trivial⟩ (St.le_refl _) (fun i hi => ?_)
        rcases hd : out.drop i with _ | ⟨x, r⟩
        · have z1 := dropn hd
          have hr : (pr.map ruc).length = pr.length := List.length_map ..
          repeat' (first|(first|(refine jl ?_;first|refine j1 ?_|refine j4 ?_)|(refine jc ?_;first|refine c1 ?_|refine c2 ?_|refine c5 ?_|refine c8 ?_)|refine n1 ?_|refine n3 ?_|refine n7 ?_|refine n8 ?_)|(refine c9 (fun h=>?_) (fun h=>?_)<;>((try simp only [Bool.or_eq_true, Bool.and_eq_true, Bool.or_eq_false_iff, Bool.and_eq_false_iff, Bool.not_eq_true', Bool.not_eq_false', decide_eq_true_eq, decide_eq_false_iff_not, Bool.false_eq_true, Bool.true_eq_false, reduceCtorEq] at h) <;> (try simp (disch := omega) only [sb_bt, w64, Int.reduceAdd, Int.reduceToNat, Int.toNat_natCast, not_true_eq_false, false_or] at h) <;> (try (exfalso; omega)))))
          refine cj_for (fun i : Nat => i ≤ pr.length) (fun i => [(10, .v (.int .i64 i))]) (fun _ => _) (fun i => pr.length - i) 0 (Nat.zero_le _) ⟨⟨_, rfl, fun _ _ h => h⟩, trivial⟩ (St.le_refl _) (fun i hi => ?_)
          rcases hd : pr.drop i with _ | ⟨x, r⟩
          · have z1 := dropn hd
            have hs : ∀ e ∈ l, e.x.tags.length ≤ 12 := fun e he => Nat.le_trans (b3 e.x (by rw [hm]; exact List.mem_map_of_mem he)) (by decide)
            have k2 := p_select none none false false pr b4 how l hs (by omega)
            have k3 := p_rselect none none false false pr b4 how l hs (by omega)
            have k4 := p_sameInst (selX (lessX (stR pr) how) (leftE l)).1 (selX (lessX (stR pr) how) (leftE l)).1
            rw [sameN_self] at k4
            repeat' (first|(first|(refine jl ?_;first|refine j8 ?_|refine j1 ?_|refine j2 ?_|refine j4 ?_|refine j13 (fun id hid=>?_)|refine j14 ?_|refine j17t ?_|refine jcq (hp:=fun hc=>k0) ?_|refine jp (k2) ?_|refine jp (k3) ?_|refine jp (k4) ?_)|(refine jc ?_;first|refine c1 ?_|refine c2 ?_|refine c7 ?_|refine c8 ?_)|refine n1 ?_|refine n3 ?_|refine n7 ?_|refine n8 ?_|refine n11 ?_)|(refine c9 (fun h=>?_) (fun h=>?_)<;>((try simp only [Bool.or_eq_true, Bool.and_eq_true, Bool.or_eq_false_iff, Bool.and_eq_false_iff, Bool.not_eq_true', Bool.not_eq_false', decide_eq_true_eq, decide_eq_false_iff_not, Bool.false_eq_true, Bool.true_eq_false, reduceCtorEq] at h) <;> (try simp (disch := omega) only [sb_bt, w64, Int.reduceAdd, Int.reduceToNat, Int.toNat_natCast, not_true_eq_false, false_or] at h) <;> (try (exfalso; omega)))))
            refine gives (St.le_trans hle (by repeat' (first | exact St.le_refl _ | refine St.le_any ?_))) (fin_one (.wk (Wk.of_eq ?_)))
            simp
          · obtain ⟨u1, u2, u3⟩ := dropc hd
            have u4 := get_map ruc u3
            have hx := b4 x (List.mem_of_getElem? u3)
            have k2 := p_strength9 x hx
            have k3 := p_strength4 x hx
            repeat' (first|(first|(refine jl ?_;first|refine j1 ?_|refine j4 ?_|refine j6 ?_|refine j14 ?_)|(refine dl ?_;first|refine dbl ?_|refine d1 ?_|refine d4 ?_|refine d14 ?_|refine di1 ?_|refine dp (k2) ?_|refine dp (k3) ?_)|(refine jc ?_;first|refine c1 ?_|refine c2 ?_|refine c5 ?_|refine c6 ?_|refine cq ?_)|refine n1 ?_|refine n10 ?_)|(refine c9 (fun h=>?_) (fun h=>?_)<;>((try simp only [Bool.or_eq_true, Bool.and_eq_true, Bool.or_eq_false_iff, Bool.and_eq_false_iff, Bool.not_eq_true', Bool.not_eq_false', decide_eq_true_eq, decide_eq_false_iff_not, Bool.false_eq_true, Bool.true_eq_false, reduceCtorEq] at h) <;> (try simp (disch := omega) only [sb_bt, w64, Int.reduceAdd, Int.reduceToNat, Int.toNat_natCast, not_true_eq_false, false_or] at h) <;> (try (exfalso; omega)))))
            all_goals first
              | (exfalso; simp at h; done)
              | exact nx_forS (i + 1) (by omega) (by omega) ⟨⟨_, rfl, wk1 (by omega)⟩, trivial⟩ (by repeat' (first | exact St.le_refl _ | refine St.le_any ?_))
        · obtain ⟨u1, u2, u3⟩ := dropc hd
          have u4 := get_map inc u3
          have hx := b3 x (List.mem_of_getElem? u3)
          have k2 := p_recency none false x.tags (by omega)
          have k3 := p_rrec none false x.tags (by omega)
          have k4 := p_sameInts none none false false (recP x.tags) (recP x.tags)
          rw [sameT_self] at k4
          repeat' (first|(first|(refine jl ?_;first|refine j1 ?_|refine j4 ?_|refine j6 ?_)|(refine dl ?_;first|refine dbl ?_|refine d1 ?_|refine d4 ?_|refine di1 ?_|refine dp (k2) ?_|refine dp (k3) ?_|refine dp (k4) ?_)|(refine jc ?_;first|refine c1 ?_|refine c2 ?_|refine c5 ?_|refine c6 ?_|refine cq ?_)|refine n1 ?_|refine n10 ?_)|(refine c9 (fun h=>?_) (fun h=>?_)<;>((try simp only [Bool.or_eq_true, Bool.and_eq_true, Bool.or_eq_false_iff, Bool.and_eq_false_iff, Bool.not_eq_true', Bool.not_eq_false', decide_eq_true_eq, decide_eq_false_iff_not, Bool.false_eq_true, Bool.true_eq_false, reduceCtorEq] at h) <;> (try simp (disch := omega) only [sb_bt, w64, Int.reduceAdd, Int.reduceToNat, Int.toNat_natCast, not_true_eq_false, false_or] at h) <;> (try (exfalso; omega)))))
          all_goals first
            | (exfalso; simp at h; done)
            | exact nx_forS (i + 1) (by omega) (by omega) ⟨⟨_, rfl, wk1 (by omega)⟩, trivial⟩ (by repeat' (first | exact St.le_refl _ | refine St.le_any ?_))
    · obtain ⟨u1, u2, u3⟩ := dropc hd
      have u4 := get_map enc u3
      obtain ⟨⟨er, et⟩, ef⟩ := e
      rw [hd, List.map_cons, ← u2] at h3
      dsimp only at h3
      have ha : (out.map inc).take out.length ++ [inc ⟨er, et⟩] = (out ++ [(⟨er, et⟩ : Ins)]).map inc := by rw [List.take_of_length_le (by omega), List.map_append]; rfl
      repeat' (first|(first|(refine jl ?_;first|refine jbl ?_|refine j1 ?_|refine j4 ?_|refine ji1 ?_|refine jlit ?_)|(refine jc ?_;first|refine c1 ?_|refine c2 ?_|refine c5 ?_|refine c6 ?_)|refine n1 ?_)|(refine c9 (fun h=>?_) (fun h=>?_)<;>((try simp only [Bool.or_eq_true, Bool.and_eq_true, Bool.or_eq_false_iff, Bool.and_eq_false_iff, Bool.not_eq_true', Bool.not_eq_false', decide_eq_true_eq, decide_eq_false_iff_not, Bool.false_eq_true, Bool.true_eq_false, reduceCtorEq] at h) <;> (try simp (disch := omega) only [sb_bt, w64, Int.reduceAdd, Int.reduceToNat, Int.toNat_natCast, not_true_eq_false, false_or] at h) <;> (try (exfalso; omega)))))
      refine japo (n := out.length) (m := out.length + 1) (news := [inc ⟨er, et⟩]) (fun w2 hw2 => ?_) ha rfl (hn := by omega) (hb := by dsimp only [List.length]; omega)
      have hw2' := St.ns1 hw2
      repeat (first|(refine jl ?_;first|refine j1 ?_|refine j6 ?_)|(refine jc ?_;first|refine c2 ?_)|refine n1 ?_|refine n10 ?_)
      refine nx_forS (i + 1, w2, out ++ [(⟨er, et⟩ : Ins)]) ⟨by dsimp only; omega, hw2', by dsimp only; rw [List.append_assoc]; exact h3, by dsimp only; rw [List.length_append, List.length_singleton]; omega⟩ (by dsimp only; omega) ⟨⟨_, rfl, wk1 (by omega)⟩, ⟨_, rfl, Wk.of_eq (by dsimp only; rw [List.length_append, List.length_singleton])⟩, trivial⟩ ?_
      exact St.le_set2 (St.leX_same (St.leX_del (St.leX_any (St.leX_refl _ _) h2) h2)) (St.set_same _ _ _)
end Go.Proofs.Ytbpoeggmpjepfaa.Ab

/- Law 26: OrderOne. -/
set_option linter.unusedVariables false
set_option linter.unusedSimpArgs false
set_option maxRecDepth 20000
namespace Go.Proofs.Ytbpoeggmpjepfaa.Ab
open Go
attribute [local irreducible] thn inb endR CJ LJ OpJ DJ DA DB AllocK
theorem lessX_tri (st : Int → Int) (how : Int) (x y : Ins) : (sameN x y = true ∧ lessX st how x y = false ∧ lessX st how y x = false) ∨ (sameN x y = false ∧ lessX st how x y = true ∧ lessX st how y x = false) ∨ (sameN x y = false ∧ lessX st how x y = false ∧ lessX st how y x = true) := by
  have h := cmpX_cmp st how
  have ha := h.anti x y
  unfold lessX
  rw [decide_eq_true_eq, decide_eq_true_eq, decide_eq_false_iff_not, decide_eq_false_iff_not]
  by_cases hs : sameN x y = true
  · have hs' := sameN_iff.1 hs
    subst hs'
    left
    exact ⟨hs, by omega, by omega⟩
  · have hz : cmpX st how x y ≠ 0 := fun e => hs (sameN_iff.2 (cmpX_zero e))
    right
    rw [Bool.not_eq_true] at hs
    rcases Int.lt_or_gt_of_ne hz with hlt | hgt
    · left; exact ⟨hs, by omega, by omega⟩
    · right; exact ⟨hs, by omega, by omega⟩
theorem lessX_trans (st : Int → Int) (how : Int) {x y z : Ins} (h1 : lessX st how x y = true) (h2 : lessX st how y z = true) : lessX st how x z = true := by
  unfold lessX at *
  rw [decide_eq_true_eq] at *
  exact (cmpX_cmp st how).trans _ _ _ h1 h2
set_option maxHeartbeats 8000000 in
theorem l_orderOne (p : Prg) (how : Int) (l : List Ins) : Pure Try.prog 5 [.agg (pgc p), .v (.int .u8 how), .sl none false 2 (l.map inc)] (.v (.bool true)) := by
  refine enterW Try.func5 rfl rfl rfl rfl (fun σ => ?_)
  refine cj_len 2 (fun hm0 => ?_)
  have hn : (l.map inc).length = l.length := List.length_map ..
  have k0 := p_awake26
  have k1 := p_light26 none false p l
  cases hb : ltB26 p l with
  | false =>
    rw [hb] at k1
    obtain ⟨pc, pr⟩ := p
    repeat' (first|(first|(refine jl ?_;first|refine j7 ?_|refine j1 ?_|refine j4 ?_|refine j9 ?_|refine j12 (fun id hid=>?_)|refine j14 ?_|refine jp (k0) ?_|refine jp (k1) ?_)|(refine jc ?_;first|refine c1 ?_|refine c2 ?_|refine c5 ?_|refine c6 ?_|refine c7 ?_)|refine n1 ?_|refine n2 ?_|refine n11 ?_)|(refine c9 (fun h=>?_) (fun h=>?_)<;>((try simp only [Bool.or_eq_true, Bool.and_eq_true, Bool.or_eq_false_iff, Bool.and_eq_false_iff, Bool.not_eq_true', Bool.not_eq_false', decide_eq_true_eq, decide_eq_false_iff_not, Bool.false_eq_true, Bool.true_eq_false, reduceCtorEq] at h) <;> (try simp (disch := omega) only [sb_bt, w64, Int.reduceAdd, Int.reduceToNat, Int.toNat_natCast, not_true_eq_false, false_or] at h) <;> (try (exfalso; omega)))))
    all_goals first
      | (exfalso; simp at h; done)
      | exact gives (by repeat' (first | exact St.le_refl _ | refine St.le_any ?_)) (Fin.refl _ _ _)
  | true =>
    rw [hb] at k1
    obtain ⟨h1, h2, h3, h4⟩ := ltB26_of hb
    obtain ⟨pc, pr⟩ := p
    dsimp only at h4
    have hs : shortI l := fun x hx => Nat.le_trans (h3 x hx) (by decide)
    by_cases h8 : 8 < l.length
    · repeat' (first|(first|(refine jl ?_;first|refine j7 ?_|refine j1 ?_|refine j4 ?_|refine j9 ?_|refine j12 (fun id hid=>?_)|refine j14 ?_|refine jp (k0) ?_|refine jp (k1) ?_)|(refine jc ?_;first|refine c1 ?_|refine c2 ?_|refine c7 ?_)|refine n2 ?_|refine n11 ?_)|(refine c9 (fun h=>?_) (fun h=>?_)<;>((try simp only [Bool.or_eq_true, Bool.and_eq_true, Bool.or_eq_false_iff, Bool.and_eq_false_iff, Bool.not_eq_true', Bool.not_eq_false', decide_eq_true_eq, decide_eq_false_iff_not, Bool.false_eq_true, Bool.true_eq_false, reduceCtorEq] at h) <;> (try simp (disch := omega) only [sb_bt, w64, Int.reduceAdd, Int.reduceToNat, Int.toNat_natCast, not_true_eq_false, false_or] at h) <;> (try (exfalso; omega)))))
      all_goals first
        | exact gives (by repeat' (first | exact St.le_refl _ | refine St.le_any ?_)) (Fin.refl _ _ _)
        | (exfalso; simp at h; omega)
    · repeat' (first|(first|(refine jl ?_;first|refine j7 ?_|refine j1 ?_|refine j4 ?_|refine j9 ?_|refine j12 (fun id hid=>?_)|refine j14 ?_|refine jp (k1) ?_)|(refine jc ?_;first|refine c1 ?_|refine c2 ?_|refine c5 ?_|refine c6 ?_)|refine n1 ?_)|(refine c9 (fun h=>?_) (fun h=>?_)<;>((try simp only [Bool.or_eq_true, Bool.and_eq_true, Bool.or_eq_false_iff, Bool.and_eq_false_iff, Bool.not_eq_true', Bool.not_eq_false', decide_eq_true_eq, decide_eq_false_iff_not, Bool.false_eq_true, Bool.true_eq_false, reduceCtorEq] at h) <;> (try simp (disch := omega) only [sb_bt, w64, Int.reduceAdd, Int.reduceToNat, Int.toNat_natCast, not_true_eq_false, false_or] at h) <;> (try (exfalso; omega)))))
      all_goals first | (exfalso; simp at h; omega) | skip
      refine cj_for (fun i : Nat => i ≤ l.length) (fun i => [(7, .v (.int .i64 i))]) (fun _ => _) (fun i => l.length - i) 0 (Nat.zero_le _) ⟨⟨_, rfl, fun _ _ h => h⟩, trivial⟩ (St.le_refl _) (fun i hi => ?_)
      rcases hd : l.drop i with _ | ⟨x, r⟩
      · have z1 := dropn hd
        repeat' (first|(first|(refine jl ?_;first|refine j1 ?_|refine j4 ?_|refine jp (k0) ?_)|(refine jc ?_;first|refine c1 ?_|refine c2 ?_|refine c7 ?_|refine c8 ?_)|refine n1 ?_|refine n3 ?_|refine n7 ?_|refine n8 ?_|refine n11 ?_)|(refine c9 (fun h=>?_) (fun h=>?_)<;>((try simp only [Bool.or_eq_true, Bool.and_eq_true, Bool.or_eq_false_iff, Bool.and_eq_false_iff, Bool.not_eq_true', Bool.not_eq_false', decide_eq_true_eq, decide_eq_false_iff_not, Bool.false_eq_true, Bool.true_eq_false, reduceCtorEq] at h) <;> (try simp (disch := omega) only [sb_bt, w64, Int.reduceAdd, Int.reduceToNat, Int.toNat_natCast, not_true_eq_false, false_or] at h) <;> (try (exfalso; omega)))))
        exact gives (by repeat' (first | exact St.le_refl _ | refine St.le_any ?_)) (Fin.refl _ _ _)
      · obtain ⟨u1, u2, u3⟩ := dropc hd
        have u4 := get_map inc u3
        have hx := hs x (List.mem_of_getElem? u3)
        repeat' (first|(first|(refine jl ?_;first|refine j1 ?_|refine j4 ?_)|(refine jc ?_;first|refine c1 ?_|refine c2 ?_|refine c5 ?_|refine c6 ?_)|refine n1 ?_)|(refine c9 (fun h=>?_) (fun h=>?_)<;>((try simp only [Bool.or_eq_true, Bool.and_eq_true, Bool.or_eq_false_iff, Bool.and_eq_false_iff, Bool.not_eq_true', Bool.not_eq_false', decide_eq_true_eq, decide_eq_false_iff_not, Bool.false_eq_true, Bool.true_eq_false, reduceCtorEq] at h) <;> (try simp (disch := omega) only [sb_bt, w64, Int.reduceAdd, Int.reduceToNat, Int.toNat_natCast, not_true_eq_false, false_or] at h) <;> (try (exfalso; omega)))))
        refine cj_for (fun j : Nat => j ≤ l.length) (fun j => [(8, .v (.int .i64 j))]) (fun _ => _) (fun j => l.length - j) 0 (Nat.zero_le _) ⟨⟨_, rfl, fun _ _ h => h⟩, trivial⟩ (St.le_refl _) (fun j hj => ?_)
        rcases hd2 : l.drop j with _ | ⟨y, r2⟩
        · have z2 := dropn hd2
          repeat' (first|(first|(refine jl ?_;first|refine j1 ?_|refine j4 ?_|refine j6 ?_)|(refine jc ?_;first|refine c1 ?_|refine c2 ?_|refine c8 ?_)|refine n1 ?_|refine n3 ?_|refine n7 ?_|refine n8 ?_|refine n10 ?_)|(refine c9 (fun h=>?_) (fun h=>?_)<;>((try simp only [Bool.or_eq_true, Bool.and_eq_true, Bool.or_eq_false_iff, Bool.and_eq_false_iff, Bool.not_eq_true', Bool.not_eq_false', decide_eq_true_eq, decide_eq_false_iff_not, Bool.false_eq_true, Bool.true_eq_false, reduceCtorEq] at h) <;> (try simp (disch := omega) only [sb_bt, w64, Int.reduceAdd, Int.reduceToNat, Int.toNat_natCast, not_true_eq_false, false_or] at h) <;> (try (exfalso; omega)))))
          exact nx_forS (i + 1) (by omega) (by omega) ⟨⟨_, rfl, wk1 (by omega)⟩, trivial⟩ (by repeat' (first | exact St.le_refl _ | refine St.le_any ?_))
        · obtain ⟨v1, v2, v3⟩ := dropc hd2
          have v4 := get_map inc v3
          have hy := hs y (List.mem_of_getElem? v3)
          have k5 := p_less none false pr h4 how x y hx hy
          have k6 := p_less none false pr h4 how y x hy hx
          have k7 := p_sameInst x y
          have hlz : ∀ z, z ∈ l → Pure Try.prog 9 [.sl none false 3 (pr.map ruc), .v (.int .u8 how), .agg (inc y), .agg (inc z)] (.v (.bool (lessX (stR pr) how y z))) := fun z hz => p_less none false pr h4 how y z hy (hs z hz)
          have hlx : ∀ z, z ∈ l → Pure Try.prog 9 [.sl none false 3 (pr.map ruc), .v (.int .u8 how), .agg (inc x), .agg (inc z)] (.v (.bool (lessX (stR pr) how x z))) := fun z hz => p_less none false pr h4 how x z hx (hs z hz)
          have htri := lessX_tri (stR pr) how x y
          repeat' (first|(first|(refine jl ?_;first|refine j7 ?_|refine j8 ?_|refine j10 ?_|refine j11 ?_|refine j1 ?_|refine j4 ?_|refine j9 ?_)|(refine dl ?_;first|refine dbl ?_|refine d1 ?_|refine d4 ?_|refine d14 ?_|refine di1 ?_|refine dp (k5) ?_|refine dp (k6) ?_|refine dp (k7) ?_)|(refine jc ?_;first|refine c1 ?_|refine c2 ?_|refine c5 ?_|refine c6 ?_|refine c7 ?_|refine cq ?_)|refine n1 ?_|refine n2 ?_|refine n5 ?_|refine n6 ?_|refine n11 ?_)|(refine c9 (fun h=>?_) (fun h=>?_)<;>((try simp only [Bool.or_eq_true, Bool.and_eq_true, Bool.or_eq_false_iff, Bool.and_eq_false_iff, Bool.not_eq_true', Bool.not_eq_false', decide_eq_true_eq, decide_eq_false_iff_not, Bool.false_eq_true, Bool.true_eq_false, reduceCtorEq] at h) <;> (try simp (disch := omega) only [sb_bt, w64, Int.reduceAdd, Int.reduceToNat, Int.toNat_natCast, not_true_eq_false, false_or] at h) <;> (try (exfalso; omega)))))
          all_goals first
            | (exfalso; rcases htri with ⟨e1, e2, e3⟩ | ⟨e1, e2, e3⟩ | ⟨e1, e2, e3⟩ <;> rw [e1, e2, e3] at h <;> simp at h <;> done)
            | skip
          refine cj_for (fun n : Nat => n ≤ l.length) (fun n => [(12, .v (.int .i64 n))]) (fun _ => _) (fun n => l.length - n) 0 (Nat.zero_le _) ⟨⟨_, rfl, fun _ _ h => h⟩, trivial⟩ (St.le_refl _) (fun n hn2 => ?_)
          rcases hd3 : l.drop n with _ | ⟨z, r3⟩
          · have z3 := dropn hd3
            repeat' (first|(first|(refine jl ?_;first|refine j1 ?_|refine j4 ?_|refine j6 ?_)|(refine jc ?_;first|refine c1 ?_|refine c2 ?_|refine c8 ?_)|refine n1 ?_|refine n3 ?_|refine n7 ?_|refine n8 ?_|refine n10 ?_)|(refine c9 (fun h=>?_) (fun h=>?_)<;>((try simp only [Bool.or_eq_true, Bool.and_eq_true, Bool.or_eq_false_iff, Bool.and_eq_false_iff, Bool.not_eq_true', Bool.not_eq_false', decide_eq_true_eq, decide_eq_false_iff_not, Bool.false_eq_true, Bool.true_eq_false, reduceCtorEq] at h) <;> (try simp (disch := omega) only [sb_bt, w64, Int.reduceAdd, Int.reduceToNat, Int.toNat_natCast, not_true_eq_false, false_or] at h) <;> (try (exfalso; omega)))))
            exact nx_forS (j + 1) (by omega) (by omega) ⟨⟨_, rfl, wk1 (by omega)⟩, trivial⟩ (by repeat' (first | exact St.le_refl _ | refine St.le_any ?_))
          · obtain ⟨w1, w2, w3⟩ := dropc hd3
            have w4 := get_map inc w3
            have q1 := hlz z (List.mem_of_getElem? w3)
            have q2 := hlx z (List.mem_of_getElem? w3)
            have htr := @lessX_trans (stR pr) how x y z
            repeat' (first|(first|(refine jl ?_;first|refine j1 ?_|refine j4 ?_|refine j6 ?_)|(refine dl ?_;first|refine d8 ?_|refine d1 ?_|refine d4 ?_|refine d9 ?_|refine d16 ?_|refine di3 ?_|refine dpq (hp:=fun hc=>q1) ?_|refine dpq (hp:=fun hc=>q2) ?_)|(refine jc ?_;first|refine c1 ?_|refine c2 ?_|refine c5 ?_|refine c6 ?_|refine c7 ?_|refine cq ?_)|refine n1 ?_|refine n2 ?_|refine n5 ?_|refine n6 ?_|refine n10 ?_|refine n11 ?_)|(refine c9 (fun h=>?_) (fun h=>?_)<;>((try simp only [Bool.or_eq_true, Bool.and_eq_true, Bool.or_eq_false_iff, Bool.and_eq_false_iff, Bool.not_eq_true', Bool.not_eq_false', decide_eq_true_eq, decide_eq_false_iff_not, Bool.false_eq_true, Bool.true_eq_false, reduceCtorEq] at h) <;> (try simp (disch := omega) only [sb_bt, w64, Int.reduceAdd, Int.reduceToNat, Int.toNat_natCast, not_true_eq_false, false_or] at h) <;> (try (exfalso; omega)))))
            all_goals first
              | exact nx_forS (n + 1) (by omega) (by omega) ⟨⟨_, rfl, wk1 (by omega)⟩, trivial⟩ (by repeat' (first | exact St.le_refl _ | refine St.le_any ?_))
              | (exfalso; obtain ⟨⟨g1, g2⟩, g3⟩ := h; rw [htr g1 g2] at g3; cases g3)
end Go.Proofs.Ytbpoeggmpjepfaa.Ab
