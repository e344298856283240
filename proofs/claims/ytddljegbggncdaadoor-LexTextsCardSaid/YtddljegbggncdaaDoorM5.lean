/- The texts V1, C1, V2, V3, Shelf, V4, V5, V6, V7, V8, V9, VA, C2, C3, C4, D1, D2, D3, D4, D5, E2, E3, E4, C5, one behind the other. -/
import Derived.Test.YtddljegbggncdaaDoorM1
import Derived.Test.YtddljegbggncdaaDoorM2
import Derived.Test.YtddljegbggncdaaDoorM3
import Derived.Test.YtddljegbggncdaaDoorM4
import Derived.Test.YtddljegbggncdaaDoorProg
import Derived.Shelf.Unicode.ValidAny
import Derived.Lib.DecodeN
import Derived.Lib.TrimUEq
import Derived.Lib.ValidLaws
/- Values: what two of them are asked; how they are made. -/
set_option linter.unusedVariables false
set_option linter.unusedSimpArgs false
set_option maxRecDepth 20000
namespace Go.Proofs.YtddljegbggncdaaDoor.Ab
open Go
attribute [local irreducible] thn inb endR CJ LJ OpJ DJ

theorem St.le_set2' {σ : St} {a b : Nat} {x y : AObj} (ha : σ a = none) (hb : (σ.set a x) b = none) : σ.le ((σ.set a x).set b y) := St.le_trans (St.le_set _ ha) (St.le_set _ hb)
abbrev vv (k n : Int) (s : ByteArray) : AV := .agg [.v (.int .u8 k), .v (.int .i64 n), .v (.string s)]
def sameV (k n : Int) (s : ByteArray) (k' n' : Int) (s' : ByteArray) : Bool := decide (k = k') && (decide (n = n') && (decide (s = s') && true))
def holdsV (p k n : Int) (s : ByteArray) (k' n' : Int) (s' : ByteArray) : Bool :=
  if p = 0 then sameV k n s k' n' s' else if p = 1 then !sameV k n s k' n' s' else if k ≠ 1 ∨ k' ≠ 1 then false else
  if p = 2 then decide (n < n') else if p = 3 then decide (n ≤ n') else if p = 4 then decide (n' < n) else if p = 5 then decide (n' ≤ n) else false
theorem guard_vv : Tryd.prog.eqGuardType Tryd.prog.depth 37 = false := by kernel_rfl
theorem eq_vv (k n : Int) (s : ByteArray) (k' n' : Int) (s' : ByteArray) : eqV Tryd.prog 5 37 (vv k n s) (vv k' n' s') = some (sameV k n s k' n' s') := by rfl
theorem p_holds (p k n : Int) (s : ByteArray) (k' n' : Int) (s' : ByteArray) : Pure Tryd.prog 97 [.v (.int .u8 p), vv k n s, vv k' n' s'] (.v (.bool (holdsV p k n s k' n' s'))) := by
  refine enterW Tryd.func97 rfl rfl rfl rfl (fun σ => ?_)
  repeat' (first|(first|(refine jl ?_;first|refine j7 ?_|refine j1 ?_|refine j4 ?_|refine j9 ?_|refine j12 (fun id hid=>?_)|refine j14 ?_|refine j16 ?_|refine jeq ?_|refine jne ?_)|(refine jc ?_;first|refine c1 ?_|refine c2 ?_|refine c5 ?_|refine c6 ?_|refine c7 ?_)|refine n1 ?_|refine n2 ?_|refine n6 ?_|refine n10 ?_|refine n11 ?_)|(refine c9 (fun h=>?_) (fun h=>?_)<;>(try simp only [Bool.or_eq_true, Bool.and_eq_true, Bool.or_eq_false_iff, Bool.and_eq_false_iff, Bool.not_eq_true', Bool.not_eq_false', decide_eq_true_eq, decide_eq_false_iff_not, Bool.false_eq_true, Bool.true_eq_false, reduceCtorEq] at h)))
  all_goals exact ge (by simp_all [holdsV, sameV, packed])
theorem p_rholds (p k n : Int) (s : ByteArray) (k' n' : Int) (s' : ByteArray) : Pure Tryd.prog 62 [.v (.int .u8 p), vv k n s, vv k' n' s'] (.v (.bool (holdsV p k n s k' n' s'))) := by
  refine enterW Tryd.func62 rfl rfl rfl rfl (fun σ => ?_)
  repeat' (first|(first|(refine jl ?_;first|refine j8 ?_|refine j1 ?_|refine j4 ?_|refine j9 ?_|refine j12 (fun id hid=>?_)|refine j14 ?_|refine j16 ?_|refine jeq ?_|refine jne ?_)|(refine jc ?_;first|refine c1 ?_|refine c2 ?_|refine c5 ?_|refine c6 ?_|refine c7 ?_)|refine n1 ?_|refine n2 ?_|refine n6 ?_|refine n10 ?_|refine n11 ?_)|(refine c9 (fun h=>?_) (fun h=>?_)<;>(try simp only [Bool.or_eq_true, Bool.and_eq_true, Bool.or_eq_false_iff, Bool.and_eq_false_iff, Bool.not_eq_true', Bool.not_eq_false', decide_eq_true_eq, decide_eq_false_iff_not, Bool.false_eq_true, Bool.true_eq_false, reduceCtorEq] at h)))
  all_goals exact ge (by simp_all [holdsV, sameV, packed])
theorem p_number (n : Int) : Pure Tryd.prog 150 [.v (.int .i64 n)] (vv 1 n ⟨#[]⟩) := by
  refine enterW Tryd.func150 rfl rfl rfl rfl (fun σ => ?_)
  repeat (first|(refine jl ?_;first|refine jb ?_|refine j1 ?_|refine j4 ?_|refine j13 (fun id hid=>?_)|refine j17t ?_)|(refine jc ?_;first|refine c1 ?_|refine c2 ?_|refine c7 ?_)|refine n14 ?_)
  exact gives (by first | exact St.le_set _ (by assumption) | (rw [St.set_set]; exact St.le_set _ (by assumption))) (Fin.refl _ _ _)
theorem p_symbol (s : ByteArray) : Pure Tryd.prog 149 [.v (.string s)] (vv 2 0 s) := by
  refine enterW Tryd.func149 rfl rfl rfl rfl (fun σ => ?_)
  repeat (first|(refine jl ?_;first|refine jb ?_|refine j1 ?_|refine j4 ?_|refine j13 (fun id hid=>?_)|refine j17t ?_)|(refine jc ?_;first|refine c1 ?_|refine c2 ?_|refine c7 ?_)|refine n14 ?_)
  exact gives (by first | exact St.le_set _ (by assumption) | (rw [St.set_set]; exact St.le_set _ (by assumption))) (Fin.refl _ _ _)
def signS (p : Int) : ByteArray := if p = 0 then ⟨#[61]⟩ else if p = 1 then ⟨#[60, 62]⟩ else if p = 2 then ⟨#[60]⟩ else if p = 3 then ⟨#[60, 61]⟩ else if p = 4 then ⟨#[62]⟩ else if p = 5 then ⟨#[62, 61]⟩ else ⟨#[]⟩
theorem p_rsignv (p : Int) : Pure Tryd.prog 92 [.v (.int .u8 p)] (.v (.string (signS p))) := by
  refine enterW Tryd.func92 rfl rfl rfl rfl (fun σ => ?_)
  repeat' (first |(first|(refine jl ?_;first|refine j1 ?_|refine j4 ?_)|(refine jc ?_;first|refine c1 ?_|refine c2 ?_|refine c5 ?_|refine c6 ?_|refine c7 ?_)|refine n1 ?_|refine n2 ?_|refine n6 ?_|refine n10 ?_|refine n11 ?_)|(refine c9 (fun h=>?_) (fun h=>?_) <;> (try (exfalso; simp at h; done))))
  all_goals exact gives (St.le_refl _) (fin_one (.wk (Wk.of_eq (by simp_all [signS, ofLeaf]))))
end Go.Proofs.YtddljegbggncdaaDoor.Ab

/- Classes and facts: data, and what is found. -/
set_option linter.unusedVariables false
set_option linter.unusedSimpArgs false
set_option maxRecDepth 20000
namespace Go.Proofs.YtddljegbggncdaaDoor.Ab
open Go
attribute [local irreducible] thn inb endR CJ LJ OpJ DJ

structure Vl where
  k : Int
  n : Int
  s : ByteArray
  deriving DecidableEq
structure Cls where
  name : ByteArray
  attrs : List ByteArray
structure Fc where
  tag : Int
  cls : ByteArray
  vals : List Vl
structure Bd where
  name : ByteArray
  val : Vl
abbrev vc (v : Vl) : List AV := [.v (.int .u8 v.k), .v (.int .i64 v.n), .v (.string v.s)]
abbrev str1 (s : ByteArray) : List AV := [.v (.string s)]
abbrev cc (c : Cls) : List AV := [.v (.string c.name), .sl none false 1 (c.attrs.map str1)]
abbrev fc (f : Fc) : List AV := [.v (.int .i64 f.tag), .v (.string f.cls), .sl none false 3 (f.vals.map vc)]
abbrev bc (b : Bd) : List AV := [.v (.string b.name), .v (.int .u8 b.val.k), .v (.int .i64 b.val.n), .v (.string b.val.s)]
def noS : ByteArray := ⟨#[]⟩
def noC : Cls := ⟨⟨#[]⟩, []⟩
def noV : Vl := ⟨0, 0, ⟨#[]⟩⟩
def isC (nm : ByteArray) (c : Cls) : Bool := decide (c.name = nm)
def isS (nm : ByteArray) (s : ByteArray) : Bool := decide (s = nm)
def isB (nm : ByteArray) (b : Bd) : Bool := decide (b.name = nm)
def findC (nm : ByteArray) (l : List Cls) : Option Cls := l.find? (isC nm)
theorem p_rfind (nl : Option Bool) (full : Bool) (l : List Cls) (nm : ByteArray) : Pure Tryd.prog 59 [.sl nl full 2 (l.map cc), .v (.string nm)] (.tup [.agg (cc ((findC nm l).getD noC)), .v (.bool (findC nm l).isSome)]) := by
  refine enterW Tryd.func59 rfl rfl rfl rfl (fun σ => ?_)
  refine cj_len 0 (fun hm => ?_)
  have hn : (l.map cc).length = l.length := List.length_map ..
  repeat (first|(refine jl ?_;first|refine j1 ?_|refine j4 ?_|refine j13 (fun id hid=>?_))|(refine jc ?_;first|refine c1 ?_|refine c2 ?_|refine c5 ?_))
  refine cj_fors (fun i : Nat => findC nm (l.drop i) = findC nm l) (fun i => [(6, .v (.int .i64 i))]) (fun i => l.length - i) 0 rfl ⟨⟨_, rfl, fun _ _ h => h⟩, trivial⟩ (fun i hi => ?_)
  rcases hd : l.drop i with _ | ⟨x, r⟩
  · have h0 := dropn hd
    repeat' (first|(first|(refine jl ?_;first|refine jb ?_|refine j1 ?_|refine j4 ?_|refine j17t ?_)|(refine jc ?_;first|refine c1 ?_|refine c2 ?_|refine c7 ?_|refine c8 ?_)|refine n1 ?_|refine n3 ?_|refine n7 ?_|refine n8 ?_|refine n15 ?_)|(refine c9 (fun h=>?_) (fun h=>?_)<;>((try simp only [Bool.or_eq_true, Bool.and_eq_true, Bool.or_eq_false_iff, Bool.and_eq_false_iff, Bool.not_eq_true', Bool.not_eq_false', decide_eq_true_eq, decide_eq_false_iff_not, Bool.false_eq_true, Bool.true_eq_false, reduceCtorEq] at h) <;> (try simp (disch := omega) only [sb_bt, w64, Int.reduceAdd, Int.reduceToNat, Int.toNat_natCast, not_true_eq_false, false_or] at h) <;> (try (exfalso; omega)))))
    rw [← hi, hd]
    exact gvs (fin_two (.wk (Wk.agg ⟨Wk.refl _, Wk.sl _ _ _ _, trivial⟩)) (Fin.refl _ _ _))
  · obtain ⟨h1, h2, h3⟩ := dropc hd
    have h4 := get_map cc h3
    rw [hd] at hi
    repeat' (first|(first|(refine jl ?_;first|refine jbl ?_|refine j1 ?_|refine j4 ?_|refine j6 ?_|refine j17t ?_|refine ji1 ?_)|(refine jc ?_;first|refine c1 ?_|refine c2 ?_|refine c5 ?_|refine c6 ?_|refine c7 ?_)|refine n1 ?_|refine n2 ?_|refine n5 ?_|refine n6 ?_|refine n10 ?_|refine n15 ?_)|(refine c9 (fun h=>?_) (fun h=>?_)<;>((try simp only [Bool.or_eq_true, Bool.and_eq_true, Bool.or_eq_false_iff, Bool.and_eq_false_iff, Bool.not_eq_true', Bool.not_eq_false', decide_eq_true_eq, decide_eq_false_iff_not, Bool.false_eq_true, Bool.true_eq_false, reduceCtorEq] at h) <;> (try simp (disch := omega) only [sb_bt, w64, Int.reduceAdd, Int.reduceToNat, Int.toNat_natCast, not_true_eq_false, false_or] at h) <;> (try (exfalso; omega)))))
    · have : findC nm l = some x := by rw [← hi]; simp [findC, isC, h]
      rw [this]
      exact ge rfl
    · exact nx_for (i + 1) (by rw [h2, ← hi]; simp [findC, isC, h]) (by omega) ⟨⟨_, rfl, wk1 (by omega)⟩, trivial⟩
def attrI (nm : ByteArray) (l : List ByteArray) : Int := idxG (isS nm) l 0
def attrN (nm : ByteArray) (l : List ByteArray) : Int := if attrI nm l < 0 then 0 else attrI nm l
def attrB (nm : ByteArray) (l : List ByteArray) : Bool := decide (0 ≤ attrI nm l)
theorem p_rattr (c : Cls) (nm : ByteArray) : Pure Tryd.prog 60 [.agg (cc c), .v (.string nm)] (.tup [.v (.int .i64 (attrN nm c.attrs)), .v (.bool (attrB nm c.attrs))]) := by
  refine enterW Tryd.func60 rfl rfl rfl rfl (fun σ => ?_)
  obtain ⟨cn, l⟩ := c
  refine cj_lenA 0 1 (fun hm : (l.map str1).length ≤ _ => ?_)
  have hn : (l.map str1).length = l.length := List.length_map ..
  repeat (first|(refine jl ?_;first|refine j1 ?_|refine j4 ?_|refine j12 (fun id hid=>?_))|(refine jc ?_;first|refine c1 ?_|refine c2 ?_|refine c5 ?_))
  refine cj_fors (fun i : Nat => idxG (isS nm) (l.drop i) i = attrI nm l) (fun i => [(6, .v (.int .i64 i))]) (fun i => l.length - i) 0 rfl ⟨⟨_, rfl, fun _ _ h => h⟩, trivial⟩ (fun i hi => ?_)
  rcases hd : l.drop i with _ | ⟨x, r⟩
  · have h0 := dropn hd
    rw [hd, idxG] at hi
    repeat' (first|(first|(refine jl ?_;first|refine j1 ?_|refine j4 ?_|refine j14 ?_)|(refine jc ?_;first|refine c1 ?_|refine c2 ?_|refine c7 ?_|refine c8 ?_)|refine n1 ?_|refine n3 ?_|refine n7 ?_|refine n8 ?_|refine n11 ?_)|(refine c9 (fun h=>?_) (fun h=>?_)<;>((try simp only [Bool.or_eq_true, Bool.and_eq_true, Bool.or_eq_false_iff, Bool.and_eq_false_iff, Bool.not_eq_true', Bool.not_eq_false', decide_eq_true_eq, decide_eq_false_iff_not, Bool.false_eq_true, Bool.true_eq_false, reduceCtorEq] at h) <;> (try simp (disch := omega) only [sb_bt, w64, Int.reduceAdd, Int.reduceToNat, Int.toNat_natCast, not_true_eq_false, false_or] at h) <;> (try (exfalso; omega)))))
    rw [attrN, attrB, ← hi]
    exact ge rfl
  · obtain ⟨h1, h2, h3⟩ := dropc hd
    have h4 := get_map str1 h3
    rw [hd, idxG] at hi
    repeat' (first|(first|(refine jl ?_;first|refine jbl ?_|refine j1 ?_|refine j4 ?_|refine j6 ?_|refine j14 ?_|refine ji1 ?_)|(refine jc ?_;first|refine c1 ?_|refine c2 ?_|refine c5 ?_|refine c6 ?_|refine c7 ?_)|refine n1 ?_|refine n2 ?_|refine n5 ?_|refine n6 ?_|refine n10 ?_|refine n11 ?_)|(refine c9 (fun h=>?_) (fun h=>?_)<;>((try simp only [Bool.or_eq_true, Bool.and_eq_true, Bool.or_eq_false_iff, Bool.and_eq_false_iff, Bool.not_eq_true', Bool.not_eq_false', decide_eq_true_eq, decide_eq_false_iff_not, Bool.false_eq_true, Bool.true_eq_false, reduceCtorEq] at h) <;> (try simp (disch := omega) only [sb_bt, w64, Int.reduceAdd, Int.reduceToNat, Int.toNat_natCast, not_true_eq_false, false_or] at h) <;> (try (exfalso; omega)))))
    · rw [if_pos (by simp [isS, h])] at hi
      rw [attrN, attrB, ← hi, if_neg (by omega), decide_eq_true (by omega)]
      exact ge rfl
    · rw [if_neg (by simp [isS, h]), ← h2] at hi
      exact nx_for (i + 1) hi (by omega) ⟨⟨_, rfl, wk1 (by omega)⟩, trivial⟩
theorem q_index_classes {σ : St} {f : FuncId} {caps : List AV} (g : Cls → Bool) (hent : entered Tryd.prog f = true) (nl : Option Bool) (full : Bool) (l : List Cls) (hf : ∀ x : Cls, ACalls Tryd.prog f ([.agg (cc x)] ++ caps) σ (fun e σ' => e = .ret (.v (.bool (g x))) ∧ σ' = σ)) : ACalls Tryd.prog 77 [.sl nl full 2 (l.map cc), .fn f caps] σ (fun e σ' => e = .ret (.v (.int .i64 (idxG g l 0))) ∧ σ' = σ) := by
  refine enterS Tryd.func77 rfl rfl rfl rfl ?_
  refine cj_len 0 (fun hm => ?_)
  have hn : (l.map cc).length = l.length := List.length_map ..
  repeat (first|(refine jl ?_;first|refine j1 ?_|refine j4 ?_)|(refine jc ?_;first|refine c1 ?_|refine c2 ?_|refine c5 ?_))
  refine cj_fors (fun i : Nat => idxG g (l.drop i) i = idxG g l 0) (fun i => [(8, .v (.int .i64 i))]) (fun i => l.length - i) 0 rfl ⟨⟨_, rfl, fun _ _ h => h⟩, trivial⟩ (fun i hi => ?_)
  rcases hd : l.drop i with _ | ⟨x, r⟩
  · have h0 := dropn hd
    rw [hd, idxG] at hi
    repeat' (first|(first|(refine jl ?_;first|refine j1 ?_|refine j4 ?_)|(refine jc ?_;first|refine c1 ?_|refine c2 ?_|refine c7 ?_|refine c8 ?_)|refine n1 ?_|refine n3 ?_|refine n7 ?_|refine n8 ?_|refine n11 ?_)|(refine c9 (fun h=>?_) (fun h=>?_)<;>((try simp only [Bool.or_eq_true, Bool.and_eq_true, Bool.or_eq_false_iff, Bool.and_eq_false_iff, Bool.not_eq_true', Bool.not_eq_false', decide_eq_true_eq, decide_eq_false_iff_not, Bool.false_eq_true, Bool.true_eq_false, reduceCtorEq] at h) <;> (try simp (disch := omega) only [sb_bt, w64, Int.reduceAdd, Int.reduceToNat, Int.toNat_natCast, not_true_eq_false, false_or] at h) <;> (try (exfalso; omega)))))
    rw [← hi]
    exact ge rfl
  · obtain ⟨h1, h2, h3⟩ := dropc hd
    have h4 := get_map cc h3
    rw [hd, idxG] at hi
    repeat' (first|(first|(refine jl ?_;first|refine jbl ?_|refine j1 ?_|refine j4 ?_|refine j6 ?_|refine ji1 ?_|refine jcs hent (hf x) ?_)|(refine jc ?_;first|refine c1 ?_|refine c2 ?_|refine c5 ?_|refine c6 ?_|refine c7 ?_)|refine n1 ?_|refine n2 ?_|refine n5 ?_|refine n6 ?_|refine n10 ?_|refine n11 ?_)|(refine c9 (fun h=>?_) (fun h=>?_)<;>((try simp only [Bool.or_eq_true, Bool.and_eq_true, Bool.or_eq_false_iff, Bool.and_eq_false_iff, Bool.not_eq_true', Bool.not_eq_false', decide_eq_true_eq, decide_eq_false_iff_not, Bool.false_eq_true, Bool.true_eq_false, reduceCtorEq] at h) <;> (try simp (disch := omega) only [sb_bt, w64, Int.reduceAdd, Int.reduceToNat, Int.toNat_natCast, not_true_eq_false, false_or] at h) <;> (try (exfalso; omega)))))
    · rw [if_pos h] at hi
      rw [← hi]
      exact ge rfl
    · rw [if_neg (by rw [h]; simp), ← h2] at hi
      exact nx_for (i + 1) hi (by omega) ⟨⟨_, rfl, wk1 (by omega)⟩, trivial⟩
theorem q_index_bounds {σ : St} {f : FuncId} {caps : List AV} (g : Bd → Bool) (hent : entered Tryd.prog f = true) (nl : Option Bool) (full : Bool) (l : List Bd) (hf : ∀ x : Bd, ACalls Tryd.prog f ([.agg (bc x)] ++ caps) σ (fun e σ' => e = .ret (.v (.bool (g x))) ∧ σ' = σ)) : ACalls Tryd.prog 63 [.sl nl full 4 (l.map bc), .fn f caps] σ (fun e σ' => e = .ret (.v (.int .i64 (idxG g l 0))) ∧ σ' = σ) := by
  refine enterS Tryd.func63 rfl rfl rfl rfl ?_
  refine cj_len 0 (fun hm => ?_)
  have hn : (l.map bc).length = l.length := List.length_map ..
  repeat (first|(refine jl ?_;first|refine j1 ?_|refine j4 ?_)|(refine jc ?_;first|refine c1 ?_|refine c2 ?_|refine c5 ?_))
  refine cj_fors (fun i : Nat => idxG g (l.drop i) i = idxG g l 0) (fun i => [(8, .v (.int .i64 i))]) (fun i => l.length - i) 0 rfl ⟨⟨_, rfl, fun _ _ h => h⟩, trivial⟩ (fun i hi => ?_)
  rcases hd : l.drop i with _ | ⟨x, r⟩
  · have h0 := dropn hd
    rw [hd, idxG] at hi
    repeat' (first|(first|(refine jl ?_;first|refine j1 ?_|refine j4 ?_)|(refine jc ?_;first|refine c1 ?_|refine c2 ?_|refine c7 ?_|refine c8 ?_)|refine n1 ?_|refine n3 ?_|refine n7 ?_|refine n8 ?_|refine n11 ?_)|(refine c9 (fun h=>?_) (fun h=>?_)<;>((try simp only [Bool.or_eq_true, Bool.and_eq_true, Bool.or_eq_false_iff, Bool.and_eq_false_iff, Bool.not_eq_true', Bool.not_eq_false', decide_eq_true_eq, decide_eq_false_iff_not, Bool.false_eq_true, Bool.true_eq_false, reduceCtorEq] at h) <;> (try simp (disch := omega) only [sb_bt, w64, Int.reduceAdd, Int.reduceToNat, Int.toNat_natCast, not_true_eq_false, false_or] at h) <;> (try (exfalso; omega)))))
    rw [← hi]
    exact ge rfl
  · obtain ⟨h1, h2, h3⟩ := dropc hd
    have h4 := get_map bc h3
    rw [hd, idxG] at hi
    repeat' (first|(first|(refine jl ?_;first|refine jbl ?_|refine j1 ?_|refine j4 ?_|refine j6 ?_|refine ji1 ?_|refine jcs hent (hf x) ?_)|(refine jc ?_;first|refine c1 ?_|refine c2 ?_|refine c5 ?_|refine c6 ?_|refine c7 ?_)|refine n1 ?_|refine n2 ?_|refine n5 ?_|refine n6 ?_|refine n10 ?_|refine n11 ?_)|(refine c9 (fun h=>?_) (fun h=>?_)<;>((try simp only [Bool.or_eq_true, Bool.and_eq_true, Bool.or_eq_false_iff, Bool.and_eq_false_iff, Bool.not_eq_true', Bool.not_eq_false', decide_eq_true_eq, decide_eq_false_iff_not, Bool.false_eq_true, Bool.true_eq_false, reduceCtorEq] at h) <;> (try simp (disch := omega) only [sb_bt, w64, Int.reduceAdd, Int.reduceToNat, Int.toNat_natCast, not_true_eq_false, false_or] at h) <;> (try (exfalso; omega)))))
    · rw [if_pos h] at hi
      rw [← hi]
      exact ge rfl
    · rw [if_neg (by rw [h]; simp), ← h2] at hi
      exact nx_for (i + 1) hi (by omega) ⟨⟨_, rfl, wk1 (by omega)⟩, trivial⟩
theorem p_indexs (nl : Option Bool) (full : Bool) (l : List ByteArray) (nm : ByteArray) : Pure Tryd.prog 95 [.sl nl full 1 (l.map str1), .v (.string nm)] (.v (.int .i64 (attrI nm l))) := by
  refine enterW Tryd.func95 rfl rfl rfl rfl (fun σ => ?_)
  refine cj_len 0 (fun hm => ?_)
  have hn : (l.map str1).length = l.length := List.length_map ..
  repeat (first|(refine jl ?_;first|refine j1 ?_|refine j4 ?_)|(refine jc ?_;first|refine c1 ?_|refine c2 ?_|refine c5 ?_))
  refine cj_fors (fun i : Nat => idxG (isS nm) (l.drop i) i = attrI nm l) (fun i => [(8, .v (.int .i64 i))]) (fun i => l.length - i) 0 rfl ⟨⟨_, rfl, fun _ _ h => h⟩, trivial⟩ (fun i hi => ?_)
  rcases hd : l.drop i with _ | ⟨x, r⟩
  · have h0 := dropn hd
    rw [hd, idxG] at hi
    repeat' (first|(first|(refine jl ?_;first|refine j1 ?_|refine j4 ?_)|(refine jc ?_;first|refine c1 ?_|refine c2 ?_|refine c7 ?_|refine c8 ?_)|refine n1 ?_|refine n3 ?_|refine n7 ?_|refine n8 ?_|refine n11 ?_)|(refine c9 (fun h=>?_) (fun h=>?_)<;>((try simp only [Bool.or_eq_true, Bool.and_eq_true, Bool.or_eq_false_iff, Bool.and_eq_false_iff, Bool.not_eq_true', Bool.not_eq_false', decide_eq_true_eq, decide_eq_false_iff_not, Bool.false_eq_true, Bool.true_eq_false, reduceCtorEq] at h) <;> (try simp (disch := omega) only [sb_bt, w64, Int.reduceAdd, Int.reduceToNat, Int.toNat_natCast, not_true_eq_false, false_or] at h) <;> (try (exfalso; omega)))))
    rw [← hi]
    exact ge rfl
  · obtain ⟨h1, h2, h3⟩ := dropc hd
    have h4 := get_map str1 h3
    rw [hd, idxG] at hi
    repeat' (first|(first|(refine jl ?_;first|refine jbl ?_|refine j1 ?_|refine j4 ?_|refine j6 ?_|refine ji1 ?_)|(refine jc ?_;first|refine c1 ?_|refine c2 ?_|refine c5 ?_|refine c6 ?_|refine c7 ?_)|refine n1 ?_|refine n2 ?_|refine n5 ?_|refine n6 ?_|refine n10 ?_|refine n11 ?_)|(refine c9 (fun h=>?_) (fun h=>?_)<;>((try simp only [Bool.or_eq_true, Bool.and_eq_true, Bool.or_eq_false_iff, Bool.and_eq_false_iff, Bool.not_eq_true', Bool.not_eq_false', decide_eq_true_eq, decide_eq_false_iff_not, Bool.false_eq_true, Bool.true_eq_false, reduceCtorEq] at h) <;> (try simp (disch := omega) only [sb_bt, w64, Int.reduceAdd, Int.reduceToNat, Int.toNat_natCast, not_true_eq_false, false_or] at h) <;> (try (exfalso; omega)))))
    · rw [if_pos (by simp [isS, h])] at hi
      rw [← hi]
      exact ge rfl
    · rw [if_neg (by simp [isS, Ne.symm h]), ← h2] at hi
      exact nx_for (i + 1) hi (by omega) ⟨⟨_, rfl, wk1 (by omega)⟩, trivial⟩
theorem p_attr (c : Cls) (nm : ByteArray) : Pure Tryd.prog 55 [.agg (cc c), .v (.string nm)] (.tup [.v (.int .i64 (attrN nm c.attrs)), .v (.bool (attrB nm c.attrs))]) := by
  refine enterW Tryd.func55 rfl rfl rfl rfl (fun σ => ?_)
  repeat (first|(refine jl ?_;first|refine j1 ?_|refine j4 ?_|refine j12 (fun id hid=>?_)|refine j14 ?_|refine jp (p_indexs _ _ _ _) ?_)|(refine jc ?_;first|refine c1 ?_|refine c2 ?_|refine c7 ?_)|refine n11 ?_)
  refine gvs (fin_two (.wk (Wk.of_eq ?_)) (Fin.refl _ _ _))
  rw [attrN]
theorem q_find1 {σ : St} {id : Nat} {nm : ByteArray} (hid : σ id = some (.row 1 9 [[.v (.string nm)]])) (x : Cls) : ACalls Tryd.prog 94 [.agg (cc x), .ptr id 1 0 0] σ (fun e σ' => e = .ret (.v (.bool (isC nm x))) ∧ σ' = σ) := by
  refine enterS Tryd.func94 rfl rfl rfl rfl ?_
  repeat (first|(refine jl ?_;first|refine j1 ?_|refine j4 ?_|refine j12 (fun id hid=>?_)|refine j14 ?_)|(refine jc ?_;first|refine c1 ?_|refine c2 ?_|refine c7 ?_)|refine n11 ?_)
  exact ge rfl
theorem p_find (nl : Option Bool) (full : Bool) (l : List Cls) (nm : ByteArray) : Pure Tryd.prog 53 [.sl nl full 2 (l.map cc), .v (.string nm)] (.tup [.agg (cc ((findC nm l).getD noC)), .v (.bool (findC nm l).isSome)]) := by
  refine enterW Tryd.func53 rfl rfl rfl rfl (fun σ => ?_)
  repeat (first|(refine jl ?_;first|refine j1 ?_|refine j4 ?_|refine j12 (fun id hid=>?_)|refine j13 (fun id hid=>?_))|(refine jc ?_;first|refine c1 ?_|refine c2 ?_))
  rename_i b hb
  have h5 := idxG_lt (isC nm) l 0
  have h6 := idxG_get (isC nm) l 0
  repeat' (first|(first|(refine jl ?_;first|refine jb ?_|refine j1 ?_|refine j4 ?_|refine j17t ?_|refine lj_to rfl rfl rfl (q_index_classes (isC nm) rfl nl full l (fun x => q_find1 (St.set_ne2 (St.nn0 hid) (St.set_same _ _ _)) x)) ?_)|(refine jc ?_;first|refine c1 ?_|refine c2 ?_|refine c6 ?_|refine c7 ?_)|refine n1 ?_|refine n2 ?_|refine n15 ?_)|(refine c9 (fun h=>?_) (fun h=>?_)<;>(try simp only [Bool.or_eq_true, Bool.and_eq_true, Bool.or_eq_false_iff, Bool.and_eq_false_iff, Bool.not_eq_true', Bool.not_eq_false', decide_eq_true_eq, decide_eq_false_iff_not, Bool.false_eq_true, Bool.true_eq_false, reduceCtorEq] at h)))
  · have : findC nm l = none := by rw [findC, List.find?_eq_none]; intro x hx; simp [h5.1 h x hx]
    rw [this]
    exact gvs (fin_two (.wk (Wk.agg ⟨Wk.refl _, Wk.sl _ _ _ _, trivial⟩)) (Fin.refl _ _ _))
  · obtain ⟨j, x, e1, e2, e3, e4⟩ := h6 (by omega)
    rw [Nat.zero_add] at e1
    have h7 := get_map cc e2
    rw [e1]
    repeat (first|(refine jl ?_;first|refine jbl ?_|refine j1 ?_|refine j4 ?_|refine j17t ?_|refine ji1 ?_)|(refine jc ?_;first|refine c7 ?_)|refine n15 ?_)
    have : findC nm l = some x := e4
    rw [this]
    exact ge rfl
end Go.Proofs.YtddljegbggncdaaDoor.Ab

/- Values: signs of preds, the code points of words. -/
set_option linter.unusedVariables false
set_option linter.unusedSimpArgs false
set_option maxRecDepth 20000
namespace Go.Proofs.YtddljegbggncdaaDoor.Ab
open Go
attribute [local irreducible] thn inb endR CJ LJ OpJ DJ

theorem p_signv (p : Int) (h0 : 0 ≤ p) (h1 : p < 256) : Pure Tryd.prog 90 [.v (.int .u8 p)] (.v (.string (signS p))) := by
  refine enterW Tryd.func90 rfl rfl rfl rfl (fun σ => ?_)
  have hw : IntKind.i64.wrap p = p := by rw [IntKind.wrap_i64]; omega
  repeat (first|(refine jl ?_;first|refine j1 ?_|refine j4 ?_)|(refine jc ?_;first|refine c1 ?_|refine c2 ?_))
  refine lj_v rfl (fun R hR => opj_build_arr (n := 6) rfl rfl rfl rfl rfl rfl hR) ?_
  repeat (first|(refine jl ?_;first|refine j1 ?_|refine j4 ?_|refine j13 (fun id hid=>?_)|refine j17t ?_)|(refine jc ?_;first|refine c1 ?_|refine c2 ?_))
  rw [hw]
  repeat' (first |(first|(refine jl ?_;first|refine j1 ?_|refine j4 ?_)|(refine jc ?_;first|refine c1 ?_|refine c2 ?_|refine c6 ?_|refine c7 ?_)|refine n1 ?_|refine n2 ?_|refine n11 ?_)|(refine c9 (fun h=>?_) (fun h=>?_) <;> (try (exfalso; simp at h; done))))
  · simp only [decide_eq_true_eq] at h
    refine gives (by (try rw [St.set_set]); exact St.le_set _ (by assumption)) (fin_one (.wk (Wk.of_eq ?_)))
    unfold signS
    rw [if_neg (by omega), if_neg (by omega), if_neg (by omega), if_neg (by omega), if_neg (by omega), if_neg (by omega)]
  · simp only [decide_eq_false_iff_not] at h
    have hp : p = 0 ∨ p = 1 ∨ p = 2 ∨ p = 3 ∨ p = 4 ∨ p = 5 := by omega
    refine lj_v rfl (fun R hR => opj_indexAddr_arr (n := 6) rfl rfl rfl rfl rfl h0 (by omega) hR) ?_
    rcases hp with rfl | rfl | rfl | rfl | rfl | rfl
    all_goals
      repeat (first|(refine jl ?_;first|refine j1 ?_|refine j4 ?_|refine j14 ?_)|(refine jc ?_;first|refine c7 ?_)|refine n11 ?_)
      exact gives (by (try rw [St.set_set]); exact St.le_set _ (by assumption)) (fin_one (.wk (Wk.of_eq rfl)))
def inP (c : Int) : Prop := 128 ≤ c ∨ (97 ≤ c ∧ c ≤ 122) ∨ (65 ≤ c ∧ c ≤ 90) ∨ (48 ≤ c ∧ c ≤ 57) ∨ c = 95 ∨ c = 45 ∨ c = 63 ∨ c = 33 ∨ c = 43 ∨ c = 42 ∨ c = 46
instance (c : Int) : Decidable (inP c) := by unfold inP; exact inferInstance
theorem in_yes {c : Int} (h : inP c) : Wk (.v (.bool true)) (.v (.bool (decide (inP c)))) := Wk.of_eq (by rw [decide_eq_true h])
theorem in_no {c : Int} (h : ¬ inP c) : Wk (.v (.bool false)) (.v (.bool (decide (inP c)))) := Wk.of_eq (by rw [decide_eq_false h])
end Go.Proofs.YtddljegbggncdaaDoor.Ab

/- Values: the code points of words. -/
set_option linter.unusedVariables false
set_option linter.unusedSimpArgs false
set_option maxRecDepth 20000
namespace Go.Proofs.YtddljegbggncdaaDoor.Ab
open Go
attribute [local irreducible] thn inb endR CJ LJ OpJ DJ

theorem in_dec {c : Int} {b : Bool} (h : if b then inP c else ¬ inP c) : Wk (.v (.bool b)) (.v (.bool (decide (inP c)))) := by
  cases b with
  | true => exact in_yes (by simpa using h)
  | false => exact in_no (by simpa using h)
theorem p_in (c : Int) : Pure Tryd.prog 146 [.v (.int .i32 c)] (.v (.bool (decide (inP c)))) := by
  refine enterW Tryd.func146 rfl rfl rfl rfl (fun σ => ?_)
  repeat' (first|(first|(refine jl ?_;first|refine j8 ?_|refine j1 ?_|refine j4 ?_|refine j9 ?_)|(refine jc ?_;first|refine c1 ?_|refine c2 ?_|refine c3 ?_|refine c5 ?_|refine c6 ?_|refine c7 ?_)|refine n1 ?_|refine n2 ?_|refine n6 ?_|refine n10 ?_|refine n11 ?_)|(refine c9 (fun h=>?_) (fun h=>?_)<;>(try simp only [Bool.or_eq_true, Bool.and_eq_true, Bool.or_eq_false_iff, Bool.and_eq_false_iff, Bool.not_eq_true', Bool.not_eq_false', decide_eq_true_eq, decide_eq_false_iff_not, Bool.false_eq_true, Bool.true_eq_false, reduceCtorEq] at h)))
  all_goals refine gives (St.le_refl _) (fin_one (.wk (in_dec ?_)))
  all_goals simp only [Bool.false_eq_true, if_true, if_false]
  all_goals unfold inP
  all_goals omega
end Go.Proofs.YtddljegbggncdaaDoor.Ab

/-
  DERIVED: THE SHELF's CONTRACTS AT THIS DUMP, IN PLAIN WORDS (tools/lay-plain.mjs out of 'YtddljegbggncdaaDoorShelf.lean', which tools/lay-shelf.mjs wrote): THE SAME DECLARATIONS UNDER THE SAME YtddljegbggncdaaDoorS: 'import', 'namespace', 'open', 'def', 'theorem' AND NOTHING ELSE: no command of the shelf's: FOR A HAND-IN. Each laying: the table of numbers ('.._ren') and one theorem, a field a fact of the dump's own or the kernel's comparison; each contract: ONE APPLICATION.
-/
namespace Go.Proofs
open Go.Shelf
def Tryd.laysValid_ren : Go.Shelf.Ren := ⟨fun | 196 => 145 | 259 => 151 | n => n, fun | 9 => 9 | 4 => 4 | 3 => 3 | 5 => 5 | 12 => 12 | 119 => 189 | 0 => 0 | 46 => 147 | 139 => 192 | 138 => 191 | 53 => 193 | n => n, fun | 3 => 0 | 4 => 1 | n => n⟩
theorem Tryd.laysValid : Go.Proofs.Lays.n196 Tryd.prog Tryd.laysValid_ren := {
  mixed := by kernel_rfl
  f196 := Tryd.func145.trans (congrArg some (by kernel_rfl))
  f259 := Tryd.func151.trans (congrArg some (by kernel_rfl))
  t0 := Tryd.underlying0
  a0 := Tryd.isAgg0
  z0 := Tryd.sizeOf0
  v0 := Tryd.zeroValue0
  t3 := Tryd.underlying3
  a3 := Tryd.isAgg3
  z3 := Tryd.sizeOf3
  v3 := Tryd.zeroValue3
  t4 := Tryd.underlying4
  a4 := Tryd.isAgg4
  z4 := Tryd.sizeOf4
  v4 := Tryd.zeroValue4
  t5 := Tryd.underlying5
  a5 := Tryd.isAgg5
  z5 := Tryd.sizeOf5
  v5 := Tryd.zeroValue5
  t9 := Tryd.underlying9
  a9 := Tryd.isAgg9
  z9 := Tryd.sizeOf9
  v9 := Tryd.zeroValue9
  t12 := Tryd.underlying12
  a12 := Tryd.isAgg12
  z12 := Tryd.sizeOf12
  v12 := Tryd.zeroValue12
  t46 := Tryd.underlying147
  a46 := Tryd.isAgg147
  z46 := Tryd.sizeOf147
  v46 := Tryd.zeroValue147
  t53 := Tryd.underlying193
  a53 := Tryd.isAgg193
  z53 := Tryd.sizeOf193
  v53 := Tryd.zeroValue193
  t119 := Tryd.underlying189
  a119 := Tryd.isAgg189
  z119 := Tryd.sizeOf189
  t138 := Tryd.underlying191
  a138 := Tryd.isAgg191
  z138 := Tryd.sizeOf191
  v138 := Tryd.zeroValue191
  t139 := Tryd.underlying192
  a139 := Tryd.isAgg192
  z139 := Tryd.sizeOf192
  v139 := Tryd.zeroValue192
  g3 := by kernel_rfl
  g4 := by kernel_rfl }
end Go.Proofs

/- Go's own utf8.ValidString, by the shelf's contract. -/
set_option linter.unusedVariables false
set_option linter.unusedSimpArgs false
set_option maxRecDepth 20000
namespace Go.Proofs.YtddljegbggncdaaDoor.Ab
open Go Go.RowKit
theorem pure_below {P : Program} {f : FuncId} {args : List AV} {x : Value} (hx : x.oneCell' = true) (h : ∀ (k : Cx) (vs : List Value), Ok k → Reps k args vs → Calls P f vs.toArray k.w (fun e w' => e = .returned x ∧ Below k.w.heap.size k.w w')) : Pure P f args (.v x) := fun σ k vs hσ hk hv =>
  (h k vs hk hv).mono fun e w' ⟨h1, h2⟩ => by
    obtain ⟨hok, hst⟩ := hk.world w' h2.os h2.tape h2.output h2.size h2.block
    subst h1
    exact ⟨{ k with w := w' }, .ret (.v x), rfl, hok, hst, .v hx, rfl, hσ ▸ St.le_refl _⟩
theorem reps_one {k : Cx} {x : Value} {vs : List Value} (h : Reps k [.v x] vs) : vs = [x] := by
  obtain ⟨h1, h2⟩ := h
  match vs, h1 with
  | [v], _ =>
    have := h2 0 (.v x) v rfl rfl
    cases this
    rfl
theorem p_valid (s : ByteArray) (hs : s.size ≤ 9223372036854775807) : Pure Tryd.prog 145 [.v (.string s)] (.v (.bool (Lib.validD s.data.toList))) :=
  pure_below rfl fun k vs hk hv => by
    rw [reps_one hv]
    exact Any.utf8_ValidString Tryd.laysValid s k.w hs hk.gr.1
end Go.Proofs.YtddljegbggncdaaDoor.Ab

/- Values: the reference's own code points. -/
set_option linter.unusedVariables false
set_option linter.unusedSimpArgs false
set_option maxRecDepth 20000
namespace Go.Proofs.YtddljegbggncdaaDoor.Ab
open Go
attribute [local irreducible] thn inb endR CJ LJ OpJ DJ

/-- The reference's own: a code point and its width, or nothing. -/
def runeN (n b0 b1 b2 b3 : Nat) : Nat × Nat :=
  if b0 < 128 then (b0, 1)
  else if b0 < 194 then (0, 0)
  else if b0 < 224 then (if n < 2 ∨ b1 < 128 ∨ 191 < b1 then (0, 0) else (64 * (b0 - 192) + b1 - 128, 2))
  else if b0 < 240 then (if n < 3 ∨ b1 < 128 ∨ 191 < b1 ∨ b2 < 128 ∨ 191 < b2 ∨ 64 * (64 * (b0 - 224) + b1 - 128) + b2 - 128 < 2048 ∨ (55296 ≤ 64 * (64 * (b0 - 224) + b1 - 128) + b2 - 128 ∧ 64 * (64 * (b0 - 224) + b1 - 128) + b2 - 128 < 57344) then (0, 0) else (64 * (64 * (b0 - 224) + b1 - 128) + b2 - 128, 3))
  else if b0 < 245 then (if n < 4 ∨ b1 < 128 ∨ 191 < b1 ∨ b2 < 128 ∨ 191 < b2 ∨ b3 < 128 ∨ 191 < b3 ∨ 64 * (64 * (64 * (b0 - 240) + b1 - 128) + b2 - 128) + b3 - 128 < 65536 ∨ 1114111 < 64 * (64 * (64 * (b0 - 240) + b1 - 128) + b2 - 128) + b3 - 128 then (0, 0) else (64 * (64 * (64 * (b0 - 240) + b1 - 128) + b2 - 128) + b3 - 128, 4))
  else (0, 0)
theorem runeN_dec (n b0 b1 b2 b3 : Nat) (h0 : b0 < 256) (h1 : b1 < 256) (h2 : b2 < 256) (h3 : b3 < 256) : runeN n b0 b1 b2 b3 = if (Lib.decodeN n b0 b1 b2 b3).1 = 65533 ∧ (Lib.decodeN n b0 b1 b2 b3).2 = 1 then (0, 0) else Lib.decodeN n b0 b1 b2 b3 := by
  unfold runeN Lib.decodeN
  repeat' split
  all_goals try dsimp only at *
  all_goals first | (exfalso; omega) | (refine Prod.ext ?_ ?_ <;> dsimp only <;> omega)
def runeS (s : ByteArray) : Nat × Nat := runeN s.size (bt s 0) (bt s 1) (bt s 2) (bt s 3)
set_option maxHeartbeats 4000000 in
theorem p_rrune (s : ByteArray) (hs : 0 < s.size) : Pure Tryd.prog 142 [.v (.string s)] (.tup [.v (.int .i64 (runeS s).1), .v (.int .i64 (runeS s).2)]) := by
  refine enterW Tryd.func142 rfl rfl rfl rfl (fun σ => ?_)
  have hb0 := bt_lt s 0
  have hb1 := bt_lt s 1
  have hb2 := bt_lt s 2
  have hb3 := bt_lt s 3
  repeat' (first|(first|(refine jl ?_;first|refine j8 ?_|refine j1 ?_|refine j4 ?_|refine j6 ?_|refine j9 ?_|refine j18 ?_)|(refine jc ?_;first|refine c1 ?_|refine c2 ?_|refine c5 ?_|refine c6 ?_|refine c7 ?_)|refine n1 ?_|refine n2 ?_|refine n6 ?_|refine n10 ?_|refine n11 ?_)|(refine c9 (fun h=>?_) (fun h=>?_)<;>((try simp only [Bool.or_eq_true, Bool.and_eq_true, Bool.or_eq_false_iff, Bool.and_eq_false_iff, Bool.not_eq_true', Bool.not_eq_false', decide_eq_true_eq, decide_eq_false_iff_not, Bool.false_eq_true, Bool.true_eq_false, reduceCtorEq] at h) <;> (try simp (disch := omega) only [sb_bt, w64, Int.reduceAdd, Int.reduceToNat, Int.toNat_natCast, not_true_eq_false, false_or] at h) <;> (try (exfalso; omega)))))
  all_goals try (refine cj_unroll 3 ?_)
  repeat' (first|(first|(refine jl ?_;first|refine j7 ?_|refine j8 ?_|refine j10 ?_|refine j11 ?_|refine j1 ?_|refine j4 ?_|refine j5 ?_|refine j6 ?_|refine j9 ?_|refine j18 ?_|refine j20 ?_)|(refine jc ?_;first|refine c1 ?_|refine c2 ?_|refine c5 ?_|refine c6 ?_|refine c7 ?_|refine c8 ?_)|refine n1 ?_|refine n2 ?_|refine n3 ?_|refine n5 ?_|refine n6 ?_|refine n7 ?_|refine n8 ?_|refine n10 ?_|refine n11 ?_)|(refine c9 (fun h=>?_) (fun h=>?_)<;>((try simp only [Bool.or_eq_true, Bool.and_eq_true, Bool.or_eq_false_iff, Bool.and_eq_false_iff, Bool.not_eq_true', Bool.not_eq_false', decide_eq_true_eq, decide_eq_false_iff_not, Bool.false_eq_true, Bool.true_eq_false, reduceCtorEq] at h) <;> (try simp (disch := omega) only [sb_bt, w64, Int.reduceAdd, Int.reduceToNat, Int.toNat_natCast, not_true_eq_false, false_or] at h) <;> (try (exfalso; omega)))))
  all_goals try (simp (disch := omega) only [sb_bt, w64, Int.reduceAdd, Int.reduceToNat, not_true_eq_false, false_or] at *)
  all_goals refine gives (St.le_refl _) (fin_two (.wk (Wk.of_eq ?_)) (.wk (Wk.of_eq ?_)))
  all_goals simp only [ofLeaf, runeS, runeN, AV.v.injEq, Value.int.injEq, true_and]
  all_goals repeat' split
  all_goals omega
end Go.Proofs.YtddljegbggncdaaDoor.Ab

/- Values: words. -/
set_option linter.unusedVariables false
set_option linter.unusedSimpArgs false
set_option maxRecDepth 20000
namespace Go.Proofs.YtddljegbggncdaaDoor.Ab
open Go
attribute [local irreducible] thn inb endR CJ LJ OpJ DJ

/-- All code points of a text may stand in a word; each one is right. -/
def wordF : Nat → List UInt8 → Bool
  | 0, _ => true
  | n + 1, l => if l = [] then true else if (Lib.decodeL l).1 = 65533 ∧ (Lib.decodeL l).2 = 1 then false else decide (inP (Lib.decodeL l).1) && wordF n (l.drop (Lib.decodeL l).2)
theorem wordF_nil (n : Nat) : wordF n [] = true := by cases n <;> rfl
theorem wordF_fuel : ∀ (n m : Nat) (l : List UInt8), l.length ≤ n → l.length ≤ m → wordF n l = wordF m l
  | 0, m, l, hn, _ => by
    have : l = [] := List.eq_nil_of_length_eq_zero (by omega)
    subst this
    rw [wordF_nil, wordF_nil]
  | n + 1, 0, l, _, hm => by
    have : l = [] := List.eq_nil_of_length_eq_zero (by omega)
    subst this
    rw [wordF_nil, wordF_nil]
  | n + 1, m + 1, l, hn, hm => by
    unfold wordF
    by_cases hne : l = []
    · simp [hne]
    · have hw := Lib.decodeL_width l
      have hl : 0 < l.length := List.length_pos_iff.2 hne
      rw [if_neg hne, if_neg hne, wordF_fuel n m (l.drop (Lib.decodeL l).2) (by rw [List.length_drop]; omega) (by rw [List.length_drop]; omega)]
def wordL (l : List UInt8) : Bool := wordF l.length l
theorem wordL_nil : wordL [] = true := rfl
theorem wordL_step (l : List UInt8) (hne : l ≠ []) : wordL l = if (Lib.decodeL l).1 = 65533 ∧ (Lib.decodeL l).2 = 1 then false else decide (inP (Lib.decodeL l).1) && wordL (l.drop (Lib.decodeL l).2) := by
  have hl : 0 < l.length := List.length_pos_iff.2 hne
  have hw := Lib.decodeL_width l
  obtain ⟨n, hn⟩ : ∃ n, l.length = n + 1 := ⟨l.length - 1, by omega⟩
  unfold wordL
  rw [hn]
  show (if l = [] then true else _) = _
  rw [if_neg hne, wordF_fuel n (l.drop (Lib.decodeL l).2).length _ (by rw [List.length_drop]; omega) (Nat.le_refl _)]
/-- What the walk over a right text tells. -/
theorem wordL_valid (l : List UInt8) (hne : l ≠ []) (hv : Lib.validD l = true) : wordL l = (decide (inP (Lib.decodeL l).1) && wordL (l.drop (Lib.decodeL l).2)) ∧ Lib.validD (l.drop (Lib.decodeL l).2) = true := by
  rw [Lib.validD_step l hne] at hv
  split at hv
  · cases hv
  · rename_i h
    rw [wordL_step l hne, if_neg h]
    exact ⟨rfl, hv⟩
theorem wordL_bad (n : Nat) : ∀ (l : List UInt8), l.length ≤ n → Lib.validD l = false → wordL l = false := by
  induction n with
  | zero =>
    intro l hl hv
    have : l = [] := List.eq_nil_of_length_eq_zero (by omega)
    subst this
    cases hv
  | succ n ih =>
    intro l hl hv
    by_cases hne : l = []
    · subst hne; cases hv
    · have hw := Lib.decodeL_width l
      have hl0 : 0 < l.length := List.length_pos_iff.2 hne
      rw [wordL_step l hne]
      rw [Lib.validD_step l hne] at hv
      split
      · rfl
      · rename_i h
        rw [if_neg h] at hv
        rw [ih _ (by rw [List.length_drop]; omega) hv, Bool.and_false]
def wordB (s : ByteArray) : Bool := decide (0 < s.size) && (decide (s.size ≤ 24) && wordL s.data.toList)
theorem bl_len (s : ByteArray) : s.data.toList.length = s.size := by rw [Array.length_toList]; rfl
theorem decodeL_rune' (s : ByteArray) (pos : Nat) : Utf8.decode s pos = Lib.decodeL (s.data.toList.drop pos) := (Lib.decodeL_drop s pos).symm
theorem p_word (s : ByteArray) : Pure Tryd.prog 135 [.v (.string s)] (.v (.bool (wordB s))) := by
  refine enterW Tryd.func135 rfl rfl rfl rfl (fun σ => ?_)
  repeat' (first|(first|(refine jl ?_;first|refine j7 ?_|refine j1 ?_|refine j4 ?_|refine j9 ?_|refine j22 (fun id hid=>?_)|refine jcq (hp:=fun hc=>p_valid s (by simp only [Bool.and_eq_true, decide_eq_true_eq, Bool.not_eq_true', Bool.or_eq_false_iff, decide_eq_false_iff_not] at hc; omega)) ?_)|(refine jc ?_;first|refine c1 ?_|refine c2 ?_|refine c5 ?_|refine c6 ?_|refine c7 ?_)|refine n1 ?_|refine n2 ?_|refine n11 ?_)|(refine c9 (fun h=>?_) (fun h=>?_)<;>(try simp only [Bool.or_eq_true, Bool.and_eq_true, Bool.or_eq_false_iff, Bool.and_eq_false_iff, Bool.not_eq_true', Bool.not_eq_false', decide_eq_true_eq, decide_eq_false_iff_not, Bool.false_eq_true, Bool.true_eq_false, reduceCtorEq] at h)))
  · refine gives (St.le_refl _) (fin_one (.wk (Wk.of_eq ?_)))
    have hw : wordB s = false := by
      unfold wordB
      rcases h with (h | h) | h
      · rw [decide_eq_false (by omega)]; rfl
      · rw [decide_eq_false (by omega : ¬ s.size ≤ 24)]; simp
      · rw [wordL_bad _ _ (Nat.le_refl _) h]; simp
    rw [hw]
  · obtain ⟨h1, h2⟩ := h
    have hw : wordB s = wordL s.data.toList := by
      unfold wordB
      rw [decide_eq_true (by omega), decide_eq_true (by omega : s.size ≤ 24)]
      rfl
    rw [hw]
    have hlen := bl_len s
    refine cj_head (fun p : Nat => wordL (s.data.toList.drop p) = wordL s.data.toList ∧ Lib.validD (s.data.toList.drop p) = true) (fun p => [(19, .it id)]) (fun p => σ.set id (.siter s p)) (fun p => s.size - p) 0 ⟨rfl, h2⟩ ⟨rfl, trivial⟩ (St.le_refl _) (fun p hp => ?_)
    obtain ⟨hp1, hp2⟩ := hp
    by_cases hlt : p < s.size
    · have hne : s.data.toList.drop p ≠ [] := by
        intro e
        have := congrArg List.length e
        simp at this
        omega
      have hstep := wordL_valid _ hne hp2
      have hdw := Lib.decodeL_width (s.data.toList.drop p)
      rw [List.drop_drop] at hstep
      repeat' (first|(first|(refine jl ?_;first|refine j1 ?_|refine j4 ?_|refine j23 ?_|refine jp (p_in _) ?_)|(refine jc ?_;first|refine c1 ?_|refine c2 ?_|refine c3 ?_|refine c5 ?_|refine c6 ?_|refine c7 ?_)|refine n1 ?_|refine n2 ?_|refine n5 ?_|refine n6 ?_|refine n10 ?_|refine n11 ?_)|(refine c9 (fun h=>?_) (fun h=>?_)<;>(try simp only [Bool.or_eq_true, Bool.and_eq_true, Bool.or_eq_false_iff, Bool.and_eq_false_iff, Bool.not_eq_true', Bool.not_eq_false', decide_eq_true_eq, decide_eq_false_iff_not, Bool.false_eq_true, Bool.true_eq_false, reduceCtorEq] at h)))
      · rw [decodeL_rune'] at h
        refine gives (by (try rw [St.set_set]); exact St.le_set _ hid) (fin_one (.wk (Wk.of_eq ?_)))
        rw [← hp1, hstep.1, decide_eq_false h]
        rfl
      · rw [decodeL_rune'] at h
        refine nx_thn ⟨p + (Utf8.decode s p).2, ?_, ?_, ⟨rfl, trivial⟩, by (try rw [St.set_set]); exact St.le_refl _⟩
        · rw [decodeL_rune']
          refine ⟨?_, hstep.2⟩
          rw [← hp1, hstep.1, decide_eq_true h, Bool.true_and]
        · rw [decodeL_rune']
          omega
    · have hnil : s.data.toList.drop p = [] := List.drop_of_length_le (by omega)
      repeat' (first|(first|(refine jl ?_;first|refine j1 ?_|refine j4 ?_|refine j24 ?_)|(refine jc ?_;first|refine c1 ?_|refine c2 ?_|refine c4 ?_|refine c7 ?_|refine c8 ?_)|refine n1 ?_|refine n3 ?_|refine n7 ?_|refine n8 ?_|refine n11 ?_))
      refine gives (St.le_set _ hid) (fin_one (.wk (Wk.of_eq ?_)))
      rw [← hp1, hnil]
      rfl
/-! ### The reference -/
theorem runeS_dec (s : ByteArray) : runeS s = if (Lib.decodeL s.data.toList).1 = 65533 ∧ (Lib.decodeL s.data.toList).2 = 1 then (0, 0) else Lib.decodeL s.data.toList := by
  unfold runeS
  rw [runeN_dec _ _ _ _ _ (bt_lt s 0) (bt_lt s 1) (bt_lt s 2) (bt_lt s 3), Lib.decodeL_N, bl_len]
  rfl
def inSigns : ByteArray := ⟨#[95, 45, 63, 33, 43, 42, 46]⟩
theorem inSigns_has (i : Nat) (h : i < 7) : inP (bt inSigns i : Int) := by
  have : i = 0 ∨ i = 1 ∨ i = 2 ∨ i = 3 ∨ i = 4 ∨ i = 5 ∨ i = 6 := by omega
  rcases this with rfl | rfl | rfl | rfl | rfl | rfl | rfl <;> decide
theorem inSigns_all (c : Int) (h : inP c) (h1 : c < 128 ∧ (¬97 ≤ c ∨ ¬c ≤ 122) ∧ (¬65 ≤ c ∨ ¬c ≤ 90) ∧ (¬48 ≤ c ∨ ¬c ≤ 57)) : ∃ i, i < 7 ∧ (bt inSigns i : Int) = c := by
  unfold inP at h
  have : c = 95 ∨ c = 45 ∨ c = 63 ∨ c = 33 ∨ c = 43 ∨ c = 42 ∨ c = 46 := by omega
  rcases this with rfl | rfl | rfl | rfl | rfl | rfl | rfl
  · exact ⟨0, by omega, rfl⟩
  · exact ⟨1, by omega, rfl⟩
  · exact ⟨2, by omega, rfl⟩
  · exact ⟨3, by omega, rfl⟩
  · exact ⟨4, by omega, rfl⟩
  · exact ⟨5, by omega, rfl⟩
  · exact ⟨6, by omega, rfl⟩
theorem p_rinword (c : Int) : Pure Tryd.prog 143 [.v (.int .i64 c)] (.v (.bool (decide (inP c)))) := by
  refine enterW Tryd.func143 rfl rfl rfl rfl (fun σ => ?_)
  repeat' (first|(first|(refine jl ?_;first|refine j7 ?_|refine j11 ?_|refine j1 ?_|refine j4 ?_|refine j9 ?_)|(refine jc ?_;first|refine c1 ?_|refine c2 ?_|refine c5 ?_|refine c6 ?_|refine c7 ?_)|refine n1 ?_|refine n2 ?_|refine n11 ?_)|(refine c9 (fun h=>?_) (fun h=>?_)<;>(try simp only [Bool.or_eq_true, Bool.and_eq_true, Bool.or_eq_false_iff, Bool.and_eq_false_iff, Bool.not_eq_true', Bool.not_eq_false', decide_eq_true_eq, decide_eq_false_iff_not, Bool.false_eq_true, Bool.true_eq_false, reduceCtorEq] at h)))
  · exact gives (St.le_refl _) (fin_one (.wk (in_yes (by unfold inP; omega))))
  · refine cj_head (fun i : Nat => i ≤ 7 ∧ ∀ j, j < i → (bt inSigns j : Int) ≠ c) (fun i => [(3, .v (.string inSigns)), (4, .v (.int .i64 i)), (0, .v (.int .i64 c))]) (fun _ => σ) (fun i => 7 - i) 0 ⟨by omega, fun j h => by omega⟩ ⟨rfl, rfl, rfl, trivial⟩ (St.le_refl _) (fun i hi => ?_)
    obtain ⟨hi1, hi2⟩ := hi
    have hz : inSigns.size = 7 := rfl
    have hb := bt_lt inSigns i
    repeat' (first|(first|(refine jl ?_;first|refine j1 ?_|refine j4 ?_|refine j6 ?_|refine j18 ?_)|(refine jc ?_;first|refine c1 ?_|refine c2 ?_|refine c5 ?_|refine c6 ?_|refine c7 ?_|refine c8 ?_)|refine n1 ?_|refine n2 ?_|refine n3 ?_|refine n5 ?_|refine n6 ?_|refine n7 ?_|refine n8 ?_|refine n10 ?_|refine n11 ?_)|(refine c9 (fun h=>?_) (fun h=>?_)<;>((try simp only [Bool.or_eq_true, Bool.and_eq_true, Bool.or_eq_false_iff, Bool.and_eq_false_iff, Bool.not_eq_true', Bool.not_eq_false', decide_eq_true_eq, decide_eq_false_iff_not, Bool.false_eq_true, Bool.true_eq_false, reduceCtorEq] at h) <;> (try simp (disch := omega) only [sb_bt, w64, Int.reduceAdd, Int.reduceToNat, Int.toNat_natCast, not_true_eq_false, false_or] at h) <;> (try (exfalso; omega)))))
    · refine gives (St.le_refl _) (fin_one (.wk (in_yes ?_)))
      rw [← h]
      exact inSigns_has i (by omega)
    · exact nx_thn ⟨i + 1, ⟨by omega, fun j hj => by
        by_cases e : j = i
        · rw [e]; exact h
        · exact hi2 j (by omega)⟩, by omega, ⟨rfl, by show some (AV.v (.int .i64 (IntKind.i64.wrap ((i : Int) + 1)))) = _; rw [w64 (by omega) (by omega)]; rfl, rfl, trivial⟩, St.le_refl _⟩
    · rename_i h1
      refine gives (St.le_refl _) (fin_one (.wk (in_no fun hp => ?_)))
      obtain ⟨j, hj, he⟩ := inSigns_all c hp ⟨by omega, by omega, by omega, by omega⟩
      exact hi2 j (by omega) he
theorem wordL_ext (s : ByteArray) (hs : 0 < s.size) : wordL s.data.toList = if (runeS s).2 = 0 then false else decide (inP (runeS s).1) && wordL (s.extract (runeS s).2 s.size).data.toList := by
  have hne : s.data.toList ≠ [] := fun e => by
    have := bl_len s
    rw [e] at this
    exact absurd this (by simp; omega)
  have hw := Lib.decodeL_width s.data.toList
  rw [wordL_step _ hne, runeS_dec]
  split
  · rfl
  · rw [if_neg (by omega), Lib.ext_list]
theorem runeS_le (s : ByteArray) (hs : 0 < s.size) : (runeS s).2 ≤ s.size := by
  have hne : s.data.toList ≠ [] := fun e => by
    have := bl_len s
    rw [e] at this
    exact absurd this (by simp; omega)
  have := Lib.decodeL_le s.data.toList hne
  rw [bl_len] at this
  rw [runeS_dec]
  split
  · exact Nat.zero_le _
  · exact this
theorem p_rword (s : ByteArray) : Pure Tryd.prog 127 [.v (.string s)] (.v (.bool (wordB s))) := by
  refine enterW Tryd.func127 rfl rfl rfl rfl (fun σ => ?_)
  repeat' (first|(first|(refine jl ?_;first|refine j7 ?_|refine j1 ?_|refine j4 ?_|refine j9 ?_)|(refine jc ?_;first|refine c1 ?_|refine c2 ?_|refine c5 ?_|refine c6 ?_|refine c7 ?_)|refine n1 ?_|refine n2 ?_|refine n11 ?_)|(refine c9 (fun h=>?_) (fun h=>?_)<;>(try simp only [Bool.or_eq_true, Bool.and_eq_true, Bool.or_eq_false_iff, Bool.and_eq_false_iff, Bool.not_eq_true', Bool.not_eq_false', decide_eq_true_eq, decide_eq_false_iff_not, Bool.false_eq_true, Bool.true_eq_false, reduceCtorEq] at h)))
  · refine gives (St.le_refl _) (fin_one (.wk (Wk.of_eq ?_)))
    have hw : wordB s = false := by
      unfold wordB
      rcases h with h | h
      · rw [decide_eq_false (by omega)]; rfl
      · rw [decide_eq_false (by omega : ¬ s.size ≤ 24)]; simp
    rw [hw]
  · have hw : wordB s = wordL s.data.toList := by
      unfold wordB
      rw [decide_eq_true (by omega), decide_eq_true (by omega : s.size ≤ 24)]
      rfl
    rw [hw]
    refine cj_head (fun t : ByteArray => wordL t.data.toList = wordL s.data.toList ∧ t.size ≤ 24) (fun t => [(0, .v (.string t))]) (fun _ => σ) (fun t => t.size) s ⟨rfl, by omega⟩ ⟨rfl, trivial⟩ (St.le_refl _) (fun t ht => ?_)
    obtain ⟨ht1, ht2⟩ := ht
    by_cases h0 : 0 < t.size
    · have hst := wordL_ext t h0
      have hle := runeS_le t h0
      repeat' (first|(first|(refine jl ?_;first|refine j7 ?_|refine j1 ?_|refine j4 ?_|refine j6 ?_|refine j9 ?_|refine j21 ?_|refine jp (p_rrune t h0) ?_|refine jcq (hp:=fun hc=>p_rinword _) ?_)|(refine jc ?_;first|refine c1 ?_|refine c2 ?_|refine c5 ?_|refine c6 ?_|refine c7 ?_)|refine n1 ?_|refine n2 ?_|refine n5 ?_|refine n6 ?_|refine n10 ?_|refine n11 ?_)|(refine c9 (fun h=>?_) (fun h=>?_)<;>((try simp only [Bool.or_eq_true, Bool.and_eq_true, Bool.or_eq_false_iff, Bool.and_eq_false_iff, Bool.not_eq_true', Bool.not_eq_false', decide_eq_true_eq, decide_eq_false_iff_not, Bool.false_eq_true, Bool.true_eq_false, reduceCtorEq] at h) <;> (try simp (disch := omega) only [sb_bt, w64, Int.reduceAdd, Int.reduceToNat, Int.toNat_natCast, not_true_eq_false, false_or] at h) <;> (try (exfalso; omega)))))
      · refine gives (St.le_refl _) (fin_one (.wk (Wk.of_eq ?_)))
        rw [← ht1, hst]
        split
        · rfl
        · rename_i hn
          have : ¬ inP ((runeS t).1 : Int) := by
            rcases h with h | h
            · omega
            · exact h
          rw [decide_eq_false this]
          rfl
      · rw [if_neg (by omega), decide_eq_true h.2, Bool.true_and] at hst
        refine nx_thn ⟨t.extract (runeS t).2 t.size, ⟨by rw [← ht1, hst], by rw [Lib.ext_size]; omega⟩, by rw [Lib.ext_size]; omega, ⟨rfl, trivial⟩, St.le_refl _⟩
    · have hnil : t.data.toList = [] := List.eq_nil_of_length_eq_zero (by rw [bl_len]; omega)
      repeat' (first|(first|(refine jl ?_;first|refine j1 ?_|refine j4 ?_)|(refine jc ?_;first|refine c1 ?_|refine c2 ?_|refine c7 ?_|refine c8 ?_)|refine n1 ?_|refine n3 ?_|refine n7 ?_|refine n8 ?_|refine n11 ?_)|(refine c9 (fun h=>?_) (fun h=>?_)<;>((try simp only [Bool.or_eq_true, Bool.and_eq_true, Bool.or_eq_false_iff, Bool.and_eq_false_iff, Bool.not_eq_true', Bool.not_eq_false', decide_eq_true_eq, decide_eq_false_iff_not, Bool.false_eq_true, Bool.true_eq_false, reduceCtorEq] at h) <;> (try simp (disch := omega) only [sb_bt, w64, Int.reduceAdd, Int.reduceToNat, Int.toNat_natCast, not_true_eq_false, false_or] at h) <;> (try (exfalso; omega)))))
      refine gives (St.le_refl _) (fin_one (.wk (Wk.of_eq ?_)))
      rw [← ht1, hnil]
      rfl
end Go.Proofs.YtddljegbggncdaaDoor.Ab

/- Values: words that are numbers. -/
set_option linter.unusedVariables false
set_option linter.unusedSimpArgs false
set_option maxRecDepth 20000
namespace Go.Proofs.YtddljegbggncdaaDoor.Ab
open Go
attribute [local irreducible] thn inb endR CJ LJ OpJ DJ

abbrev dig (n : Nat) : Prop := 48 ≤ n ∧ n ≤ 57
/-- All bytes are digits. -/
def digB : List UInt8 → Bool
  | [] => true
  | b :: l => decide (dig b.toNat) && digB l
/-- A sign stands ahead. -/
def sgnB (s : ByteArray) : Bool := decide (0 < s.size) && (decide (bt s 0 = 45) || decide (bt s 0 = 43))
def bodyS (s : ByteArray) : ByteArray := if sgnB s then s.extract 1 s.size else s
def minusB (s : ByteArray) : Bool := sgnB s && decide (bt s 0 = 45)
def allD (s : ByteArray) : Bool := digB (bodyS s).data.toList
def isNumB (s : ByteArray) : Bool := allD s && decide (0 < (bodyS s).size)
theorem sgnB_iff (s : ByteArray) : sgnB s = true ↔ 0 < s.size ∧ (bt s 0 = 45 ∨ bt s 0 = 43) := by simp [sgnB]
theorem sb0 (s : ByteArray) : sb s 0 = (bt s 0 : Int) := rfl
theorem decodeL_high (b : UInt8) (t : List UInt8) (h : 128 ≤ b.toNat) : 128 ≤ (Lib.decodeL (b :: t)).1 := by
  have hb : b.toNat < 256 := b.toNat_lt
  rw [Lib.decodeL_N]
  unfold Lib.decodeN
  have e : ((b :: t).getD 0 0).toNat = b.toNat := rfl
  rw [e]
  repeat' split
  all_goals dsimp only
  all_goals omega
/-- One step of a walk by code points, as to digits. -/
theorem digB_step (l : List UInt8) (hne : l ≠ []) : digB l = (decide (dig (Lib.decodeL l).1) && digB (l.drop (Lib.decodeL l).2)) := by
  cases l with
  | nil => exact absurd rfl hne
  | cons b t =>
    by_cases hb : b.toNat < 128
    · rw [Lib.decodeL_ascii b t hb]; rfl
    · have := decodeL_high b t (by omega)
      rw [decide_eq_false (by omega : ¬ dig (Lib.decodeL (b :: t)).1), Bool.false_and]
      unfold digB
      rw [decide_eq_false (by omega : ¬ dig b.toNat), Bool.false_and]
theorem ne_empty (s : ByteArray) : (!decide (s = ⟨#[]⟩)) = decide (0 < s.size) := by
  by_cases h : s = ⟨#[]⟩
  · subst h; rfl
  · rw [decide_eq_false h, decide_eq_true]
    · rfl
    · rcases Nat.eq_zero_or_pos s.size with h0 | h0
      · exact absurd (ByteArray.ext (Array.eq_empty_of_size_eq_zero h0)) h
      · exact h0
theorem drop_bt (s : ByteArray) (i : Nat) (h : i < s.size) : s.data.toList.drop i = s.data.toList[i]'(by rw [bl_len]; exact h) :: s.data.toList.drop (i + 1) ∧ (s.data.toList[i]'(by rw [bl_len]; exact h)).toNat = bt s i := by
  have hl : i < s.data.toList.length := by rw [bl_len]; exact h
  refine ⟨(List.drop_eq_getElem_cons hl), ?_⟩
  unfold bt
  rw [List.getD_eq_getElem?_getD, List.getElem?_eq_getElem hl]
  rfl
theorem p_digits (s : ByteArray) : Pure Tryd.prog 134 [.v (.string s)] (.tup [.v (.string (if allD s then bodyS s else ⟨#[]⟩)), .v (.bool (allD s && minusB s)), .v (.bool (isNumB s))]) := by
  refine enterW Tryd.func134 rfl rfl rfl rfl (fun σ => ?_)
  repeat' (first|(first|(refine jl ?_;first|refine j8 ?_|refine j10 ?_|refine j1 ?_|refine j4 ?_|refine j9 ?_|refine j20 ?_|refine j22 (fun id hid=>?_))|(refine dl ?_;first|refine d1 ?_|refine d4 ?_|refine d18 ?_|refine d21 ?_)|(refine jc ?_;first|refine c1 ?_|refine c2 ?_|refine c5 ?_|refine c6 ?_|refine cq ?_)|refine n1 ?_)|(refine c9 (fun h=>?_) (fun h=>?_)<;>(try simp only [Bool.or_eq_true, Bool.and_eq_true, Bool.or_eq_false_iff, Bool.and_eq_false_iff, Bool.not_eq_true', Bool.not_eq_false', decide_eq_true_eq, decide_eq_false_iff_not, Bool.false_eq_true, Bool.true_eq_false, reduceCtorEq] at h)))
  case' refine_1 =>
    rw [sb0] at h
    have hs : sgnB s = true := (sgnB_iff s).2 (by omega)
    have hb : bodyS s = s.extract 1 s.size := by rw [bodyS, if_pos hs]
    have hm : minusB s = decide (sb s 0 = 45) := by rw [minusB, hs, Bool.true_and, sb0]; exact decide_eq_decide.2 (by omega)
    refine cj_head (fun p : Nat => digB ((bodyS s).data.toList.drop p) = allD s) (fun p => [(27, .it id), (2, .v (.string (bodyS s))), (3, .v (.bool (minusB s)))]) (fun p => σ.set id (.siter (bodyS s) p)) (fun p => (bodyS s).size - p) 0 rfl ⟨rfl, by rw [hb]; rfl, by rw [hm]; rfl, trivial⟩ (by rw [hb]; exact St.le_refl _) (fun p hp => ?_)
  case' refine_2 =>
    rw [sb0] at h
    have hs : sgnB s = false := Bool.eq_false_iff.2 fun e => by have := (sgnB_iff s).1 e; omega
    have hb : bodyS s = s := by rw [bodyS, hs]; rfl
    have hm : minusB s = false := by rw [minusB, hs]; rfl
    refine cj_head (fun p : Nat => digB ((bodyS s).data.toList.drop p) = allD s) (fun p => [(27, .it id), (2, .v (.string (bodyS s))), (3, .v (.bool (minusB s)))]) (fun p => σ.set id (.siter (bodyS s) p)) (fun p => (bodyS s).size - p) 0 rfl ⟨rfl, by rw [hb]; rfl, by rw [hm]; rfl, trivial⟩ (by rw [hb]; exact St.le_refl _) (fun p hp => ?_)
  all_goals
    have hlen := bl_len (bodyS s)
    by_cases hlt : p < (bodyS s).size
  all_goals try rw [List.drop_of_length_le (by omega)] at hp
  all_goals try
    have hne : (bodyS s).data.toList.drop p ≠ [] := fun e => by
      have := congrArg List.length e
      rw [List.length_drop] at this
      simp at this
      omega
    have hstep := digB_step _ hne
    have hdw := Lib.decodeL_width ((bodyS s).data.toList.drop p)
    rw [List.drop_drop, hp] at hstep
  repeat' (first|(first|(refine jl ?_;first|refine j7 ?_|refine j1 ?_|refine j4 ?_|refine j9 ?_|refine j23 ?_|refine j24 ?_)|(refine jc ?_;first|refine c1 ?_|refine c2 ?_|refine c3 ?_|refine c4 ?_|refine c5 ?_|refine c6 ?_|refine c7 ?_|refine c8 ?_)|refine n1 ?_|refine n2 ?_|refine n3 ?_|refine n5 ?_|refine n6 ?_|refine n7 ?_|refine n8 ?_|refine n10 ?_|refine n11 ?_)|(refine c9 (fun h=>?_) (fun h=>?_)<;>(try simp only [Bool.or_eq_true, Bool.and_eq_true, Bool.or_eq_false_iff, Bool.and_eq_false_iff, Bool.not_eq_true', Bool.not_eq_false', decide_eq_true_eq, decide_eq_false_iff_not, Bool.false_eq_true, Bool.true_eq_false, reduceCtorEq] at h)))
  all_goals try rw [decodeL_rune'] at h
  all_goals first
    | (have ha : allD s = false := by rw [hstep, decide_eq_false (by omega), Bool.false_and]
       exact gives (by (try rw [St.set_set]); exact St.le_set _ hid) (fin_three (.wk (Wk.of_eq (by rw [ha]; rfl))) (.wk (Wk.of_eq (by rw [ha]; rfl))) (.wk (Wk.of_eq (by rw [isNumB, ha]; rfl)))))
    | (rw [decide_eq_true (by omega), Bool.true_and] at hstep
       exact nx_thn ⟨p + (Utf8.decode (bodyS s) p).2, by rw [decodeL_rune']; exact hstep.symm, by rw [decodeL_rune']; omega, ⟨rfl, rfl, rfl, trivial⟩, by (try rw [St.set_set]); exact St.le_refl _⟩)
    | (have ha : allD s = true := hp.symm
       refine gives (St.le_set _ hid) (fin_three (.wk (Wk.of_eq (by rw [ha, if_pos rfl]))) (.wk (Wk.of_eq (by rw [ha, Bool.true_and]))) (.wk (Wk.of_eq ?_)))
       rw [isNumB, ha, Bool.true_and, ne_empty])
theorem p_risnum (s : ByteArray) (hz : s.size ≤ 9223372036854775807) : Pure Tryd.prog 128 [.v (.string s)] (.v (.bool (isNumB s))) := by
  refine enterW Tryd.func128 rfl rfl rfl rfl (fun σ => ?_)
  repeat' (first|(first|(refine jl ?_;first|refine j8 ?_|refine j10 ?_|refine j1 ?_|refine j4 ?_|refine j9 ?_|refine j20 ?_|refine j21 ?_)|(refine jc ?_;first|refine c1 ?_|refine c2 ?_|refine c5 ?_|refine c6 ?_)|refine n1 ?_)|(refine c9 (fun h=>?_) (fun h=>?_)<;>(try simp only [Bool.or_eq_true, Bool.and_eq_true, Bool.or_eq_false_iff, Bool.and_eq_false_iff, Bool.not_eq_true', Bool.not_eq_false', decide_eq_true_eq, decide_eq_false_iff_not, Bool.false_eq_true, Bool.true_eq_false, reduceCtorEq] at h)))
  case' refine_1 =>
    rw [sb0] at h
    have hs : sgnB s = true := (sgnB_iff s).2 (by omega)
    have hb : bodyS s = s.extract 1 s.size := by rw [bodyS, if_pos hs]
    have hlz : (bodyS s).size ≤ s.size := by rw [hb, Lib.ext_size]; omega
    refine cj_head (fun i : Nat => digB ((bodyS s).data.toList.drop i) = allD s ∧ i ≤ (bodyS s).size) (fun i => [(0, .v (.string (bodyS s))), (3, .v (.int .i64 i))]) (fun _ => σ) (fun i => (bodyS s).size - i) 0 ⟨rfl, Nat.zero_le _⟩ ⟨by rw [hb]; rfl, rfl, trivial⟩ (St.le_refl _) (fun i hi => ?_)
  case' refine_2 =>
    rw [sb0] at h
    have hs : sgnB s = false := Bool.eq_false_iff.2 fun e => by have := (sgnB_iff s).1 e; omega
    have hb : bodyS s = s := by rw [bodyS, hs]; rfl
    have hlz : (bodyS s).size ≤ s.size := by rw [hb]; exact Nat.le_refl _
    refine cj_head (fun i : Nat => digB ((bodyS s).data.toList.drop i) = allD s ∧ i ≤ (bodyS s).size) (fun i => [(0, .v (.string (bodyS s))), (3, .v (.int .i64 i))]) (fun _ => σ) (fun i => (bodyS s).size - i) 0 ⟨rfl, Nat.zero_le _⟩ ⟨by rw [hb]; rfl, rfl, trivial⟩ (St.le_refl _) (fun i hi => ?_)
  all_goals
    obtain ⟨hi1, hi2⟩ := hi
    have hlen := bl_len (bodyS s)
  repeat' (first|(first|(refine jl ?_;first|refine j7 ?_|refine j1 ?_|refine j4 ?_|refine j6 ?_|refine j9 ?_|refine j18 ?_|refine j20 ?_)|(refine jc ?_;first|refine c1 ?_|refine c2 ?_|refine c5 ?_|refine c6 ?_|refine c7 ?_|refine c8 ?_)|refine n1 ?_|refine n2 ?_|refine n3 ?_|refine n5 ?_|refine n6 ?_|refine n7 ?_|refine n8 ?_|refine n10 ?_|refine n11 ?_)|(refine c9 (fun h=>?_) (fun h=>?_)<;>((try simp only [Bool.or_eq_true, Bool.and_eq_true, Bool.or_eq_false_iff, Bool.and_eq_false_iff, Bool.not_eq_true', Bool.not_eq_false', decide_eq_true_eq, decide_eq_false_iff_not, Bool.false_eq_true, Bool.true_eq_false, reduceCtorEq] at h) <;> (try simp (disch := omega) only [sb_bt, w64, Int.reduceAdd, Int.reduceToNat, Int.toNat_natCast, not_true_eq_false, false_or] at h) <;> (try (exfalso; omega)))))
  all_goals first
    | (obtain ⟨e1, e2⟩ := drop_bt (bodyS s) i (by omega)
       have ha : allD s = false := by
         rw [← hi1, e1]
         unfold digB
         rw [e2, decide_eq_false (by omega), Bool.false_and]
       exact gives (St.le_refl _) (fin_one (.wk (Wk.of_eq (by rw [isNumB, ha]; rfl)))))
    | (obtain ⟨e1, e2⟩ := drop_bt (bodyS s) i (by omega)
       have ha : digB ((bodyS s).data.toList.drop (i + 1)) = allD s := by
         rw [← hi1, e1, digB, e2, decide_eq_true (by omega), Bool.true_and]
       exact nx_thn ⟨i + 1, ⟨ha, by omega⟩, by omega, ⟨rfl, by show some (AV.v (.int .i64 (IntKind.i64.wrap ((i : Int) + 1)))) = _; rw [w64 (by omega) (by omega)]; rfl, trivial⟩, St.le_refl _⟩)
    | (have ha : allD s = true := by rw [← hi1, List.drop_of_length_le (by omega)]; rfl
       exact gives (St.le_refl _) (fin_one (.wk (Wk.of_eq (by rw [isNumB, ha, Bool.true_and]; congr 3; exact propext (by omega))))))
/-- The number that digits tell. -/
def valN (a : Nat) (l : List UInt8) : Nat := l.foldl (fun n b => 10 * n + (b.toNat - 48)) a
theorem valN_nil (a : Nat) : valN a [] = a := by unfold valN; exact List.foldl_nil
theorem valN_cons (a : Nat) (b : UInt8) (l : List UInt8) : valN a (b :: l) = valN (10 * a + (b.toNat - 48)) l := by unfold valN; exact List.foldl_cons ..
theorem valN_le : ∀ (l : List UInt8) (a : Nat), a ≤ valN a l
  | [], a => by rw [valN_nil]; exact Nat.le_refl _
  | b :: l, a => by
    have := valN_le l (10 * a + (b.toNat - 48))
    rw [valN_cons]
    omega
theorem valN_cap (m : Nat) : ∀ (l : List UInt8) (a : Nat), min (valN (min a m) l) m = min (valN a l) m
  | [], a => by rw [valN_nil, valN_nil, Nat.min_assoc, Nat.min_self]
  | b :: l, a => by
    rw [valN_cons, valN_cons]
    by_cases h : a ≤ m
    · rw [Nat.min_eq_left h]
    · rw [Nat.min_eq_right (show m ≤ a by omega)]
      have h1 := valN_le l (10 * m + (b.toNat - 48))
      have h2 := valN_le l (10 * a + (b.toNat - 48))
      rw [Nat.min_eq_right (show m ≤ valN (10 * m + (b.toNat - 48)) l by omega), Nat.min_eq_right (show m ≤ valN (10 * a + (b.toNat - 48)) l by omega)]
theorem digB_get (s : ByteArray) (i k : Nat) (h : digB (s.data.toList.drop k) = true) (h1 : k ≤ i) (h2 : i < s.size) : dig (bt s i) := by
  have key : ∀ (n k : Nat), digB (s.data.toList.drop k) = true → k + n < s.size → dig (bt s (k + n)) := by
    intro n
    induction n with
    | zero =>
      intro k h hlt
      obtain ⟨e1, e2⟩ := drop_bt s k (by omega)
      rw [e1, digB, e2] at h
      simp only [Bool.and_eq_true, decide_eq_true_eq] at h
      exact h.1
    | succ n ih =>
      intro k h hlt
      obtain ⟨e1, e2⟩ := drop_bt s k (by omega)
      rw [e1, digB] at h
      simp only [Bool.and_eq_true] at h
      have := ih (k + 1) h.2 (by omega)
      rwa [show k + 1 + n = k + (n + 1) by omega] at this
  have := key (i - k) k h (by omega)
  rwa [show k + (i - k) = i by omega] at this
def numOf (s : ByteArray) : Nat := valN 0 (bodyS s).data.toList
end Go.Proofs.YtddljegbggncdaaDoor.Ab

/- Values: numbers read; what may be. -/
set_option linter.unusedVariables false
set_option linter.unusedSimpArgs false
set_option maxRecDepth 20000
namespace Go.Proofs.YtddljegbggncdaaDoor.Ab
open Go
attribute [local irreducible] thn inb endR CJ LJ OpJ DJ

/-! ### The reference's number -/
def capN : Nat := 1099511627777
theorem p_rnumber (s : ByteArray) (hn : isNumB s = true) (hz : s.size ≤ 9223372036854775807) : Pure Tryd.prog 144 [.v (.string s)] (.v (.int .i64 (if minusB s then -(min (numOf s) capN : Nat) else (min (numOf s) capN : Nat)))) := by
  refine enterW Tryd.func144 rfl rfl rfl rfl (fun σ => ?_)
  obtain ⟨hd, hpos⟩ : allD s = true ∧ 0 < (bodyS s).size := by simpa [isNumB] using hn
  obtain ⟨k, hk, hbd, hk1, hsz⟩ : ∃ k, k ≤ 1 ∧ (bodyS s).data.toList = s.data.toList.drop k ∧ (0 < k → bt s 0 = 45 ∨ bt s 0 = 43) ∧ k < s.size := by
    unfold bodyS at hpos ⊢
    split
    · rename_i h
      rw [if_pos h, Lib.ext_size] at hpos
      exact ⟨1, by omega, Lib.ext_list s 1, fun _ => ((sgnB_iff s).1 h).2, by omega⟩
    · rename_i h
      rw [if_neg h] at hpos
      exact ⟨0, by omega, rfl, fun h => by omega, hpos⟩
  have hdig : ∀ i, k ≤ i → i < s.size → dig (bt s i) := by
    intro i h1 h2
    have h3 : digB (s.data.toList.drop k) = true := by rw [← hbd]; exact hd
    exact digB_get s i k h3 h1 h2
  have hnum : numOf s = valN 0 (s.data.toList.drop k) := by rw [numOf, hbd]
  repeat' (first|(first|(refine jl ?_;first|refine j1 ?_|refine j4 ?_)|(refine jc ?_;first|refine c1 ?_|refine c2 ?_|refine c5 ?_)))
  refine cj_head (fun x : Nat × Nat => x.1 ≤ s.size ∧ x.2 ≤ capN ∧ (x.1 < k → x.2 = 0) ∧ (k ≤ x.1 → min (valN x.2 (s.data.toList.drop x.1)) capN = min (numOf s) capN)) (fun x => [(0, .v (.string s)), (4, .v (.int .i64 x.1)), (3, .v (.int .i64 x.2))]) (fun _ => σ) (fun x => s.size - x.1) (0, 0) ⟨Nat.zero_le _, Nat.zero_le _, fun _ => rfl, fun h => by have : k = 0 := by { simp only at h; omega }; subst this; rw [hnum]⟩ ⟨rfl, rfl, rfl, trivial⟩ (St.le_refl _) (fun x hx => ?_)
  obtain ⟨i, a⟩ := x
  obtain ⟨hi1, hi2, hi3, hi4⟩ := hx
  simp only at hi1 hi2 hi3 hi4
  have hb := bt_lt s i
  repeat' (first|(first|(refine jl ?_;first|refine j8 ?_|refine j1 ?_|refine j4 ?_|refine j6 ?_|refine j9 ?_|refine j18 ?_|refine j20 ?_)|(refine jc ?_;first|refine c1 ?_|refine c2 ?_|refine c5 ?_|refine c6 ?_|refine c7 ?_|refine c8 ?_)|refine n1 ?_|refine n2 ?_|refine n3 ?_|refine n7 ?_|refine n8 ?_|refine n10 ?_|refine n11 ?_)|(refine c9 (fun h=>?_) (fun h=>?_)<;>((try simp only [Bool.or_eq_true, Bool.and_eq_true, Bool.or_eq_false_iff, Bool.and_eq_false_iff, Bool.not_eq_true', Bool.not_eq_false', decide_eq_true_eq, decide_eq_false_iff_not, Bool.false_eq_true, Bool.true_eq_false, reduceCtorEq] at h) <;> (try simp (disch := omega) only [sb_bt, w64, Int.reduceAdd, Int.reduceToNat, Int.toNat_natCast, not_true_eq_false, false_or] at h) <;> (try (exfalso; omega)))))
  · have hki : k ≤ i := by
      rcases Nat.lt_or_ge i k with h1 | h1
      · have h0 : i = 0 := by omega
        subst h0
        have := hk1 (by omega)
        omega
      · exact h1
    have hg := hdig i hki (by omega)
    obtain ⟨e1, e2⟩ := drop_bt s i (by omega)
    have h4 := hi4 hki
    rw [e1, valN_cons, e2, ← valN_cap] at h4
    unfold capN at hi2
    refine nx_thn ⟨(i + 1, min (10 * a + (bt s i - 48)) capN), ⟨by simp only; omega, by simp only; omega, fun h => by simp only at h; omega, fun _ => h4⟩, by simp only; omega, ⟨rfl, ?_, ?_, trivial⟩, St.le_refl _⟩
    · show some (AV.v (.int .i64 (IntKind.i64.wrap ((i : Int) + 1)))) = _
      rw [w64 (by omega) (by omega)]; rfl
    · show some (AV.v (.int .i64 (if (1099511627777 : Int) < IntKind.i64.wrap (IntKind.i64.wrap (10 * (a : Int)) + IntKind.i64.wrap (IntKind.u8.wrap (sb s i - 48))) then 1099511627777 else IntKind.i64.wrap (IntKind.i64.wrap (10 * (a : Int)) + IntKind.i64.wrap (IntKind.u8.wrap (sb s i - 48)))))) = some (AV.v (.int .i64 ((min (10 * a + (bt s i - 48)) capN : Nat) : Int)))
      have e3 : sb s i = (bt s i : Int) := rfl
      rw [e3, wu8 (by omega) (by omega), w64 (n := (bt s i : Int) - 48) (by omega) (by omega), w64 (n := 10 * (a : Int)) (by omega) (by omega), w64 (by omega) (by omega)]
      congr 3
      unfold capN
      split <;> omega
  · have hki : i < k := by
      rcases Nat.lt_or_ge i k with h1 | h1
      · exact h1
      · have := hdig i h1 (by omega)
        omega
    have ha := hi3 hki
    subst ha
    refine nx_thn ⟨(i + 1, 0), ⟨by simp only; omega, Nat.zero_le _, fun _ => rfl, fun _ => ?_⟩, by simp only; omega, ⟨rfl, ?_, rfl, trivial⟩, St.le_refl _⟩
    · simp only
      have : k = i + 1 := by omega
      subst this
      rw [← hnum]
    · show some (AV.v (.int .i64 (IntKind.i64.wrap ((i : Int) + 1)))) = _
      rw [w64 (by omega) (by omega)]; rfl
  all_goals
    have hil : i = s.size := by omega
    have h4 := hi4 (by omega)
    rw [hil, List.drop_of_length_le (by rw [bl_len]; omega), valN_nil] at h4
    unfold capN at hi2
    have hm : min (numOf s) capN = a := by unfold capN at h4 ⊢; omega
    rw [hm]
  · have hmn : minusB s = true := by
      unfold minusB
      rw [(sgnB_iff s).2 ⟨by omega, .inl (by omega)⟩, decide_eq_true (by omega)]; rfl
    rw [hmn, if_pos rfl]
    exact gives (St.le_refl _) (fin_one (.wk (Wk.of_eq (by show AV.v (.int .i64 (IntKind.i64.wrap (0 - (a : Int)))) = _; rw [w64 (by omega) (by omega)]; congr 2; omega))))
  · have hmn : minusB s = false := by
      unfold minusB
      rw [decide_eq_false (by omega), Bool.and_false]
    rw [hmn]
    exact gives (St.le_refl _) (Fin.refl _ _ _)
/-! ### Check -/
def nilS : ByteArray := ⟨#[110, 105, 108]⟩
def checkE (k n : Int) (s : ByteArray) : Int :=
  if 2 < k then 9 else if (¬ k = 1 ∧ ¬ n = 0) ∨ (¬ k = 2 ∧ ¬ s = ⟨#[]⟩) then 4 else if n < -1099511627776 ∨ 1099511627776 < n then 12 else if k = 2 ∧ (isNumB s = true ∨ wordB s = false ∨ s = nilS) then 6 else 0
theorem St.le_new {σ : St} {a : Nat} {x : AObj} (ha : σ a = none) : σ.le (σ.set a x) := St.le_set _ ha
theorem p_check (k n : Int) (s : ByteArray) : Pure Tryd.prog 110 [vv k n s] (.v (.int .i64 (checkE k n s))) := by
  refine enterW Tryd.func110 rfl rfl rfl rfl (fun σ => ?_)
  repeat' (first|(first|(refine jl ?_;first|refine j7 ?_|refine j8 ?_|refine j1 ?_|refine j4 ?_|refine j9 ?_|refine j12 (fun id hid=>?_)|refine j14 ?_|refine j16 ?_|refine jp (p_digits _) ?_|refine jcq (hp:=fun hc=>p_word _) ?_)|(refine jc ?_;first|refine c1 ?_|refine c2 ?_|refine c3 ?_|refine c5 ?_|refine c6 ?_|refine c7 ?_)|refine n1 ?_|refine n2 ?_|refine n6 ?_|refine n10 ?_|refine n11 ?_)|(refine c9 (fun h=>?_) (fun h=>?_)<;>(try simp only [Bool.or_eq_true, Bool.and_eq_true, Bool.or_eq_false_iff, Bool.and_eq_false_iff, Bool.not_eq_true', Bool.not_eq_false', decide_eq_true_eq, decide_eq_false_iff_not, Bool.false_eq_true, Bool.true_eq_false, reduceCtorEq] at h)))
  all_goals refine gives (St.le_set _ hid) (fin_one (.wk (Wk.of_eq ?_)))
  all_goals simp only [ofLeaf, AV.v.injEq, Value.int.injEq, true_and]
  all_goals unfold checkE nilS
  all_goals grind
theorem p_rcheck (k n : Int) (s : ByteArray) (hz : s.size ≤ 9223372036854775807) : Pure Tryd.prog 98 [vv k n s] (.v (.int .i64 (checkE k n s))) := by
  refine enterW Tryd.func98 rfl rfl rfl rfl (fun σ => ?_)
  repeat' (first|(first|(refine jl ?_;first|refine j7 ?_|refine j8 ?_|refine j10 ?_|refine j11 ?_|refine j1 ?_|refine j4 ?_|refine j9 ?_|refine j12 (fun id hid=>?_)|refine j14 ?_|refine j16 ?_|refine jcq (hp:=fun hc=>p_risnum _ hz) ?_|refine jcq (hp:=fun hc=>p_rword _) ?_)|(refine jc ?_;first|refine c1 ?_|refine c2 ?_|refine c5 ?_|refine c6 ?_|refine c7 ?_)|refine n1 ?_|refine n2 ?_|refine n6 ?_|refine n10 ?_|refine n11 ?_)|(refine c9 (fun h=>?_) (fun h=>?_)<;>(try simp only [Bool.or_eq_true, Bool.and_eq_true, Bool.or_eq_false_iff, Bool.and_eq_false_iff, Bool.not_eq_true', Bool.not_eq_false', decide_eq_true_eq, decide_eq_false_iff_not, Bool.false_eq_true, Bool.true_eq_false, reduceCtorEq] at h)))
  all_goals refine gives (St.le_set _ hid) (fin_one (.wk (Wk.of_eq ?_)))
  all_goals simp only [ofLeaf, AV.v.injEq, Value.int.injEq, true_and]
  all_goals unfold checkE nilS
  all_goals grind
end Go.Proofs.YtddljegbggncdaaDoor.Ab

/- Values: a number's text. -/
set_option linter.unusedVariables false
set_option linter.unusedSimpArgs false
set_option maxRecDepth 20000
namespace Go.Proofs.YtddljegbggncdaaDoor.Ab
open Go
attribute [local irreducible] thn inb endR CJ LJ OpJ DJ

def dch (n : Nat) : UInt8 := UInt8.ofNat (48 + n % 10)
theorem dch_toNat (n : Nat) : (dch n).toNat = 48 + n % 10 := by
  unfold dch
  rw [UInt8.toNat_ofNat']
  omega
/-- A number's digits. -/
def decF : Nat → Nat → List UInt8
  | 0, _ => []
  | f + 1, n => if n < 10 then [dch n] else decF f (n / 10) ++ [dch n]
theorem decF_fuel : ∀ (f g n : Nat), n < 10 ^ f → n < 10 ^ g → 0 < f → 0 < g → decF f n = decF g n
  | 0, _, _, _, _, h, _ => absurd h (by omega)
  | _, 0, _, _, _, _, h => absurd h (by omega)
  | f + 1, g + 1, n, h1, h2, _, _ => by
    unfold decF
    by_cases h : n < 10
    · rw [if_pos h, if_pos h]
    · rw [if_neg h, if_neg h]
      have hf : 0 < f := by
        rcases Nat.eq_zero_or_pos f with h0 | h0
        · subst h0; simp at h1; omega
        · exact h0
      have hg : 0 < g := by
        rcases Nat.eq_zero_or_pos g with h0 | h0
        · subst h0; simp at h2; omega
        · exact h0
      rw [decF_fuel f g (n / 10) (by rw [Nat.pow_succ] at h1; omega) (by rw [Nat.pow_succ] at h2; omega) hf hg]
def dec (n : Nat) : List UInt8 := decF 19 n
theorem dec_small (n : Nat) (h : n < 10) : dec n = [dch n] := by
  show (if n < 10 then _ else _) = _
  rw [if_pos h]
theorem dec_step (n : Nat) (h : 10 ≤ n) (h' : n < 10000000000000000000) : dec n = dec (n / 10) ++ [dch n] := by
  show (if n < 10 then _ else _) = _
  rw [if_neg (by omega), decF_fuel 18 19 (n / 10) (by simp only [Nat.reducePow]; omega) (by simp only [Nat.reducePow]; omega) (by omega) (by omega)]
  rfl
theorem decF_len : ∀ (f n : Nat), (decF f n).length ≤ f
  | 0, _ => Nat.le_refl _
  | f + 1, n => by
    unfold decF
    split
    · simp
    · have := decF_len f (n / 10)
      simp only [List.length_append, List.length_cons, List.length_nil]
      omega
theorem dec_len (n : Nat) : (dec n).length ≤ 19 := decF_len 19 n
/-- What the loop still lays ahead. -/
def outD (m : Nat) (acc : List UInt8) : List UInt8 := if m = 0 ∧ acc ≠ [] then acc else dec m ++ acc
theorem outD_step (m : Nat) (acc : List UInt8) (h : 0 < m ∨ acc = []) (hm : m < 10000000000000000000) : outD (m / 10) (dch m :: acc) = outD m acc := by
  unfold outD
  rw [if_neg (c := m = 0 ∧ acc ≠ []) (by rintro ⟨h1, h2⟩; rcases h with h | h; omega; exact h2 h)]
  by_cases h10 : m < 10
  · rw [if_pos ⟨by omega, by simp⟩, dec_small m h10]; rfl
  · rw [if_neg (by rintro ⟨h1, _⟩; omega), dec_step m (by omega) hm]
    simp
theorem outD_end (acc : List UInt8) (h : acc ≠ []) : outD 0 acc = acc := by rw [outD, if_pos ⟨rfl, h⟩]
theorem outD_nil (m : Nat) : outD m [] = dec m := by
  rw [outD, if_neg (by simp), List.append_nil]
theorem outD_len (m : Nat) (acc : List UInt8) : acc.length ≤ (outD m acc).length := by
  unfold outD
  split
  · exact Nat.le_refl _
  · simp
def toldS (n : Int) : ByteArray := if n < 0 then ⟨(45 :: dec (-n).toNat).toArray⟩ else ⟨(dec n.toNat).toArray⟩
theorem u8_add (m : Nat) : IntKind.u8.wrap (IntKind.i64.wrap (48 + (m : Int).tmod 10)) = ((dch m).toNat : Int) := by
  have h1 : (m : Int).tmod 10 = ((m % 10 : Nat) : Int) := by rw [Int.tmod_eq_emod_of_nonneg (by omega)]; rfl
  rw [h1, w64 (by omega) (by omega), wu8 (by omega) (by omega), dch_toNat]
  omega
theorem p_told (n : Int) (hn : -1099511627776 ≤ n ∧ n ≤ 1099511627776) : Pure Tryd.prog 125 [.v (.int .i64 n)] (.v (.string (toldS n))) := by
  refine enterW Tryd.func125 rfl rfl rfl rfl (fun σ => ?_)
  obtain ⟨m0, mi, hm0, hmi, hlt⟩ : ∃ (m0 : Nat) (mi : Bool), (if mi then (IntKind.i64.wrap (0 - n)) else n) = (m0 : Int) ∧ decide (n < 0) = mi ∧ m0 ≤ 1099511627776 ∧ toldS n = (if mi then ⟨(45 :: dec m0).toArray⟩ else ⟨(dec m0).toArray⟩) := by
    by_cases h : n < 0
    · refine ⟨(-n).toNat, true, ?_, decide_eq_true h, by omega, ?_⟩
      · rw [if_pos rfl, w64 (by omega) (by omega)]; omega
      · rw [toldS, if_pos h, if_pos rfl]
    · refine ⟨n.toNat, false, ?_, decide_eq_false h, by omega, ?_⟩
      · rw [if_neg (by simp)]; omega
      · rw [toldS, if_neg h, if_neg (by simp)]
  obtain ⟨hm1, hm2⟩ := hlt
  rw [hm2]
  repeat (first|(refine jl ?_;first|refine j1 ?_|refine j4 ?_)|(refine jc ?_;first|refine c1 ?_|refine c2 ?_))
  rw [hmi]
  repeat' (first|(first|(refine jl ?_;first|refine j1 ?_|refine j4 ?_)|(refine jc ?_;first|refine c1 ?_|refine c2 ?_|refine c5 ?_|refine c6 ?_)|refine n1 ?_)|(refine c9 (fun h=>?_) (fun h=>?_)<;>(try simp only [Bool.or_eq_true, Bool.and_eq_true, Bool.or_eq_false_iff, Bool.and_eq_false_iff, Bool.not_eq_true', Bool.not_eq_false', decide_eq_true_eq, decide_eq_false_iff_not, Bool.false_eq_true, Bool.true_eq_false, reduceCtorEq] at h)))
  all_goals
    rw [h] at hm0
    simp only [Bool.false_eq_true, if_true, if_false] at hm0
    rw [hm0]
    refine cj_headW (fun x : Nat × List UInt8 => x.1 ≤ 1099511627776 ∧ outD x.1 x.2 = dec m0) (fun x => [(0, .v (.int .i64 x.1)), (4, .sl none false 1 (bys x.2)), (3, .v (.bool mi))]) (fun _ => σ) (fun x => 2 * x.1 + (if x.2 = [] then 1 else 0)) (m0, []) ⟨hm1, outD_nil m0⟩ ⟨⟨_, rfl, Wk.refl _⟩, ⟨_, rfl, Wk.sl _ _ _ _⟩, ⟨_, rfl, Wk.refl _⟩, trivial⟩ (St.le_refl _) (fun x hx => ?_)
    obtain ⟨m, acc⟩ := x
    obtain ⟨hx1, hx2⟩ := hx
    simp only at hx1 hx2
    have hlen : acc.length ≤ 19 := Nat.le_trans (outD_len m acc) (by rw [hx2]; exact dec_len m0)
    clear h
    dsimp only
  repeat' (first|(first|(refine jl ?_;first|refine j7 ?_|refine j1 ?_|refine j4 ?_|refine j9 ?_|refine j25 ?_|refine j26 ?_)|(refine jc ?_;first|refine c1 ?_|refine c2 ?_|refine c5 ?_|refine c6 ?_|refine c7 ?_|refine c8 ?_)|refine n1 ?_|refine n2 ?_|refine n3 ?_|refine n7 ?_|refine n8 ?_|refine n11 ?_)|(refine c9 (fun h=>?_) (fun h=>?_)<;>(try simp only [Bool.or_eq_true, Bool.and_eq_true, Bool.or_eq_false_iff, Bool.and_eq_false_iff, Bool.not_eq_true', Bool.not_eq_false', decide_eq_true_eq, decide_eq_false_iff_not, Bool.false_eq_true, Bool.true_eq_false, reduceCtorEq] at h)))
  all_goals try rw [length_bys] at *
  all_goals try
    have hm0' : m = 0 := by omega
    have hne0 : acc.length ≠ 0 := by omega
    have hne : acc ≠ [] := fun e => hne0 (by rw [e]; rfl)
    rw [hm0', outD_end acc hne] at hx2
    rw [h, ← hx2]
    exact gives (St.le_refl _) (fin_one (.wk (Wk.of_eq rfl)))
  all_goals
    rw [u8_add]
    refine lj_v rfl (fun R hR => opj_lit (sz := 1) (zs := [.v (.int .u8 0)]) (out := [.v (.int .u8 (dch m).toNat)]) rfl rfl rfl rfl rfl (by decide) (by decide) rfl rfl rfl hR) ?_
    repeat (first|(refine jl ?_;first|refine j1 ?_))
    have hst : outD (m / 10) (dch m :: acc) = dec m0 := by
      rw [← hx2]
      refine outD_step m acc ?_ (by omega)
      rcases h with h | h
      · exact .inl (by omega)
      · exact .inr (List.eq_nil_of_length_eq_zero (by omega))
    have hq : IntKind.i64.wrap ((m : Int).tdiv 10) = ((m / 10 : Nat) : Int) := by
      rw [Int.tdiv_eq_ediv_of_nonneg (by omega), w64 (by omega) (by omega)]; rfl
    refine lj_ite rfl trivial (fun R hR0 hR1 => opj_append_sl (sz := 1) (by_ := 1) (news := bys acc) rfl rfl ⟨rfl, rfl, rfl, by decide⟩ rfl rfl (.inl rfl) rfl rfl (by simp [length_bys, chunk]; omega) (by decide) hR0 hR1) (fun h0 => ?_) (fun h0 => ?_)
  all_goals
    repeat (first|(refine jl ?_;first|refine j1 ?_|refine j4 ?_|refine j6 ?_)|(refine jc ?_;first|refine c2 ?_)|refine n10 ?_)
    rw [hq]
    refine nx_thn ⟨(m / 10, dch m :: acc), ⟨by simp only; omega, hst⟩, ?_, ⟨⟨_, rfl, Wk.refl _⟩, ⟨_, rfl, ?_⟩, ⟨_, rfl, Wk.refl _⟩, trivial⟩, St.le_refl _⟩
  all_goals first
    | (simp only [reduceCtorEq, if_false]
       rcases h with h | h
       · split <;> omega
       · rw [if_pos (List.eq_nil_of_length_eq_zero (by omega))]; omega)
    | (have h1 : acc = [] := by
         cases acc with
         | nil => rfl
         | cons a l => simp [bys] at h0
       subst h1
       exact Wk.sl _ _ _ _)
    | exact Wk.sl _ _ _ _
theorem toldS_size (n : Int) : (toldS n).size ≤ 20 := by
  unfold toldS
  split
  · rw [bsz, List.length_cons]; have := dec_len (-n).toNat; omega
  · rw [bsz]; have := dec_len n.toNat; omega
/-! ### The reference -/
def digitsS : ByteArray := ⟨#[48, 49, 50, 51, 52, 53, 54, 55, 56, 57]⟩
theorem digitsS_at (k : Nat) (h : k < 10) : digitsS.extract k (k + 1) = ⟨#[UInt8.ofNat (48 + k)]⟩ := by
  have : k = 0 ∨ k = 1 ∨ k = 2 ∨ k = 3 ∨ k = 4 ∨ k = 5 ∨ k = 6 ∨ k = 7 ∨ k = 8 ∨ k = 9 := by omega
  rcases this with rfl | rfl | rfl | rfl | rfl | rfl | rfl | rfl | rfl | rfl <;> decide
theorem bconcat (a b : List UInt8) : (⟨a.toArray⟩ : ByteArray) ++ ⟨b.toArray⟩ = ⟨(a ++ b).toArray⟩ := by
  apply ByteArray.ext
  rw [ByteArray.data_append]
  exact List.append_toArray ..
theorem p_rtold0 (n : Nat) (hn : n ≤ 1099511627776) : Pure Tryd.prog 126 [.v (.int .i64 n)] (.v (.string (toldS n))) := by
  refine enterW Tryd.func126 rfl rfl rfl rfl (fun σ => ?_)
  have ht : toldS n = ⟨(dec n).toArray⟩ := by rw [toldS, if_neg (by omega)]; rfl
  rw [ht]
  repeat' (first|(first|(refine jl ?_;first|refine j1 ?_|refine j4 ?_)|(refine jc ?_;first|refine c1 ?_|refine c2 ?_|refine c5 ?_|refine c6 ?_)|refine n1 ?_)|(refine c9 (fun h=>?_) (fun h=>?_)<;>((try simp only [Bool.or_eq_true, Bool.and_eq_true, Bool.or_eq_false_iff, Bool.and_eq_false_iff, Bool.not_eq_true', Bool.not_eq_false', decide_eq_true_eq, decide_eq_false_iff_not, Bool.false_eq_true, Bool.true_eq_false, reduceCtorEq] at h) <;> (try simp (disch := omega) only [sb_bt, w64, Int.reduceAdd, Int.reduceToNat, Int.toNat_natCast, not_true_eq_false, false_or] at h) <;> (try (exfalso; omega)))))
  refine cj_head (fun x : Nat × List UInt8 => x.1 ≤ 1099511627776 ∧ outD x.1 x.2 = dec n) (fun x => [(0, .v (.int .i64 x.1)), (3, .v (.string ⟨x.2.toArray⟩))]) (fun _ => σ) (fun x => 2 * x.1 + (if x.2 = [] then 1 else 0)) (n, []) ⟨hn, outD_nil n⟩ ⟨rfl, rfl, trivial⟩ (St.le_refl _) (fun x hx => ?_)
  obtain ⟨m, acc⟩ := x
  obtain ⟨hx1, hx2⟩ := hx
  simp only at hx1 hx2
  have hlen : acc.length ≤ 19 := Nat.le_trans (outD_len m acc) (by rw [hx2]; exact dec_len n)
  dsimp only
  have hm10 : (m : Int).tmod 10 = ((m % 10 : Nat) : Int) := by rw [Int.tmod_eq_emod_of_nonneg (by omega)]; rfl
  repeat' (first|(first|(refine jl ?_;first|refine j7 ?_|refine j1 ?_|refine j4 ?_|refine j9 ?_)|(refine jc ?_;first|refine c1 ?_|refine c2 ?_|refine c5 ?_|refine c6 ?_|refine c7 ?_|refine c8 ?_)|refine n1 ?_|refine n3 ?_|refine n7 ?_|refine n8 ?_|refine n11 ?_)|(refine c9 (fun h=>?_) (fun h=>?_)<;>(try simp only [Bool.or_eq_true, Bool.and_eq_true, Bool.or_eq_false_iff, Bool.and_eq_false_iff, Bool.not_eq_true', Bool.not_eq_false', decide_eq_true_eq, decide_eq_false_iff_not, Bool.false_eq_true, Bool.true_eq_false, reduceCtorEq] at h)))
  · have hst : outD (m / 10) (dch m :: acc) = dec n := by
      rw [← hx2]
      refine outD_step m acc ?_ (by omega)
      rcases h with h | h
      · exact .inl (by omega)
      · have e := congrArg (fun b : ByteArray => b.data.toList) h
        exact .inr (by simpa using e)
    have hq : IntKind.i64.wrap ((m : Int).tdiv 10) = ((m / 10 : Nat) : Int) := by
      rw [Int.tdiv_eq_ediv_of_nonneg (by omega), w64 (by omega) (by omega)]; rfl
    rw [hm10, w64 (n := ((m % 10 : Nat) : Int) + 1) (by omega) (by omega)]
    have hz : ByteArray.size ⟨#[48, 49, 50, 51, 52, 53, 54, 55, 56, 57]⟩ = 10 := rfl
    refine j21 ?_ (h2 := by rw [hz]; omega)
    have hd : digitsS.extract (((m % 10 : Nat) : Int)).toNat (((m % 10 : Nat) : Int) + 1).toNat = ⟨[dch m].toArray⟩ := by
      rw [show (((m % 10 : Nat) : Int)).toNat = m % 10 from rfl, show (((m % 10 : Nat) : Int) + 1).toNat = m % 10 + 1 by omega, digitsS_at _ (by omega)]
      rfl
    show LJ _ _ _ _ _ ((31, .v (.string (digitsS.extract (((m % 10 : Nat) : Int)).toNat (((m % 10 : Nat) : Int) + 1).toNat))) :: _) _
    rw [hd]
    repeat (first|(refine jl ?_;first|refine j1 ?_|refine j4 ?_|refine j6 ?_|refine j25 ?_)|(refine jc ?_;first|refine c2 ?_)|refine n10 ?_)
    rw [bconcat, hq]
    refine nx_thn ⟨(m / 10, dch m :: acc), ⟨by simp only; omega, hst⟩, ?_, ⟨rfl, rfl, trivial⟩, St.le_refl _⟩
    simp only [reduceCtorEq, if_false]
    rcases h with h | h
    · split <;> omega
    · have e := congrArg (fun b : ByteArray => b.data.toList) h
      have e' : acc = [] := by simpa using e
      rw [if_pos e']; omega
  · have hm0' : m = 0 := by omega
    have hne : acc ≠ [] := fun e => h.2 (by rw [e])
    rw [hm0', outD_end acc hne] at hx2
    rw [← hx2]
    exact gives (St.le_refl _) (fin_one (.wk (Wk.of_eq rfl)))
theorem p_rtold : ∀ (k : Nat) (n : Int), (-1099511627776 ≤ n ∧ n ≤ 1099511627776) → (-n).toNat ≤ k → Pure Tryd.prog 126 [.v (.int .i64 n)] (.v (.string (toldS n))) := by
  intro k
  induction k with
  | zero =>
    intro n hn hk
    obtain ⟨m, rfl⟩ := Int.eq_ofNat_of_zero_le (show 0 ≤ n by omega)
    exact p_rtold0 m (by omega)
  | succ k ih =>
    intro n hn hk
    by_cases h0 : 0 ≤ n
    · obtain ⟨m, rfl⟩ := Int.eq_ofNat_of_zero_le h0
      exact p_rtold0 m (by omega)
    · refine enterW Tryd.func126 rfl rfl rfl rfl (fun σ => ?_)
      obtain ⟨m, hm⟩ := Int.eq_ofNat_of_zero_le (show 0 ≤ -n by omega)
      have hw1 : IntKind.i64.wrap (0 - n) = (m : Int) := by rw [w64 (by omega) (by omega)]; omega
      have hq : IntKind.i64.wrap (n.tdiv 10) = -((m / 10 : Nat) : Int) := by
        rw [show n = -(m : Int) by omega, Int.neg_tdiv, Int.tdiv_eq_ediv_of_nonneg (by omega), w64 (by omega) (by omega)]; rfl
      have hr : IntKind.i64.wrap (0 - n.tmod 10) = ((m % 10 : Nat) : Int) := by
        rw [show n = -(m : Int) by omega, Int.neg_tmod, Int.tmod_eq_emod_of_nonneg (by omega), w64 (by omega) (by omega)]; first | done | omega
      repeat' (first|(first|(refine jl ?_;first|refine j1 ?_|refine j4 ?_)|(refine jc ?_;first|refine c1 ?_|refine c2 ?_|refine c6 ?_)|refine n1 ?_)|(refine c9 (fun h=>?_) (fun h=>?_)<;>((try simp only [Bool.or_eq_true, Bool.and_eq_true, Bool.or_eq_false_iff, Bool.and_eq_false_iff, Bool.not_eq_true', Bool.not_eq_false', decide_eq_true_eq, decide_eq_false_iff_not, Bool.false_eq_true, Bool.true_eq_false, reduceCtorEq] at h) <;> (try simp (disch := omega) only [sb_bt, w64, Int.reduceAdd, Int.reduceToNat, Int.toNat_natCast, not_true_eq_false, false_or] at h) <;> (try (exfalso; omega)))))
      · rw [hq]
        have hz1 := toldS_size (-((m / 10 : Nat) : Int))
        have hz2 := toldS_size ((m % 10 : Nat) : Int)
        refine jp (ih (-((m / 10 : Nat) : Int)) ⟨by omega, by omega⟩ (by omega)) ?_
        repeat (first|(refine jl ?_;first|refine j1 ?_))
        rw [hr]
        refine jp (p_rtold0 (m % 10) (by omega)) ?_
        repeat (first|(refine jl ?_;first|refine j1 ?_|refine j4 ?_|refine j25 ?_)|(refine jc ?_;first|refine c7 ?_)|refine n2 ?_|refine n11 ?_)
        refine gives (St.le_refl _) (fin_one (.wk (Wk.of_eq ?_)))
        have e1 : toldS (-((m / 10 : Nat) : Int)) = ⟨(45 :: dec (m / 10)).toArray⟩ := by
          rw [toldS, if_pos (by omega)]
          congr 4; omega
        have e2 : toldS ((m % 10 : Nat) : Int) = ⟨[dch m].toArray⟩ := by
          rw [toldS, if_neg (by omega), show (((m % 10 : Nat) : Int)).toNat = m % 10 from rfl, dec_small _ (by omega)]
          unfold dch
          rw [Nat.mod_mod]
        have e3 : toldS n = ⟨(45 :: dec m).toArray⟩ := by
          rw [toldS, if_pos (by omega)]
          congr 4; omega
        rw [e1, e2, e3, bconcat, dec_step m (by omega) (by omega)]
        rfl
      · rw [hw1]
        have hz1 := toldS_size (m : Int)
        refine jp (p_rtold0 m (by omega)) ?_
        have hz : ByteArray.size ⟨#[45]⟩ = 1 := rfl
        repeat (first|(refine jl ?_;first|refine j1 ?_|refine j4 ?_|refine j25 ?_)|(refine jc ?_;first|refine c7 ?_)|refine n2 ?_|refine n11 ?_)
        refine gives (St.le_refl _) (fin_one (.wk (Wk.of_eq ?_)))
        have e3 : toldS n = ⟨(45 :: dec m).toArray⟩ := by
          rw [toldS, if_pos (by omega)]
          congr 4; omega
        have e1 : toldS (m : Int) = ⟨(dec m).toArray⟩ := by
          rw [toldS, if_neg (by omega)]; rfl
        rw [e1, e3]
        show AV.v (.string ((⟨[45].toArray⟩ : ByteArray) ++ _)) = _
        rw [bconcat]
        rfl
end Go.Proofs.YtddljegbggncdaaDoor.Ab

/- Values: texts, and what texts tell. -/
set_option linter.unusedVariables false
set_option linter.unusedSimpArgs false
set_option maxRecDepth 20000
namespace Go.Proofs.YtddljegbggncdaaDoor.Ab
open Go
attribute [local irreducible] thn inb endR CJ LJ OpJ DJ

def textV (k n : Int) (s : ByteArray) : ByteArray := if ¬ checkE k n s = 0 then nilS else if k = 1 then toldS n else if k = 2 then s else nilS
theorem checkE_ok {k n : Int} {s : ByteArray} (h : checkE k n s = 0) : (-1099511627776 ≤ n ∧ n ≤ 1099511627776) := by
  unfold checkE at h
  grind
theorem p_textv (k n : Int) (s : ByteArray) : Pure Tryd.prog 91 [vv k n s] (.v (.string (textV k n s))) := by
  refine enterW Tryd.func91 rfl rfl rfl rfl (fun σ => ?_)
  repeat' (first|(first|(refine jl ?_;first|refine j1 ?_|refine j4 ?_|refine j12 (fun id hid=>?_)|refine j14 ?_|refine jp (p_check _ _ _) ?_|refine jp (p_told n (checkE_ok (by omega))) ?_)|(refine jc ?_;first|refine c1 ?_|refine c2 ?_|refine c5 ?_|refine c6 ?_|refine c7 ?_)|refine n1 ?_|refine n2 ?_|refine n6 ?_|refine n10 ?_|refine n11 ?_)|(refine c9 (fun h=>?_) (fun h=>?_)<;>(try simp only [Bool.or_eq_true, Bool.and_eq_true, Bool.or_eq_false_iff, Bool.and_eq_false_iff, Bool.not_eq_true', Bool.not_eq_false', decide_eq_true_eq, decide_eq_false_iff_not, Bool.false_eq_true, Bool.true_eq_false, reduceCtorEq] at h)))
  all_goals refine gives (St.le_set _ hid) (fin_one (.wk (Wk.of_eq ?_)))
  all_goals simp only [ofLeaf, AV.v.injEq, Value.string.injEq, true_and]
  all_goals unfold textV nilS
  all_goals grind
theorem p_rtextv (k n : Int) (s : ByteArray) (hz : s.size ≤ 9223372036854775807) : Pure Tryd.prog 93 [vv k n s] (.v (.string (textV k n s))) := by
  refine enterW Tryd.func93 rfl rfl rfl rfl (fun σ => ?_)
  repeat' (first|(first|(refine jl ?_;first|refine j1 ?_|refine j4 ?_|refine j12 (fun id hid=>?_)|refine j14 ?_|refine jp (p_rcheck _ _ _ hz) ?_|refine jp (p_rtold _ n (checkE_ok (by omega)) (Nat.le_refl _)) ?_)|(refine jc ?_;first|refine c1 ?_|refine c2 ?_|refine c5 ?_|refine c6 ?_|refine c7 ?_)|refine n1 ?_|refine n2 ?_|refine n6 ?_|refine n10 ?_|refine n11 ?_)|(refine c9 (fun h=>?_) (fun h=>?_)<;>(try simp only [Bool.or_eq_true, Bool.and_eq_true, Bool.or_eq_false_iff, Bool.and_eq_false_iff, Bool.not_eq_true', Bool.not_eq_false', decide_eq_true_eq, decide_eq_false_iff_not, Bool.false_eq_true, Bool.true_eq_false, reduceCtorEq] at h)))
  all_goals refine gives (St.le_set _ hid) (fin_one (.wk (Wk.of_eq ?_)))
  all_goals simp only [ofLeaf, AV.v.injEq, Value.string.injEq, true_and]
  all_goals unfold textV nilS
  all_goals grind
def parseV (s : ByteArray) : Int × Int × ByteArray × Int :=
  if wordB s = false then (0, 0, ⟨#[]⟩, 6) else if s = nilS then (0, 0, ⟨#[]⟩, 0) else if isNumB s = false then (2, 0, s, 0)
  else if 1099511627776 < numOf s then (0, 0, ⟨#[]⟩, 12) else (1, if minusB s then -(numOf s : Int) else numOf s, ⟨#[]⟩, 0)
theorem wordB_size {s : ByteArray} (h : wordB s = true) : s.size ≤ 24 := by
  unfold wordB at h
  simp only [Bool.and_eq_true, decide_eq_true_eq] at h
  exact h.2.1
theorem p_rparse (s : ByteArray) (hz : s.size ≤ 9223372036854775807) : Pure Tryd.prog 124 [.v (.string s)] (.tup [vv (parseV s).1 (parseV s).2.1 (parseV s).2.2.1, .v (.int .i64 (parseV s).2.2.2)]) := by
  refine enterW Tryd.func124 rfl rfl rfl rfl (fun σ => ?_)
  repeat' (first|(first|(refine jl ?_;first|refine j7 ?_|refine jb ?_|refine j1 ?_|refine j4 ?_|refine j9 ?_|refine j13 (fun id hid=>?_)|refine j17t ?_|refine jp (p_rword _) ?_|refine jp (p_risnum _ hz) ?_|refine jp (p_rnumber _ (by simp_all) hz) ?_)|(refine jc ?_;first|refine c1 ?_|refine c2 ?_|refine c5 ?_|refine c6 ?_|refine c7 ?_)|refine n1 ?_|refine n2 ?_|refine n6 ?_|refine n10 ?_|refine n15 ?_)|(refine c9 (fun h=>?_) (fun h=>?_)<;>(try simp only [Bool.or_eq_true, Bool.and_eq_true, Bool.or_eq_false_iff, Bool.and_eq_false_iff, Bool.not_eq_true', Bool.not_eq_false', decide_eq_true_eq, decide_eq_false_iff_not, Bool.false_eq_true, Bool.true_eq_false, reduceCtorEq] at h)))
  · have e : parseV s = (0, 0, ⟨#[]⟩, 6) := by simp [parseV, h]
    rw [e]
    exact gives (by (try rw [St.set_set]); exact St.le_set _ hid) (Fin.refl _ _ _)
  · have e : parseV s = (0, 0, ⟨#[]⟩, 0) := by simp_all [parseV, nilS]
    rw [e]
    exact gives (by (try rw [St.set_set]); exact St.le_set _ hid) (Fin.refl _ _ _)
  · have e : parseV s = (2, 0, s, 0) := by simp_all [parseV, nilS]
    rw [e]
    exact gives (by (try rw [St.set_set]); exact St.le_set _ hid) (Fin.refl _ _ _)
  · have e : parseV s = (0, 0, ⟨#[]⟩, 12) := by
      have : 1099511627776 < numOf s := by
        unfold capN at h
        cases hm : minusB s <;> rw [hm] at h <;> simp only [Bool.false_eq_true, if_true, if_false] at h <;> omega
      simp_all [parseV, nilS]
    rw [e]
    exact gives (by (try rw [St.set_set]); exact St.le_set _ hid) (Fin.refl _ _ _)
  · have hlt : ¬ 1099511627776 < numOf s := by
      unfold capN at h
      cases hm : minusB s <;> rw [hm] at h <;> simp only [Bool.false_eq_true, if_true, if_false] at h <;> omega
    have e : parseV s = (1, if minusB s then -(numOf s : Int) else numOf s, ⟨#[]⟩, 0) := by simp_all [parseV, nilS]
    have e2 : min (numOf s) capN = numOf s := by unfold capN; omega
    rw [e, e2]
    exact gives (by (try rw [St.set_set]); exact St.le_set _ hid) (Fin.refl _ _ _)
theorem allD_get {s : ByteArray} (h : allD s = true) (i : Nat) (hi : i < (bodyS s).size) : dig (bt (bodyS s) i) := digB_get (bodyS s) i 0 h (Nat.zero_le _) hi
theorem p_parse (s : ByteArray) : Pure Tryd.prog 141 [.v (.string s)] (.tup [vv (parseV s).1 (parseV s).2.1 (parseV s).2.2.1, .v (.int .i64 (parseV s).2.2.2)]) := by
  refine enterW Tryd.func141 rfl rfl rfl rfl (fun σ => ?_)
  repeat' (first|(first|(refine jl ?_;first|refine jb ?_|refine j1 ?_|refine j4 ?_|refine j13 (fun id hid=>?_)|refine j17t ?_|refine j22 (fun id hid=>?_)|refine jp (p_word _) ?_|refine jp (p_digits _) ?_|refine jp (p_symbol _) ?_)|(refine jc ?_;first|refine c1 ?_|refine c2 ?_|refine c5 ?_|refine c6 ?_|refine c7 ?_)|refine n1 ?_|refine n2 ?_|refine n15 ?_)|(refine c9 (fun h=>?_) (fun h=>?_)<;>(try simp only [Bool.or_eq_true, Bool.and_eq_true, Bool.or_eq_false_iff, Bool.and_eq_false_iff, Bool.not_eq_true', Bool.not_eq_false', decide_eq_true_eq, decide_eq_false_iff_not, Bool.false_eq_true, Bool.true_eq_false, reduceCtorEq] at h)))
  · have e : parseV s = (0, 0, ⟨#[]⟩, 6) := by simp [parseV, h]
    rw [e]
    exact gives (by (try rw [St.set_set]); exact St.le_set _ hid) (Fin.refl _ _ _)
  · have e : parseV s = (0, 0, ⟨#[]⟩, 0) := by simp_all [parseV, nilS]
    rw [e]
    exact gives (by (try rw [St.set_set]); exact St.le_set _ hid) (Fin.refl _ _ _)
  · have e : parseV s = (2, 0, s, 0) := by simp_all [parseV, nilS]
    rw [e]
    exact gives (by (try rw [St.set_set]); exact St.le_set _ hid) (Fin.refl _ _ _)
  rename_i ir hir _ _
  have hsz := wordB_size ‹wordB s = true›
  obtain ⟨hd, hpos⟩ : allD s = true ∧ 0 < (bodyS s).size := by simpa [isNumB] using h
  have hbz : (bodyS s).size ≤ s.size := by
    unfold bodyS; split
    · rw [Lib.ext_size]; omega
    · exact Nat.le_refl _
  have hir2 : ir ≠ id := fun e => by subst e; simp [St.set_same] at hid
  have hv : ∀ n : Nat, numOf s = n → n ≤ 1099511627776 → parseV s = (1, if minusB s then -(n : Int) else n, ⟨#[]⟩, 0) := fun n hn hle => by
    have h1 : ¬ 1099511627776 < numOf s := by omega
    simp_all [parseV, nilS]
  have hbad : 1099511627776 < numOf s → parseV s = (0, 0, ⟨#[]⟩, 12) := fun h1 => by simp_all [parseV, nilS]
  rw [hd]
  simp only [if_true, Bool.true_and]
  refine cj_head (fun x : Nat × Nat => x.1 ≤ (bodyS s).size ∧ x.2 ≤ 1099511627776 ∧ valN x.2 ((bodyS s).data.toList.drop x.1) = numOf s) (fun x => [(28, .it id), (7, .v (.int .i64 x.2)), (2, .ptr ir 3 0 0), (5, .v (.bool (minusB s)))]) (fun x => (σ.set ir (.row 3 37 [[.v (.int .u8 0), .v (.int .i64 0), .v (.string ⟨#[]⟩)]])).set id (.siter (bodyS s) x.1)) (fun x => (bodyS s).size - x.1) (0, 0) ⟨Nat.zero_le _, Nat.zero_le _, rfl⟩ ⟨rfl, rfl, rfl, rfl, trivial⟩ (St.le_refl _) (fun x hx => ?_)
  obtain ⟨p, a⟩ := x
  obtain ⟨hp1, hp2, hp3⟩ := hx
  dsimp only at hp1 hp2 hp3 ⊢
  by_cases hlt : p < (bodyS s).size
  · obtain ⟨e1, e2⟩ := drop_bt (bodyS s) p hlt
    have hdg := allD_get hd p hlt
    have hdec : Utf8.decode (bodyS s) p = (bt (bodyS s) p, 1) := by
      rw [decodeL_rune', e1, Lib.decodeL_ascii _ _ (by omega), e2]
    rw [e1, valN_cons, e2] at hp3
    have hv2 := valN_le ((bodyS s).data.toList.drop (p + 1)) (10 * a + (bt (bodyS s) p - 48))
    have hw : IntKind.i64.wrap (IntKind.i64.wrap ((a : Int) * 10) + IntKind.i64.wrap (IntKind.i32.wrap (((bt (bodyS s) p : Nat) : Int) - 48))) = ((10 * a + (bt (bodyS s) p - 48) : Nat) : Int) := by
      rw [w32 (by omega) (by omega), w64 (n := ((bt (bodyS s) p : Nat) : Int) - 48) (by omega) (by omega), w64 (n := (a : Int) * 10) (by omega) (by omega), w64 (by omega) (by omega)]
      omega
    repeat (first|(refine jl ?_;first|refine j1 ?_|refine j4 ?_|refine j23 ?_)|(refine jc ?_;first|refine c1 ?_|refine c2 ?_|refine c3 ?_|refine c5 ?_|refine c6 ?_)|refine n1 ?_)
    rw [hdec]
    dsimp only
    rw [hw]
    repeat' (first|(first|(refine jl ?_;first|refine jb ?_|refine j1 ?_|refine j4 ?_|refine j17 ?_)|(refine jc ?_;first|refine c1 ?_|refine c2 ?_|refine c6 ?_|refine c7 ?_)|refine n2 ?_|refine n5 ?_|refine n6 ?_|refine n10 ?_|refine n15 ?_)|(refine c9 (fun h=>?_) (fun h=>?_)<;>(try simp only [Bool.or_eq_true, Bool.and_eq_true, Bool.or_eq_false_iff, Bool.and_eq_false_iff, Bool.not_eq_true', Bool.not_eq_false', decide_eq_true_eq, decide_eq_false_iff_not, Bool.false_eq_true, Bool.true_eq_false, reduceCtorEq] at h)))
    · rw [hbad (by omega)]
      exact ge rfl
    · exact nx_thn ⟨(p + 1, 10 * a + (bt (bodyS s) p - 48)), ⟨by simp only; omega, by simp only; omega, hp3⟩, by simp only; omega, ⟨rfl, rfl, rfl, rfl, trivial⟩, by (try rw [St.set_set]); exact St.le_refl _⟩
  · rw [List.drop_of_length_le (by rw [bl_len]; omega), valN_nil] at hp3
    have hpv := hv a hp3.symm hp2
    rw [hpv]
    repeat' (first|(first|(refine jl ?_;first|refine j1 ?_|refine j4 ?_|refine j17 ?_|refine j24 ?_|refine jp (p_number _) ?_)|(refine jc ?_;first|refine c1 ?_|refine c2 ?_|refine c4 ?_|refine c6 ?_|refine c7 ?_|refine c8 ?_)|refine n1 ?_|refine n3 ?_|refine n7 ?_|refine n8 ?_|refine n15 ?_)|(refine c9 (fun h=>?_) (fun h=>?_)<;>(try simp only [Bool.or_eq_true, Bool.and_eq_true, Bool.or_eq_false_iff, Bool.and_eq_false_iff, Bool.not_eq_true', Bool.not_eq_false', decide_eq_true_eq, decide_eq_false_iff_not, Bool.false_eq_true, Bool.true_eq_false, reduceCtorEq] at h)))
    · rw [h, if_pos rfl]
      refine ge ?_
      rw [w64 (by omega) (by omega), Int.zero_sub]
      rfl
    · rw [h]
      exact ge rfl
end Go.Proofs.YtddljegbggncdaaDoor.Ab

/- Facts: whether they may be, and are one. -/
set_option linter.unusedVariables false
set_option linter.unusedSimpArgs false
set_option maxRecDepth 20000
namespace Go.Proofs.YtddljegbggncdaaDoor.Ab
open Go
attribute [local irreducible] thn inb endR CJ LJ OpJ DJ

def tagB (n : Int) : Bool := decide (1 ≤ n) && decide (n ≤ 1099511627776)
abbrev valE (v : Vl) : Int := checkE v.k v.n v.s
def firstE : List Vl → Int
  | [] => 0
  | v :: r => if valE v = 0 then firstE r else valE v
def checkF (l : List Cls) (f : Fc) : Int := if tagB f.tag = false then 22 else match findC f.cls l with
  | none => 18
  | some c => if f.vals.length ≠ c.attrs.length then 4 else firstE f.vals
def ofC (l : List Cls) (f : Fc) : Cls := if tagB f.tag = false then noC else (findC f.cls l).getD noC
theorem p_tag (n : Int) : Pure Tryd.prog 114 [.v (.int .i64 n)] (.v (.bool (tagB n))) := by
  refine enterW Tryd.func114 rfl rfl rfl rfl (fun σ => ?_)
  repeat (first|(refine jl ?_;first|refine j8 ?_|refine j1 ?_|refine j4 ?_|refine j9 ?_)|(refine jc ?_;first|refine c1 ?_|refine c2 ?_|refine c7 ?_)|refine n11 ?_)
  exact ge rfl
theorem p_of (nl : Option Bool) (full : Bool) (l : List Cls) (f : Fc) : Pure Tryd.prog 84 [.sl nl full 2 (l.map cc), .agg (fc f)] (.tup [.agg (cc (ofC l f)), .v (.int .i64 (checkF l f))]) := by
  refine enterW Tryd.func84 rfl rfl rfl rfl (fun σ => ?_)
  obtain ⟨ft, fn, vs⟩ := f
  refine cj_lenA 1 2 (fun hm : (vs.map vc).length ≤ _ => ?_)
  have hn : (vs.map vc).length = vs.length := List.length_map ..
  have hn2 : ((((findC fn l).getD noC).attrs.map str1).length) = ((findC fn l).getD noC).attrs.length := List.length_map ..
  repeat' (first|(first|(refine jl ?_;first|refine jb ?_|refine j1 ?_|refine j4 ?_|refine j12 (fun id hid=>?_)|refine j13 (fun id hid=>?_)|refine j14 ?_|refine j17t ?_|refine j17 ?_|refine jp (p_tag _) ?_|refine jp (p_find _ _ _ _) ?_)|(refine jc ?_;first|refine c1 ?_|refine c2 ?_|refine c5 ?_|refine c6 ?_|refine c7 ?_)|refine n1 ?_|refine n2 ?_|refine n6 ?_|refine n10 ?_|refine n15 ?_)|(refine c9 (fun h=>?_) (fun h=>?_)<;>((try simp only [Bool.or_eq_true, Bool.and_eq_true, Bool.or_eq_false_iff, Bool.and_eq_false_iff, Bool.not_eq_true', Bool.not_eq_false', decide_eq_true_eq, decide_eq_false_iff_not, Bool.false_eq_true, Bool.true_eq_false, reduceCtorEq] at h) <;> (try simp (disch := omega) only [sb_bt, w64, Int.reduceAdd, Int.reduceToNat, Int.toNat_natCast, not_true_eq_false, false_or] at h) <;> (try (exfalso; omega)))))
  · rw [ofC, checkF, if_pos h, if_pos h]
    exact gvs (fin_two (.wk (Wk.agg ⟨Wk.refl _, Wk.sl _ _ _ _, trivial⟩)) (Fin.refl _ _ _))
  · have e : findC fn l = none := by simpa using h
    rw [ofC, checkF, if_neg (by simp [*]), if_neg (by simp [*]), e]
    exact ge rfl
  · obtain ⟨c, e⟩ := Option.isSome_iff_exists.1 (by assumption : (findC fn l).isSome = true)
    rw [e] at h hn2 ⊢
    rw [ofC, checkF, if_neg (by simp [*]), if_neg (by simp [*]), e]
    dsimp only [Option.getD] at h hn2 ⊢
    rw [if_pos (by omega)]
    exact ge rfl
  · obtain ⟨c, e⟩ := Option.isSome_iff_exists.1 (by assumption : (findC fn l).isSome = true)
    have h9 : checkF l ⟨ft, fn, vs⟩ = firstE vs := by
      rw [e] at h hn2
      rw [checkF, if_neg (by simp [*]), e]
      dsimp only [Option.getD] at h hn2 ⊢
      rw [if_neg (by omega)]
    have h8 : ofC l ⟨ft, fn, vs⟩ = (findC fn l).getD noC := by rw [ofC, if_neg (by simp [*])]
    rw [h8, h9]
    clear h8 h9
    refine cj_fors (fun i : Nat => firstE (vs.drop i) = firstE vs) (fun i => [(39, .v (.int .i64 i))]) (fun i => vs.length - i) 0 rfl ⟨⟨_, rfl, fun _ _ h => h⟩, trivial⟩ (fun i hi => ?_)
    rcases hd : vs.drop i with _ | ⟨x, r⟩
    · have h0 := dropn hd
      rw [hd, firstE] at hi
      repeat' (first|(first|(refine jl ?_;first|refine j1 ?_|refine j4 ?_|refine j14 ?_|refine j17 ?_)|(refine jc ?_;first|refine c1 ?_|refine c2 ?_|refine c7 ?_|refine c8 ?_)|refine n1 ?_|refine n3 ?_|refine n7 ?_|refine n8 ?_|refine n15 ?_)|(refine c9 (fun h=>?_) (fun h=>?_)<;>((try simp only [Bool.or_eq_true, Bool.and_eq_true, Bool.or_eq_false_iff, Bool.and_eq_false_iff, Bool.not_eq_true', Bool.not_eq_false', decide_eq_true_eq, decide_eq_false_iff_not, Bool.false_eq_true, Bool.true_eq_false, reduceCtorEq] at h) <;> (try simp (disch := omega) only [sb_bt, w64, Int.reduceAdd, Int.reduceToNat, Int.toNat_natCast, not_true_eq_false, false_or] at h) <;> (try (exfalso; omega)))))
      rw [← hi]
      exact ge rfl
    · obtain ⟨h1, h2, h3⟩ := dropc hd
      have h4 := get_map vc h3
      rw [hd, firstE] at hi
      repeat' (first|(first|(refine jl ?_;first|refine jbl ?_|refine j1 ?_|refine j4 ?_|refine j6 ?_|refine j13 (fun id hid=>?_)|refine j14 ?_|refine j17t ?_|refine j17 ?_|refine ji1 ?_|refine jp (p_check _ _ _) ?_)|(refine jc ?_;first|refine c1 ?_|refine c2 ?_|refine c5 ?_|refine c6 ?_|refine c7 ?_)|refine n1 ?_|refine n2 ?_|refine n5 ?_|refine n6 ?_|refine n10 ?_|refine n15 ?_)|(refine c9 (fun h=>?_) (fun h=>?_)<;>((try simp only [Bool.or_eq_true, Bool.and_eq_true, Bool.or_eq_false_iff, Bool.and_eq_false_iff, Bool.not_eq_true', Bool.not_eq_false', decide_eq_true_eq, decide_eq_false_iff_not, Bool.false_eq_true, Bool.true_eq_false, reduceCtorEq] at h) <;> (try simp (disch := omega) only [sb_bt, w64, Int.reduceAdd, Int.reduceToNat, Int.toNat_natCast, not_true_eq_false, false_or] at h) <;> (try (exfalso; omega)))))
      · rw [if_neg h] at hi
        rw [← hi]
        exact ge rfl
      · rw [if_pos (by assumption), ← h2] at hi
        exact nx_for (i + 1) hi (by omega) ⟨⟨_, rfl, wk1 (by omega)⟩, trivial⟩
theorem p_equalv (nl nl' : Option Bool) (full full' : Bool) (a b : List Vl) : Pure Tryd.prog 85 [.sl nl full 3 (a.map vc), .sl nl' full' 3 (b.map vc)] (.v (.bool (decide (a = b)))) := by
  refine enterW Tryd.func85 rfl rfl rfl rfl (fun σ => ?_)
  refine cj_len 0 (fun hm => ?_)
  refine cj_len 1 (fun hm' => ?_)
  have hn : (a.map vc).length = a.length := List.length_map ..
  have hn' : (b.map vc).length = b.length := List.length_map ..
  repeat' (first|(first|(refine jl ?_;first|refine j1 ?_|refine j4 ?_)|(refine jc ?_;first|refine c1 ?_|refine c2 ?_|refine c5 ?_|refine c6 ?_|refine c7 ?_)|refine n1 ?_|refine n2 ?_|refine n11 ?_)|(refine c9 (fun h=>?_) (fun h=>?_)<;>((try simp only [Bool.or_eq_true, Bool.and_eq_true, Bool.or_eq_false_iff, Bool.and_eq_false_iff, Bool.not_eq_true', Bool.not_eq_false', decide_eq_true_eq, decide_eq_false_iff_not, Bool.false_eq_true, Bool.true_eq_false, reduceCtorEq] at h) <;> (try simp (disch := omega) only [sb_bt, w64, Int.reduceAdd, Int.reduceToNat, Int.toNat_natCast, not_true_eq_false, false_or] at h) <;> (try (exfalso; omega)))))
  · rw [decide_eq_false (fun e => by rw [e] at h; exact h rfl)]
    exact ge rfl
  · refine cj_fors (fun i : Nat => decide (a.drop i = b.drop i) = decide (a = b)) (fun i => [(13, .v (.int .i64 i))]) (fun i => a.length - i) 0 rfl ⟨⟨_, rfl, fun _ _ h => h⟩, trivial⟩ (fun i hi => ?_)
    rcases hd : a.drop i with _ | ⟨x, r⟩
    · have h0 := dropn hd
      have hd' : b.drop i = [] := List.drop_of_length_le (by omega)
      rw [hd, hd', decide_eq_true rfl] at hi
      repeat' (first|(first|(refine jl ?_;first|refine j1 ?_|refine j4 ?_)|(refine jc ?_;first|refine c1 ?_|refine c2 ?_|refine c7 ?_|refine c8 ?_)|refine n1 ?_|refine n3 ?_|refine n7 ?_|refine n8 ?_|refine n11 ?_)|(refine c9 (fun h=>?_) (fun h=>?_)<;>((try simp only [Bool.or_eq_true, Bool.and_eq_true, Bool.or_eq_false_iff, Bool.and_eq_false_iff, Bool.not_eq_true', Bool.not_eq_false', decide_eq_true_eq, decide_eq_false_iff_not, Bool.false_eq_true, Bool.true_eq_false, reduceCtorEq] at h) <;> (try simp (disch := omega) only [sb_bt, w64, Int.reduceAdd, Int.reduceToNat, Int.toNat_natCast, not_true_eq_false, false_or] at h) <;> (try (exfalso; omega)))))
      rw [← hi]
      exact ge rfl
    · obtain ⟨h1, h2, h3⟩ := dropc hd
      rcases hd' : b.drop i with _ | ⟨y, r'⟩
      · have := dropn hd'; omega
      obtain ⟨h1', h2', h3'⟩ := dropc hd'
      have h4 := get_map vc h3
      have h4' := get_map vc h3'
      rw [hd, hd'] at hi
      repeat' (first|(first|(refine jl ?_;first|refine j1 ?_|refine j4 ?_|refine j6 ?_)|(refine dl ?_;first|refine dbl ?_|refine d1 ?_|refine d4 ?_|refine dne ?_|refine di1 ?_)|(refine jc ?_;first|refine c1 ?_|refine c2 ?_|refine c5 ?_|refine c6 ?_|refine c7 ?_|refine cq ?_)|refine n1 ?_|refine n2 ?_|refine n5 ?_|refine n6 ?_|refine n10 ?_|refine n11 ?_)|(refine c9 (fun h=>?_) (fun h=>?_)<;>((try simp only [Bool.or_eq_true, Bool.and_eq_true, Bool.or_eq_false_iff, Bool.and_eq_false_iff, Bool.not_eq_true', Bool.not_eq_false', decide_eq_true_eq, decide_eq_false_iff_not, Bool.false_eq_true, Bool.true_eq_false, reduceCtorEq] at h) <;> (try simp (disch := omega) only [sb_bt, w64, Int.reduceAdd, Int.reduceToNat, Int.toNat_natCast, not_true_eq_false, false_or] at h) <;> (try (exfalso; omega)))))
      · rw [← hi, decide_eq_false (fun e => by have := (List.cons.inj e).1; subst this; simp at h)]
        exact ge rfl
      · have e : x = y := by cases x; cases y; simp_all
        have e2 : decide (x :: r = y :: r') = decide (r = r') := decide_eq_decide.2 (by rw [e]; simp)
        rw [e2, ← h2, ← h2'] at hi
        exact nx_for (i + 1) hi (by omega) ⟨⟨_, rfl, wk1 (by omega)⟩, trivial⟩
theorem p_ccheck (nl : Option Bool) (full : Bool) (l : List Cls) (f : Fc) : Pure Tryd.prog 43 [.sl nl full 2 (l.map cc), .agg (fc f)] (.v (.int .i64 (checkF l f))) := by
  refine enterW Tryd.func43 rfl rfl rfl rfl (fun σ => ?_)
  repeat (first|(refine jl ?_;first|refine j1 ?_|refine j4 ?_|refine j12 (fun id hid=>?_)|refine j13 (fun id hid=>?_)|refine j14 ?_|refine j17t ?_|refine jp (p_of _ _ _ _) ?_)|(refine jc ?_;first|refine c1 ?_|refine c2 ?_|refine c7 ?_)|refine n11 ?_)
  exact ge rfl
def sameF (a b : Fc) : Bool := decide (a.tag = b.tag) && decide (a.cls = b.cls) && decide (a.vals = b.vals)
theorem p_csame (a b : Fc) : Pure Tryd.prog 44 [.agg (fc a), .agg (fc b)] (.v (.bool (sameF a b))) := by
  refine enterW Tryd.func44 rfl rfl rfl rfl (fun σ => ?_)
  repeat (first|(refine jl ?_;first|refine j8 ?_|refine j1 ?_|refine j4 ?_|refine j9 ?_|refine j12 (fun id hid=>?_)|refine j14 ?_|refine j16 ?_|refine jcq (hp:=fun hc=>p_equalv _ _ _ _ _ _) ?_)|(refine jc ?_;first|refine c1 ?_|refine c2 ?_|refine c7 ?_)|refine n11 ?_)
  exact ge rfl
theorem p_rsame (a b : Fc) : Pure Tryd.prog 42 [.agg (fc a), .agg (fc b)] (.v (.bool (sameF a b))) := by
  refine enterW Tryd.func42 rfl rfl rfl rfl (fun σ => ?_)
  obtain ⟨at', an, a⟩ := a
  obtain ⟨bt', bn, b⟩ := b
  refine cj_lenA 0 2 (fun hm : (a.map vc).length ≤ _ => ?_)
  refine cj_lenA 1 2 (fun hm' : (b.map vc).length ≤ _ => ?_)
  have hn : (a.map vc).length = a.length := List.length_map ..
  have hn' : (b.map vc).length = b.length := List.length_map ..
  repeat' (first|(first|(refine jl ?_;first|refine j7 ?_|refine j1 ?_|refine j4 ?_|refine j9 ?_|refine j12 (fun id hid=>?_)|refine j14 ?_|refine j16 ?_)|(refine jc ?_;first|refine c1 ?_|refine c2 ?_|refine c5 ?_|refine c6 ?_|refine c7 ?_)|refine n1 ?_|refine n2 ?_|refine n11 ?_)|(refine c9 (fun h=>?_) (fun h=>?_)<;>((try simp only [Bool.or_eq_true, Bool.and_eq_true, Bool.or_eq_false_iff, Bool.and_eq_false_iff, Bool.not_eq_true', Bool.not_eq_false', decide_eq_true_eq, decide_eq_false_iff_not, Bool.false_eq_true, Bool.true_eq_false, reduceCtorEq] at h) <;> (try simp (disch := omega) only [sb_bt, w64, Int.reduceAdd, Int.reduceToNat, Int.toNat_natCast, not_true_eq_false, false_or] at h) <;> (try (exfalso; omega)))))
  · have : sameF ⟨at', an, a⟩ ⟨bt', bn, b⟩ = false := by
      rw [Bool.eq_false_iff]
      intro e
      simp only [sameF, Bool.and_eq_true, decide_eq_true_eq] at e
      obtain ⟨⟨e1, e2⟩, e3⟩ := e
      subst e1; subst e2; subst e3
      simp at h
    rw [this]
    exact ge rfl
  · have hs : sameF ⟨at', an, a⟩ ⟨bt', bn, b⟩ = decide (a = b) := by
      obtain ⟨⟨e1, e2⟩, e3⟩ := h
      simp [sameF, e1, e2]
    rw [hs]
    refine cj_fors (fun i : Nat => decide (a.drop i = b.drop i) = decide (a = b)) (fun i => [(5, .v (.int .i64 i))]) (fun i => a.length - i) 0 rfl ⟨⟨_, rfl, fun _ _ h => h⟩, trivial⟩ (fun i hi => ?_)
    rcases hd : a.drop i with _ | ⟨x, r⟩
    · have h0 := dropn hd
      have hd' : b.drop i = [] := List.drop_of_length_le (by omega)
      rw [hd, hd', decide_eq_true rfl] at hi
      repeat' (first|(first|(refine jl ?_;first|refine j1 ?_|refine j4 ?_|refine j14 ?_)|(refine jc ?_;first|refine c1 ?_|refine c2 ?_|refine c7 ?_|refine c8 ?_)|refine n1 ?_|refine n3 ?_|refine n7 ?_|refine n8 ?_|refine n11 ?_)|(refine c9 (fun h=>?_) (fun h=>?_)<;>((try simp only [Bool.or_eq_true, Bool.and_eq_true, Bool.or_eq_false_iff, Bool.and_eq_false_iff, Bool.not_eq_true', Bool.not_eq_false', decide_eq_true_eq, decide_eq_false_iff_not, Bool.false_eq_true, Bool.true_eq_false, reduceCtorEq] at h) <;> (try simp (disch := omega) only [sb_bt, w64, Int.reduceAdd, Int.reduceToNat, Int.toNat_natCast, not_true_eq_false, false_or] at h) <;> (try (exfalso; omega)))))
      rw [← hi]
      exact ge rfl
    · obtain ⟨h1, h2, h3⟩ := dropc hd
      rcases hd' : b.drop i with _ | ⟨y, r'⟩
      · have := dropn hd'; omega
      obtain ⟨h1', h2', h3'⟩ := dropc hd'
      have h4 := get_map vc h3
      have h4' := get_map vc h3'
      rw [hd, hd'] at hi
      repeat' (first|(first|(refine jl ?_;first|refine j1 ?_|refine j4 ?_|refine j6 ?_|refine j14 ?_)|(refine dl ?_;first|refine dbl ?_|refine d1 ?_|refine d4 ?_|refine d14 ?_|refine dne ?_|refine di1 ?_)|(refine jc ?_;first|refine c1 ?_|refine c2 ?_|refine c5 ?_|refine c6 ?_|refine c7 ?_|refine cq ?_)|refine n1 ?_|refine n2 ?_|refine n5 ?_|refine n6 ?_|refine n10 ?_|refine n11 ?_)|(refine c9 (fun h=>?_) (fun h=>?_)<;>((try simp only [Bool.or_eq_true, Bool.and_eq_true, Bool.or_eq_false_iff, Bool.and_eq_false_iff, Bool.not_eq_true', Bool.not_eq_false', decide_eq_true_eq, decide_eq_false_iff_not, Bool.false_eq_true, Bool.true_eq_false, reduceCtorEq] at h) <;> (try simp (disch := omega) only [sb_bt, w64, Int.reduceAdd, Int.reduceToNat, Int.toNat_natCast, not_true_eq_false, false_or] at h) <;> (try (exfalso; omega)))))
      · rw [← hi, decide_eq_false (fun e => by have := (List.cons.inj e).1; subst this; simp at h)]
        exact ge rfl
      · have e : x = y := by cases x; cases y; simp_all
        have e2 : decide (x :: r = y :: r') = decide (r = r') := decide_eq_decide.2 (by rw [e]; simp)
        rw [e2, ← h2, ← h2'] at hi
        exact nx_for (i + 1) hi (by omega) ⟨⟨_, rfl, wk1 (by omega)⟩, trivial⟩
theorem p_rccheck (nl : Option Bool) (full : Bool) (l : List Cls) (f : Fc) (hz : ∀ v ∈ f.vals, v.s.size ≤ 60) : Pure Tryd.prog 58 [.sl nl full 2 (l.map cc), .agg (fc f)] (.v (.int .i64 (checkF l f))) := by
  refine enterW Tryd.func58 rfl rfl rfl rfl (fun σ => ?_)
  obtain ⟨ft, fn, vs⟩ := f
  dsimp only at hz
  refine cj_lenA 1 2 (fun hm : (vs.map vc).length ≤ _ => ?_)
  have hn : (vs.map vc).length = vs.length := List.length_map ..
  have hn2 : ((((findC fn l).getD noC).attrs.map str1).length) = ((findC fn l).getD noC).attrs.length := List.length_map ..
  repeat' (first|(first|(refine jl ?_;first|refine j7 ?_|refine j1 ?_|refine j4 ?_|refine j9 ?_|refine j12 (fun id hid=>?_)|refine j13 (fun id hid=>?_)|refine j14 ?_|refine j17t ?_|refine j16 ?_|refine jp (p_rfind _ _ _ _) ?_)|(refine jc ?_;first|refine c1 ?_|refine c2 ?_|refine c5 ?_|refine c6 ?_|refine c7 ?_)|refine n1 ?_|refine n2 ?_|refine n6 ?_|refine n10 ?_|refine n11 ?_)|(refine c9 (fun h=>?_) (fun h=>?_)<;>((try simp only [Bool.or_eq_true, Bool.and_eq_true, Bool.or_eq_false_iff, Bool.and_eq_false_iff, Bool.not_eq_true', Bool.not_eq_false', decide_eq_true_eq, decide_eq_false_iff_not, Bool.false_eq_true, Bool.true_eq_false, reduceCtorEq] at h) <;> (try simp (disch := omega) only [sb_bt, w64, Int.reduceAdd, Int.reduceToNat, Int.toNat_natCast, not_true_eq_false, false_or] at h) <;> (try (exfalso; omega)))))
  · rw [checkF, if_pos (by simp only [tagB, Bool.and_eq_false_iff, decide_eq_false_iff_not]; omega)]
    exact ge rfl
  all_goals have ht : tagB ft = true := by simp only [tagB, Bool.and_eq_true, decide_eq_true_eq]; omega
  · have e : findC fn l = none := by simpa using h
    rw [checkF, if_neg (by simp [ht]), e]
    exact ge rfl
  · obtain ⟨c, e⟩ := Option.isSome_iff_exists.1 (by assumption : (findC fn l).isSome = true)
    rw [e] at h hn2
    rw [checkF, if_neg (by simp [ht]), e]
    dsimp only [Option.getD] at h hn2 ⊢
    rw [if_pos (by omega)]
    exact ge rfl
  · obtain ⟨c, e⟩ := Option.isSome_iff_exists.1 (by assumption : (findC fn l).isSome = true)
    have h9 : checkF l ⟨ft, fn, vs⟩ = firstE vs := by
      rw [e] at h hn2
      rw [checkF, if_neg (by simp [ht]), e]
      dsimp only [Option.getD] at h hn2 ⊢
      rw [if_neg (by omega)]
    rw [h9]
    clear h9
    refine cj_fors (fun i : Nat => firstE (vs.drop i) = firstE vs) (fun i => [(7, .v (.int .i64 i))]) (fun i => vs.length - i) 0 rfl ⟨⟨_, rfl, fun _ _ h => h⟩, trivial⟩ (fun i hi => ?_)
    rcases hd : vs.drop i with _ | ⟨x, r⟩
    · have h0 := dropn hd
      rw [hd, firstE] at hi
      repeat' (first|(first|(refine jl ?_;first|refine j1 ?_|refine j4 ?_|refine j14 ?_)|(refine jc ?_;first|refine c1 ?_|refine c2 ?_|refine c7 ?_|refine c8 ?_)|refine n1 ?_|refine n3 ?_|refine n7 ?_|refine n8 ?_|refine n11 ?_)|(refine c9 (fun h=>?_) (fun h=>?_)<;>((try simp only [Bool.or_eq_true, Bool.and_eq_true, Bool.or_eq_false_iff, Bool.and_eq_false_iff, Bool.not_eq_true', Bool.not_eq_false', decide_eq_true_eq, decide_eq_false_iff_not, Bool.false_eq_true, Bool.true_eq_false, reduceCtorEq] at h) <;> (try simp (disch := omega) only [sb_bt, w64, Int.reduceAdd, Int.reduceToNat, Int.toNat_natCast, not_true_eq_false, false_or] at h) <;> (try (exfalso; omega)))))
      rw [← hi]
      exact ge rfl
    · obtain ⟨h1, h2, h3⟩ := dropc hd
      have h4 := get_map vc h3
      have hx : x.s.size ≤ 9223372036854775807 := by have := hz x (List.mem_of_getElem? h3); omega
      rw [hd, firstE] at hi
      repeat' (first|(first|(refine jl ?_;first|refine jbl ?_|refine j1 ?_|refine j4 ?_|refine j6 ?_|refine j14 ?_|refine ji1 ?_|refine jp (p_rcheck x.k x.n x.s hx) ?_)|(refine jc ?_;first|refine c1 ?_|refine c2 ?_|refine c5 ?_|refine c6 ?_|refine c7 ?_)|refine n1 ?_|refine n2 ?_|refine n5 ?_|refine n6 ?_|refine n10 ?_|refine n11 ?_)|(refine c9 (fun h=>?_) (fun h=>?_)<;>((try simp only [Bool.or_eq_true, Bool.and_eq_true, Bool.or_eq_false_iff, Bool.and_eq_false_iff, Bool.not_eq_true', Bool.not_eq_false', decide_eq_true_eq, decide_eq_false_iff_not, Bool.false_eq_true, Bool.true_eq_false, reduceCtorEq] at h) <;> (try simp (disch := omega) only [sb_bt, w64, Int.reduceAdd, Int.reduceToNat, Int.toNat_natCast, not_true_eq_false, false_or] at h) <;> (try (exfalso; omega)))))
      · rw [if_neg h] at hi
        rw [← hi]
        exact ge rfl
      · rw [if_pos (by assumption), ← h2] at hi
        exact nx_for (i + 1) hi (by omega) ⟨⟨_, rfl, wk1 (by omega)⟩, trivial⟩
end Go.Proofs.YtddljegbggncdaaDoor.Ab

/- Classes, facts and sets that are small enough. -/
set_option linter.unusedVariables false
set_option linter.unusedSimpArgs false
set_option maxRecDepth 20000
namespace Go.Proofs.YtddljegbggncdaaDoor.Ab
open Go
attribute [local irreducible] thn inb endR CJ LJ OpJ DJ

abbrev smallC (c : Cls) : Prop := c.attrs.length ≤ 20 ∧ c.name.size ≤ 60 ∧ ∀ a ∈ c.attrs, a.size ≤ 60
abbrev smallV (v : Vl) : Prop := v.s.size ≤ 60
abbrev smallB (b : Bd) : Prop := b.name.size ≤ 60 ∧ b.val.s.size ≤ 60
def lightP (l : List Cls) (f : Fc) (sets : List Bd) : Prop := (l.length ≤ 20 ∧ f.vals.length ≤ 20 ∧ f.cls.size ≤ 60 ∧ sets.length ≤ 20) ∧ (∀ c ∈ l, smallC c) ∧ (∀ v ∈ f.vals, smallV v) ∧ (∀ b ∈ sets, smallB b)
noncomputable def lightB (l : List Cls) (f : Fc) (sets : List Bd) : Bool := @decide (lightP l f sets) (Classical.propDecidable _)
theorem lightB_false {l : List Cls} {f : Fc} {sets : List Bd} (h : ¬ lightP l f sets) : lightB l f sets = false := @decide_eq_false _ (Classical.propDecidable _) h
theorem lightB_true {l : List Cls} {f : Fc} {sets : List Bd} (h : lightP l f sets) : lightB l f sets = true := @decide_eq_true _ (Classical.propDecidable _) h
theorem lightB_iff {l : List Cls} {f : Fc} {sets : List Bd} (h : lightB l f sets = true) : lightP l f sets := @of_decide_eq_true _ (Classical.propDecidable _) h
theorem take_succ_all {α : Type} {p : α → Prop} {l : List α} {i : Nat} {x : α} (h : ∀ y ∈ l.take i, p y) (hx : l[i]? = some x) (hp : p x) : ∀ y ∈ l.take (i + 1), p y := by
  rw [List.take_add_one, hx]
  intro y hy
  rcases List.mem_append.1 hy with hy | hy
  · exact h y hy
  · simp at hy; exact hy ▸ hp
theorem take_all {α : Type} {p : α → Prop} {l : List α} {i : Nat} (h : ∀ y ∈ l.take i, p y) (hi : l.length ≤ i) : ∀ y ∈ l, p y := by rwa [List.take_of_length_le hi] at h
theorem p_light (nl nl' : Option Bool) (full full' : Bool) (l : List Cls) (f : Fc) (sets : List Bd) : Pure Tryd.prog 37 [.sl nl full 2 (l.map cc), .agg (fc f), .sl nl' full' 4 (sets.map bc)] (.v (.bool (lightB l f sets))) := by
  refine enterW Tryd.func37 rfl rfl rfl rfl (fun σ => ?_)
  obtain ⟨ft, fn, vs⟩ := f
  have hn : (l.map cc).length = l.length := List.length_map ..
  have hn2 : (vs.map vc).length = vs.length := List.length_map ..
  have hn3 : (sets.map bc).length = sets.length := List.length_map ..
  repeat' (first|(first|(refine jl ?_;first|refine j7 ?_|refine j1 ?_|refine j4 ?_|refine j9 ?_|refine j12 (fun id hid=>?_)|refine j16 ?_)|(refine jc ?_;first|refine c1 ?_|refine c2 ?_|refine c5 ?_|refine c6 ?_|refine c7 ?_)|refine n1 ?_|refine n2 ?_|refine n11 ?_)|(refine c9 (fun h=>?_) (fun h=>?_)<;>((try simp only [Bool.or_eq_true, Bool.and_eq_true, Bool.or_eq_false_iff, Bool.and_eq_false_iff, Bool.not_eq_true', Bool.not_eq_false', decide_eq_true_eq, decide_eq_false_iff_not, Bool.false_eq_true, Bool.true_eq_false, reduceCtorEq] at h) <;> (try simp (disch := omega) only [sb_bt, w64, Int.reduceAdd, Int.reduceToNat, Int.toNat_natCast, not_true_eq_false, false_or] at h) <;> (try (exfalso; omega)))))
  · rw [lightB_false (fun e => by obtain ⟨⟨e1, e2, e3, e4⟩, _⟩ := e; dsimp only at e2 e3; omega)]
    exact ge rfl
  have hc : l.length ≤ 20 ∧ vs.length ≤ 20 ∧ fn.size ≤ 60 ∧ sets.length ≤ 20 := by omega
  refine cj_fors (fun i : Nat => ∀ c ∈ l.take i, smallC c) (fun i => [(7, .v (.int .i64 i))]) (fun i => l.length - i) 0 (by simp) ⟨⟨_, rfl, fun _ _ h => h⟩, trivial⟩ (fun i hi => ?_)
  rcases hd : l.drop i with _ | ⟨x, r⟩
  · have h0 := dropn hd
    have hl := take_all hi h0
    clear hi
    repeat' (first|(first|(refine jl ?_;first|refine j1 ?_|refine j4 ?_)|(refine jc ?_;first|refine c1 ?_|refine c2 ?_|refine c5 ?_|refine c8 ?_)|refine n1 ?_|refine n3 ?_|refine n7 ?_|refine n8 ?_)|(refine c9 (fun h=>?_) (fun h=>?_)<;>((try simp only [Bool.or_eq_true, Bool.and_eq_true, Bool.or_eq_false_iff, Bool.and_eq_false_iff, Bool.not_eq_true', Bool.not_eq_false', decide_eq_true_eq, decide_eq_false_iff_not, Bool.false_eq_true, Bool.true_eq_false, reduceCtorEq] at h) <;> (try simp (disch := omega) only [sb_bt, w64, Int.reduceAdd, Int.reduceToNat, Int.toNat_natCast, not_true_eq_false, false_or] at h) <;> (try (exfalso; omega)))))
    refine cj_fors (fun i : Nat => ∀ c ∈ vs.take i, smallV c) (fun i => [(9, .v (.int .i64 i))]) (fun i => vs.length - i) 0 (by simp) ⟨⟨_, rfl, fun _ _ h => h⟩, trivial⟩ (fun j hi => ?_)
    rcases hd' : vs.drop j with _ | ⟨x, r⟩
    · have h0 := dropn hd'
      have hv := take_all hi h0
      clear hi
      repeat' (first|(first|(refine jl ?_;first|refine j1 ?_|refine j4 ?_|refine j14 ?_)|(refine jc ?_;first|refine c1 ?_|refine c2 ?_|refine c5 ?_|refine c8 ?_)|refine n1 ?_|refine n3 ?_|refine n7 ?_|refine n8 ?_)|(refine c9 (fun h=>?_) (fun h=>?_)<;>((try simp only [Bool.or_eq_true, Bool.and_eq_true, Bool.or_eq_false_iff, Bool.and_eq_false_iff, Bool.not_eq_true', Bool.not_eq_false', decide_eq_true_eq, decide_eq_false_iff_not, Bool.false_eq_true, Bool.true_eq_false, reduceCtorEq] at h) <;> (try simp (disch := omega) only [sb_bt, w64, Int.reduceAdd, Int.reduceToNat, Int.toNat_natCast, not_true_eq_false, false_or] at h) <;> (try (exfalso; omega)))))
      refine cj_fors (fun i : Nat => ∀ c ∈ sets.take i, smallB c) (fun i => [(10, .v (.int .i64 i))]) (fun i => sets.length - i) 0 (by simp) ⟨⟨_, rfl, fun _ _ h => h⟩, trivial⟩ (fun k hi => ?_)
      rcases hd'' : sets.drop k with _ | ⟨x, r⟩
      · have h0 := dropn hd''
        have hs := take_all hi h0
        repeat' (first|(first|(refine jl ?_;first|refine j1 ?_|refine j4 ?_)|(refine jc ?_;first|refine c1 ?_|refine c2 ?_|refine c7 ?_|refine c8 ?_)|refine n1 ?_|refine n3 ?_|refine n7 ?_|refine n8 ?_|refine n11 ?_)|(refine c9 (fun h=>?_) (fun h=>?_)<;>((try simp only [Bool.or_eq_true, Bool.and_eq_true, Bool.or_eq_false_iff, Bool.and_eq_false_iff, Bool.not_eq_true', Bool.not_eq_false', decide_eq_true_eq, decide_eq_false_iff_not, Bool.false_eq_true, Bool.true_eq_false, reduceCtorEq] at h) <;> (try simp (disch := omega) only [sb_bt, w64, Int.reduceAdd, Int.reduceToNat, Int.toNat_natCast, not_true_eq_false, false_or] at h) <;> (try (exfalso; omega)))))
        rw [lightB_true ⟨hc, hl, hv, hs⟩]
        exact ge rfl
      · obtain ⟨h1, h2, h3⟩ := dropc hd''
        have h4 := get_map bc h3
        repeat' (first|(first|(refine jl ?_;first|refine j7 ?_|refine jbl ?_|refine j1 ?_|refine j4 ?_|refine j6 ?_|refine j9 ?_|refine ji1 ?_|refine ji3 ?_)|(refine jc ?_;first|refine c1 ?_|refine c2 ?_|refine c5 ?_|refine c6 ?_|refine c7 ?_)|refine n1 ?_|refine n2 ?_|refine n5 ?_|refine n6 ?_|refine n10 ?_|refine n11 ?_)|(refine c9 (fun h=>?_) (fun h=>?_)<;>((try simp only [Bool.or_eq_true, Bool.and_eq_true, Bool.or_eq_false_iff, Bool.and_eq_false_iff, Bool.not_eq_true', Bool.not_eq_false', decide_eq_true_eq, decide_eq_false_iff_not, Bool.false_eq_true, Bool.true_eq_false, reduceCtorEq] at h) <;> (try simp (disch := omega) only [sb_bt, w64, Int.reduceAdd, Int.reduceToNat, Int.toNat_natCast, not_true_eq_false, false_or] at h) <;> (try (exfalso; omega)))))
        · rw [lightB_false (fun e => by have := e.2.2.2 x (List.mem_of_getElem? h3); unfold smallB at this; omega)]
          exact ge rfl
        · exact nx_for (k + 1) (take_succ_all hi h3 (by unfold smallB; omega)) (by omega) ⟨⟨_, rfl, wk1 (by omega)⟩, trivial⟩
    · obtain ⟨h1, h2, h3⟩ := dropc hd'
      have h4 := get_map vc h3
      repeat' (first|(first|(refine jl ?_;first|refine jbl ?_|refine j1 ?_|refine j4 ?_|refine j6 ?_|refine j14 ?_|refine ji1 ?_)|(refine jc ?_;first|refine c1 ?_|refine c2 ?_|refine c5 ?_|refine c6 ?_|refine c7 ?_)|refine n1 ?_|refine n2 ?_|refine n5 ?_|refine n6 ?_|refine n10 ?_|refine n11 ?_)|(refine c9 (fun h=>?_) (fun h=>?_)<;>((try simp only [Bool.or_eq_true, Bool.and_eq_true, Bool.or_eq_false_iff, Bool.and_eq_false_iff, Bool.not_eq_true', Bool.not_eq_false', decide_eq_true_eq, decide_eq_false_iff_not, Bool.false_eq_true, Bool.true_eq_false, reduceCtorEq] at h) <;> (try simp (disch := omega) only [sb_bt, w64, Int.reduceAdd, Int.reduceToNat, Int.toNat_natCast, not_true_eq_false, false_or] at h) <;> (try (exfalso; omega)))))
      · rw [lightB_false (fun e => by have := e.2.2.1 x (List.mem_of_getElem? h3); unfold smallV at this; omega)]
        exact ge rfl
      · exact nx_for (j + 1) (take_succ_all hi h3 (by unfold smallV; omega)) (by omega) ⟨⟨_, rfl, wk1 (by omega)⟩, trivial⟩
  · obtain ⟨h1, h2, h3⟩ := dropc hd
    have h4 := get_map cc h3
    obtain ⟨xn, xa⟩ := x
    have hn4 : (xa.map str1).length = xa.length := List.length_map ..
    repeat' (first|(first|(refine jl ?_;first|refine j7 ?_|refine jbl ?_|refine j1 ?_|refine j4 ?_|refine j9 ?_|refine ji1 ?_|refine ji3 ?_)|(refine jc ?_;first|refine c1 ?_|refine c2 ?_|refine c5 ?_|refine c6 ?_|refine c7 ?_)|refine n1 ?_|refine n2 ?_|refine n5 ?_|refine n6 ?_|refine n11 ?_)|(refine c9 (fun h=>?_) (fun h=>?_)<;>((try simp only [Bool.or_eq_true, Bool.and_eq_true, Bool.or_eq_false_iff, Bool.and_eq_false_iff, Bool.not_eq_true', Bool.not_eq_false', decide_eq_true_eq, decide_eq_false_iff_not, Bool.false_eq_true, Bool.true_eq_false, reduceCtorEq] at h) <;> (try simp (disch := omega) only [sb_bt, w64, Int.reduceAdd, Int.reduceToNat, Int.toNat_natCast, not_true_eq_false, false_or] at h) <;> (try (exfalso; omega)))))
    · rw [lightB_false (fun e => by have := e.2.1 _ (List.mem_of_getElem? h3); unfold smallC at this; dsimp only at *; omega)]
      exact ge rfl
    · refine cj_fors (fun i : Nat => ∀ c ∈ xa.take i, c.size ≤ 60) (fun i => [(8, .v (.int .i64 i))]) (fun i => xa.length - i) 0 (by simp) ⟨⟨_, rfl, fun _ _ h => h⟩, trivial⟩ (fun j hj => ?_)
      rcases hd' : xa.drop j with _ | ⟨y, r'⟩
      · have h0 := dropn hd'
        have ha := take_all hj h0
        repeat' (first|(first|(refine jl ?_;first|refine jbl ?_|refine j1 ?_|refine j4 ?_|refine j6 ?_|refine ji1 ?_)|(refine jc ?_;first|refine c1 ?_|refine c2 ?_|refine c8 ?_)|refine n1 ?_|refine n3 ?_|refine n7 ?_|refine n8 ?_|refine n10 ?_)|(refine c9 (fun h=>?_) (fun h=>?_)<;>((try simp only [Bool.or_eq_true, Bool.and_eq_true, Bool.or_eq_false_iff, Bool.and_eq_false_iff, Bool.not_eq_true', Bool.not_eq_false', decide_eq_true_eq, decide_eq_false_iff_not, Bool.false_eq_true, Bool.true_eq_false, reduceCtorEq] at h) <;> (try simp (disch := omega) only [sb_bt, w64, Int.reduceAdd, Int.reduceToNat, Int.toNat_natCast, not_true_eq_false, false_or] at h) <;> (try (exfalso; omega)))))
        exact nx_for (i + 1) (take_succ_all hi h3 (by unfold smallC; dsimp only at *; exact ⟨by omega, by omega, ha⟩)) (by omega) ⟨⟨_, rfl, wk1 (by omega)⟩, trivial⟩
      · obtain ⟨h1', h2', h3'⟩ := dropc hd'
        have h4' := get_map str1 h3'
        repeat' (first|(first|(refine jl ?_;first|refine jbl ?_|refine j1 ?_|refine j4 ?_|refine j6 ?_|refine ji1 ?_)|(refine jc ?_;first|refine c1 ?_|refine c2 ?_|refine c5 ?_|refine c6 ?_|refine c7 ?_)|refine n1 ?_|refine n2 ?_|refine n5 ?_|refine n6 ?_|refine n10 ?_|refine n11 ?_)|(refine c9 (fun h=>?_) (fun h=>?_)<;>((try simp only [Bool.or_eq_true, Bool.and_eq_true, Bool.or_eq_false_iff, Bool.and_eq_false_iff, Bool.not_eq_true', Bool.not_eq_false', decide_eq_true_eq, decide_eq_false_iff_not, Bool.false_eq_true, Bool.true_eq_false, reduceCtorEq] at h) <;> (try simp (disch := omega) only [sb_bt, w64, Int.reduceAdd, Int.reduceToNat, Int.toNat_natCast, not_true_eq_false, false_or] at h) <;> (try (exfalso; omega)))))
        · rw [lightB_false (fun e => by have := (e.2.1 _ (List.mem_of_getElem? h3)).2.2 y (List.mem_of_getElem? h3'); omega)]
          exact ge rfl
        · exact nx_for (j + 1) (take_succ_all hj h3' (by omega)) (by omega) ⟨⟨_, rfl, wk1 (by omega)⟩, trivial⟩
end Go.Proofs.YtddljegbggncdaaDoor.Ab

/- Facts changed. -/
set_option linter.unusedVariables false
set_option linter.unusedSimpArgs false
set_option maxRecDepth 20000
namespace Go.Proofs.YtddljegbggncdaaDoor.Ab
open Go
attribute [local irreducible] thn inb endR CJ LJ OpJ DJ DA DB AllocK

theorem p_clonev (nl : Option Bool) (full : Bool) (l : List Vl) (hl : l.length ≤ 65536) : Pure Tryd.prog 72 [.sl nl full 3 (l.map vc)] (.sl none false 3 (l.map vc)) := by
  refine enterW Tryd.func72 rfl rfl rfl rfl (fun σ => ?_)
  have hn : (l.map vc).length = l.length := List.length_map ..
  repeat (first|(refine jl ?_;first|refine j1 ?_|refine j4 ?_)|(refine jc ?_;first|refine c1 ?_|refine c2 ?_))
  refine lj_v_any rfl (fun R hR => opj_isnil_sl rfl rfl rfl rfl hR) (fun b hb => ?_)
  repeat' (first|(first|(refine jl ?_;first|refine j1 ?_|refine j4 ?_)|(refine jc ?_;first|refine c1 ?_|refine c2 ?_|refine c6 ?_|refine c7 ?_)|refine n1 ?_|refine n2 ?_|refine n11 ?_)|(refine c9 (fun h=>?_) (fun h=>?_)<;>(try simp only [Bool.or_eq_true, Bool.and_eq_true, Bool.or_eq_false_iff, Bool.and_eq_false_iff, Bool.not_eq_true', Bool.not_eq_false', decide_eq_true_eq, decide_eq_false_iff_not, Bool.false_eq_true, Bool.true_eq_false, reduceCtorEq] at h)))
  · rw [hb h]
    exact gvs (.wk (Wk.nil _ _ _ _))
  · refine jlit ?_
    repeat (first|(refine jl ?_;first|refine j1 ?_))
    refine japp 32 ?_
    repeat (first|(refine jl ?_;first|refine j1 ?_|refine j4 ?_)|(refine jc ?_;first|refine c7 ?_)|refine n11 ?_)
    exact ge rfl
theorem q_clonev (nl : Option Bool) (full : Bool) (l : List Vl) (hl : l.length ≤ 65536) (h0 : l ≠ []) (σ : St) : ACalls Tryd.prog 72 [.sl nl full 3 (l.map vc)] σ (fun e σ' => ∃ id, σ id = none ∧ e = .ret (.osl id 3 0 l.length) ∧ σ' = σ.set id (.row 3 37 (l.map vc))) := by
  refine enter Tryd.func72 rfl rfl rfl rfl ?_
  have hn : (l.map vc).length = l.length := List.length_map ..
  repeat (first|(refine jl ?_;first|refine j1 ?_|refine j4 ?_)|(refine jc ?_;first|refine c1 ?_|refine c2 ?_))
  refine lj_v_any rfl (fun R hR => opj_isnil_sl rfl rfl rfl rfl hR) (fun b hb => ?_)
  repeat' (first|(first|(refine jl ?_;first|refine j1 ?_|refine j4 ?_)|(refine jc ?_;first|refine c1 ?_|refine c2 ?_|refine c6 ?_|refine c7 ?_)|refine n1 ?_|refine n2 ?_|refine n11 ?_)|(refine c9 (fun h=>?_) (fun h=>?_)<;>(try simp only [Bool.or_eq_true, Bool.and_eq_true, Bool.or_eq_false_iff, Bool.and_eq_false_iff, Bool.not_eq_true', Bool.not_eq_false', decide_eq_true_eq, decide_eq_false_iff_not, Bool.false_eq_true, Bool.true_eq_false, reduceCtorEq] at h)))
  · exact absurd (List.map_eq_nil_iff.1 (hb h)) h0
  · refine jlit ?_
    repeat (first|(refine jl ?_;first|refine j1 ?_))
    refine lj_fc rfl (fun R hR => opj_append_new (sz := 3) (by_ := 32) (news := l.map vc) rfl rfl ⟨rfl, rfl, rfl, by decide⟩ rfl rfl (.inl rfl) rfl rfl (fun e => h0 (List.map_eq_nil_iff.1 e)) (by rw [hn]; show (0 + _) * 32 ≤ _; omega) (by decide) hR) (fun a ha => ?_)
    repeat (first|(refine jl ?_;first|refine j1 ?_|refine j4 ?_)|(refine jc ?_;first|refine c7 ?_)|refine n11 ?_)
    refine ⟨a, ha, ?_, rfl⟩
    show AEnd.ret (.osl a 3 0 (0 + (l.map vc).length)) = _
    rw [hn, Nat.zero_add]
end Go.Proofs.YtddljegbggncdaaDoor.Ab

/- Conditions: data, what is bound, what is one of some. -/
set_option linter.unusedVariables false
set_option linter.unusedSimpArgs false
set_option maxRecDepth 20000
namespace Go.Proofs.YtddljegbggncdaaDoor.Ab
open Go
attribute [local irreducible] thn inb endR CJ LJ OpJ DJ DA DB AllocK

structure Tst where
  p : Int
  v : ByteArray
  val : Vl
structure Atr where
  attr : ByteArray
  ones : List Vl
  tests : List Tst
structure Cnd where
  neg : Bool
  cls : ByteArray
  attrs : List Atr
abbrev tc (t : Tst) : List AV := [.v (.int .u8 t.p), .v (.string t.v), .v (.int .u8 t.val.k), .v (.int .i64 t.val.n), .v (.string t.val.s)]
abbrev ac (a : Atr) : List AV := [.v (.string a.attr), .sl none false 3 (a.ones.map vc), .sl none false 5 (a.tests.map tc)]
abbrev dc (c : Cnd) : List AV := [.v (.bool c.neg), .v (.string c.cls), .sl none false 3 (c.attrs.map ac)]
def noBd : Bd := ⟨⟨#[]⟩, noV⟩
def findB (nm : ByteArray) (l : List Bd) : Option Bd := l.find? (isB nm)
def lookV (nm : ByteArray) (l : List Bd) : Vl := ((findB nm l).getD noBd).val
def lookB (nm : ByteArray) (l : List Bd) : Bool := (findB nm l).isSome
theorem p_rlookup (nl : Option Bool) (full : Bool) (l : List Bd) (nm : ByteArray) : Pure Tryd.prog 20 [.sl nl full 4 (l.map bc), .v (.string nm)] (.tup [.agg (vc (lookV nm l)), .v (.bool (lookB nm l))]) := by
  refine enterW Tryd.func20 rfl rfl rfl rfl (fun σ => ?_)
  refine cj_len 0 (fun hm => ?_)
  have hn : (l.map bc).length = l.length := List.length_map ..
  repeat (first|(refine jl ?_;first|refine j1 ?_|refine j4 ?_|refine j13 (fun id hid=>?_))|(refine jc ?_;first|refine c1 ?_|refine c2 ?_|refine c5 ?_))
  refine cj_fors (fun i : Nat => findB nm (l.drop i) = findB nm l) (fun i => [(6, .v (.int .i64 i))]) (fun i => l.length - i) 0 rfl ⟨⟨_, rfl, fun _ _ h => h⟩, trivial⟩ (fun i hi => ?_)
  rcases hd : l.drop i with _ | ⟨x, r⟩
  · have h0 := dropn hd
    repeat' (first|(first|(refine jl ?_;first|refine jb ?_|refine j1 ?_|refine j4 ?_|refine j17t ?_)|(refine jc ?_;first|refine c1 ?_|refine c2 ?_|refine c7 ?_|refine c8 ?_)|refine n1 ?_|refine n3 ?_|refine n7 ?_|refine n8 ?_|refine n15 ?_)|(refine c9 (fun h=>?_) (fun h=>?_)<;>((try simp only [Bool.or_eq_true, Bool.and_eq_true, Bool.or_eq_false_iff, Bool.and_eq_false_iff, Bool.not_eq_true', Bool.not_eq_false', decide_eq_true_eq, decide_eq_false_iff_not, Bool.false_eq_true, Bool.true_eq_false, reduceCtorEq] at h) <;> (try simp (disch := omega) only [sb_bt, w64, Int.reduceAdd, Int.reduceToNat, Int.toNat_natCast, not_true_eq_false, false_or] at h) <;> (try (exfalso; omega)))))
    rw [lookV, lookB, ← hi, hd]
    exact ge rfl
  · obtain ⟨h1, h2, h3⟩ := dropc hd
    have h4 := get_map bc h3
    rw [hd] at hi
    repeat' (first|(first|(refine jl ?_;first|refine jbl ?_|refine j1 ?_|refine j4 ?_|refine j6 ?_|refine j17t ?_|refine ji1 ?_)|(refine jc ?_;first|refine c1 ?_|refine c2 ?_|refine c5 ?_|refine c6 ?_|refine c7 ?_)|refine n1 ?_|refine n2 ?_|refine n5 ?_|refine n6 ?_|refine n10 ?_|refine n15 ?_)|(refine c9 (fun h=>?_) (fun h=>?_)<;>((try simp only [Bool.or_eq_true, Bool.and_eq_true, Bool.or_eq_false_iff, Bool.and_eq_false_iff, Bool.not_eq_true', Bool.not_eq_false', decide_eq_true_eq, decide_eq_false_iff_not, Bool.false_eq_true, Bool.true_eq_false, reduceCtorEq] at h) <;> (try simp (disch := omega) only [sb_bt, w64, Int.reduceAdd, Int.reduceToNat, Int.toNat_natCast, not_true_eq_false, false_or] at h) <;> (try (exfalso; omega)))))
    · have : findB nm l = some x := by rw [← hi]; simp [findB, isB, h]
      rw [lookV, lookB, this]
      exact ge rfl
    · exact nx_for (i + 1) (by rw [h2, ← hi]; simp [findB, isB, h]) (by omega) ⟨⟨_, rfl, wk1 (by omega)⟩, trivial⟩
theorem q_lookup1 {σ : St} {id : Nat} {nm : ByteArray} (hid : σ id = some (.row 1 9 [[.v (.string nm)]])) (x : Bd) : ACalls Tryd.prog 64 [.agg (bc x), .ptr id 1 0 0] σ (fun e σ' => e = .ret (.v (.bool (isB nm x))) ∧ σ' = σ) := by
  refine enterS Tryd.func64 rfl rfl rfl rfl ?_
  repeat (first|(refine jl ?_;first|refine j1 ?_|refine j4 ?_|refine j12 (fun id hid=>?_)|refine j14 ?_)|(refine jc ?_;first|refine c1 ?_|refine c2 ?_|refine c7 ?_)|refine n11 ?_)
  exact ge rfl
theorem p_lookup (nl : Option Bool) (full : Bool) (l : List Bd) (nm : ByteArray) : Pure Tryd.prog 19 [.sl nl full 4 (l.map bc), .v (.string nm)] (.tup [.agg (vc (lookV nm l)), .v (.bool (lookB nm l))]) := by
  refine enterW Tryd.func19 rfl rfl rfl rfl (fun σ => ?_)
  have h5 := idxG_lt (isB nm) l 0
  have h6 := idxG_get (isB nm) l 0
  repeat (first|(refine jl ?_;first|refine j1 ?_|refine j4 ?_|refine j12 (fun id hid=>?_)|refine j13 (fun id hid=>?_))|(refine jc ?_;first|refine c1 ?_|refine c2 ?_))
  repeat' (first|(first|(refine jl ?_;first|refine jb ?_|refine j1 ?_|refine j4 ?_|refine j17t ?_|refine lj_to rfl rfl rfl (q_index_bounds (isB nm) rfl nl full l (fun x => q_lookup1 lkp x)) ?_)|(refine jc ?_;first|refine c1 ?_|refine c2 ?_|refine c6 ?_|refine c7 ?_)|refine n1 ?_|refine n2 ?_|refine n15 ?_)|(refine c9 (fun h=>?_) (fun h=>?_)<;>(try simp only [Bool.or_eq_true, Bool.and_eq_true, Bool.or_eq_false_iff, Bool.and_eq_false_iff, Bool.not_eq_true', Bool.not_eq_false', decide_eq_true_eq, decide_eq_false_iff_not, Bool.false_eq_true, Bool.true_eq_false, reduceCtorEq] at h)))
  · have : findB nm l = none := by rw [findB, List.find?_eq_none]; intro x hx; simp [h5.1 h x hx]
    rw [lookV, lookB, this]
    exact ge rfl
  · obtain ⟨j, x, e1, e2, e3, e4⟩ := h6 (by omega)
    rw [Nat.zero_add] at e1
    have h7 := get_map bc e2
    rw [e1]
    repeat (first|(refine jl ?_;first|refine jbl ?_|refine j1 ?_|refine j4 ?_|refine j17t ?_|refine ji1 ?_)|(refine jc ?_;first|refine c7 ?_)|refine n15 ?_)
    have : findB nm l = some x := e4
    rw [lookV, lookB, this]
    exact ge rfl
end Go.Proofs.YtddljegbggncdaaDoor.Ab

/- One of some; what is bound, compared. -/
set_option linter.unusedVariables false
set_option linter.unusedSimpArgs false
set_option maxRecDepth 20000
namespace Go.Proofs.YtddljegbggncdaaDoor.Ab
open Go
attribute [local irreducible] thn inb endR CJ LJ OpJ DJ DA DB AllocK

deriving instance DecidableEq for Bd
def isV (v : Vl) (w : Vl) : Bool := decide (w = v)
theorem p_one (nl : Option Bool) (full : Bool) (l : List Vl) (v : Vl) : Pure Tryd.prog 61 [.sl nl full 3 (l.map vc), .agg (vc v)] (.v (.bool (l.any (isV v)))) := by
  refine enterW Tryd.func61 rfl rfl rfl rfl (fun σ => ?_)
  obtain ⟨vk, vn, vs⟩ := v
  refine cj_len 0 (fun hm => ?_)
  have hn : (l.map vc).length = l.length := List.length_map ..
  repeat (first|(refine jl ?_;first|refine j1 ?_|refine j4 ?_|refine j12 (fun id hid=>?_))|(refine jc ?_;first|refine c1 ?_|refine c2 ?_|refine c5 ?_))
  refine cj_fors (fun i : Nat => (l.drop i).any (isV ⟨vk, vn, vs⟩) = l.any (isV ⟨vk, vn, vs⟩)) (fun i => [(5, .v (.int .i64 i))]) (fun i => l.length - i) 0 rfl ⟨⟨_, rfl, fun _ _ h => h⟩, trivial⟩ (fun i hi => ?_)
  rcases hd : l.drop i with _ | ⟨x, r⟩
  · have h0 := dropn hd
    repeat' (first|(first|(refine jl ?_;first|refine j1 ?_|refine j4 ?_)|(refine jc ?_;first|refine c1 ?_|refine c2 ?_|refine c7 ?_|refine c8 ?_)|refine n1 ?_|refine n3 ?_|refine n7 ?_|refine n8 ?_|refine n11 ?_)|(refine c9 (fun h=>?_) (fun h=>?_)<;>((try simp only [Bool.or_eq_true, Bool.and_eq_true, Bool.or_eq_false_iff, Bool.and_eq_false_iff, Bool.not_eq_true', Bool.not_eq_false', decide_eq_true_eq, decide_eq_false_iff_not, Bool.false_eq_true, Bool.true_eq_false, reduceCtorEq] at h) <;> (try simp (disch := omega) only [sb_bt, w64, Int.reduceAdd, Int.reduceToNat, Int.toNat_natCast, not_true_eq_false, false_or] at h) <;> (try (exfalso; omega)))))
    rw [← hi, hd]
    exact ge rfl
  · obtain ⟨h1, h2, h3⟩ := dropc hd
    have h4 := get_map vc h3
    rw [hd, List.any_cons] at hi
    repeat' (first|(first|(refine jl ?_;first|refine j1 ?_|refine j4 ?_|refine j6 ?_)|(refine dl ?_;first|refine dbl ?_|refine d1 ?_|refine d4 ?_|refine d14 ?_|refine deq ?_|refine di1 ?_)|(refine jc ?_;first|refine c1 ?_|refine c2 ?_|refine c5 ?_|refine c6 ?_|refine c7 ?_|refine cq ?_)|refine n1 ?_|refine n2 ?_|refine n5 ?_|refine n6 ?_|refine n10 ?_|refine n11 ?_)|(refine c9 (fun h=>?_) (fun h=>?_)<;>((try simp only [Bool.or_eq_true, Bool.and_eq_true, Bool.or_eq_false_iff, Bool.and_eq_false_iff, Bool.not_eq_true', Bool.not_eq_false', decide_eq_true_eq, decide_eq_false_iff_not, Bool.false_eq_true, Bool.true_eq_false, reduceCtorEq] at h) <;> (try simp (disch := omega) only [sb_bt, w64, Int.reduceAdd, Int.reduceToNat, Int.toNat_natCast, not_true_eq_false, false_or] at h) <;> (try (exfalso; omega)))))
    · have : isV ⟨vk, vn, vs⟩ x = true := by cases x; simp_all [isV]
      rw [← hi, this]
      exact ge rfl
    · have : isV ⟨vk, vn, vs⟩ x = false := by
        cases x
        rw [isV, decide_eq_false_iff_not]
        intro e
        cases e
        simp at h
      rw [this, Bool.false_or] at hi
      exact nx_for (i + 1) (by rw [h2, ← hi]) (by omega) ⟨⟨_, rfl, wk1 (by omega)⟩, trivial⟩
theorem p_indexv (nl : Option Bool) (full : Bool) (l : List Vl) (v : Vl) : Pure Tryd.prog 96 [.sl nl full 3 (l.map vc), .agg (vc v)] (.v (.int .i64 (idxG (isV v) l 0))) := by
  refine enterW Tryd.func96 rfl rfl rfl rfl (fun σ => ?_)
  obtain ⟨vk, vn, vs⟩ := v
  refine cj_len 0 (fun hm => ?_)
  have hn : (l.map vc).length = l.length := List.length_map ..
  repeat (first|(refine jl ?_;first|refine j1 ?_|refine j4 ?_|refine j12 (fun id hid=>?_))|(refine jc ?_;first|refine c1 ?_|refine c2 ?_|refine c5 ?_))
  refine cj_fors (fun i : Nat => idxG (isV ⟨vk, vn, vs⟩) (l.drop i) i = idxG (isV ⟨vk, vn, vs⟩) l 0) (fun i => [(8, .v (.int .i64 i))]) (fun i => l.length - i) 0 rfl ⟨⟨_, rfl, fun _ _ h => h⟩, trivial⟩ (fun i hi => ?_)
  rcases hd : l.drop i with _ | ⟨x, r⟩
  · have h0 := dropn hd
    rw [hd, idxG] at hi
    repeat' (first|(first|(refine jl ?_;first|refine j1 ?_|refine j4 ?_)|(refine jc ?_;first|refine c1 ?_|refine c2 ?_|refine c7 ?_|refine c8 ?_)|refine n1 ?_|refine n3 ?_|refine n7 ?_|refine n8 ?_|refine n11 ?_)|(refine c9 (fun h=>?_) (fun h=>?_)<;>((try simp only [Bool.or_eq_true, Bool.and_eq_true, Bool.or_eq_false_iff, Bool.and_eq_false_iff, Bool.not_eq_true', Bool.not_eq_false', decide_eq_true_eq, decide_eq_false_iff_not, Bool.false_eq_true, Bool.true_eq_false, reduceCtorEq] at h) <;> (try simp (disch := omega) only [sb_bt, w64, Int.reduceAdd, Int.reduceToNat, Int.toNat_natCast, not_true_eq_false, false_or] at h) <;> (try (exfalso; omega)))))
    rw [← hi]
    exact ge rfl
  · obtain ⟨h1, h2, h3⟩ := dropc hd
    have h4 := get_map vc h3
    rw [hd, idxG] at hi
    repeat' (first|(first|(refine jl ?_;first|refine j1 ?_|refine j4 ?_|refine j6 ?_)|(refine dl ?_;first|refine dbl ?_|refine d1 ?_|refine d4 ?_|refine d14 ?_|refine deq ?_|refine di1 ?_)|(refine jc ?_;first|refine c1 ?_|refine c2 ?_|refine c5 ?_|refine c6 ?_|refine c7 ?_|refine cq ?_)|refine n1 ?_|refine n2 ?_|refine n5 ?_|refine n6 ?_|refine n10 ?_|refine n11 ?_)|(refine c9 (fun h=>?_) (fun h=>?_)<;>((try simp only [Bool.or_eq_true, Bool.and_eq_true, Bool.or_eq_false_iff, Bool.and_eq_false_iff, Bool.not_eq_true', Bool.not_eq_false', decide_eq_true_eq, decide_eq_false_iff_not, Bool.false_eq_true, Bool.true_eq_false, reduceCtorEq] at h) <;> (try simp (disch := omega) only [sb_bt, w64, Int.reduceAdd, Int.reduceToNat, Int.toNat_natCast, not_true_eq_false, false_or] at h) <;> (try (exfalso; omega)))))
    · have : isV ⟨vk, vn, vs⟩ x = true := by cases x; simp_all [isV]
      rw [if_pos this] at hi
      rw [← hi]
      exact ge rfl
    · have : ¬ isV ⟨vk, vn, vs⟩ x = true := by cases x; simp only [isV, decide_eq_true_eq]; intro e; cases e; simp at h
      rw [if_neg this, ← h2] at hi
      exact nx_for (i + 1) hi (by omega) ⟨⟨_, rfl, wk1 (by omega)⟩, trivial⟩
theorem idxG_any {α : Type} (g : α → Bool) (l : List α) : decide (0 ≤ idxG g l 0) = l.any g := by
  have h5 := idxG_lt g l 0
  by_cases h : l.any g = true
  · rw [h, decide_eq_true]
    rw [List.any_eq_true] at h
    obtain ⟨x, hx, hg⟩ := h
    by_cases h6 : idxG g l 0 < 0
    · rw [h5.1 h6 x hx] at hg; cases hg
    · omega
  · rw [Bool.not_eq_true] at h
    rw [h, decide_eq_false]
    have := h5.2 (fun x hx => by
      rw [List.any_eq_false] at h
      simpa using h x hx)
    omega
theorem p_containsv (nl : Option Bool) (full : Bool) (l : List Vl) (v : Vl) : Pure Tryd.prog 56 [.sl nl full 3 (l.map vc), .agg (vc v)] (.v (.bool (l.any (isV v)))) := by
  refine enterW Tryd.func56 rfl rfl rfl rfl (fun σ => ?_)
  repeat (first|(refine jl ?_;first|refine j1 ?_|refine j4 ?_|refine j12 (fun id hid=>?_)|refine j14 ?_|refine jp (p_indexv _ _ _ _) ?_)|(refine jc ?_;first|refine c1 ?_|refine c2 ?_|refine c7 ?_)|refine n11 ?_)
  rw [← idxG_any]
  exact ge rfl
theorem p_eqb5 (nl nl' : Option Bool) (full full' : Bool) (a b : List Bd) : Pure Tryd.prog 21 [.sl nl full 4 (a.map bc), .sl nl' full' 4 (b.map bc)] (.v (.bool (decide (a = b)))) := by
  refine enterW Tryd.func21 rfl rfl rfl rfl (fun σ => ?_)
  refine cj_len 0 (fun hm => ?_)
  refine cj_len 1 (fun hm' => ?_)
  have hn : (a.map bc).length = a.length := List.length_map ..
  have hn' : (b.map bc).length = b.length := List.length_map ..
  repeat' (first|(first|(refine jl ?_;first|refine j1 ?_|refine j4 ?_)|(refine jc ?_;first|refine c1 ?_|refine c2 ?_|refine c5 ?_|refine c6 ?_|refine c7 ?_)|refine n1 ?_|refine n2 ?_|refine n11 ?_)|(refine c9 (fun h=>?_) (fun h=>?_)<;>((try simp only [Bool.or_eq_true, Bool.and_eq_true, Bool.or_eq_false_iff, Bool.and_eq_false_iff, Bool.not_eq_true', Bool.not_eq_false', decide_eq_true_eq, decide_eq_false_iff_not, Bool.false_eq_true, Bool.true_eq_false, reduceCtorEq] at h) <;> (try simp (disch := omega) only [sb_bt, w64, Int.reduceAdd, Int.reduceToNat, Int.toNat_natCast, not_true_eq_false, false_or] at h) <;> (try (exfalso; omega)))))
  · rw [decide_eq_false (fun e => by rw [e] at h; exact h rfl)]
    exact ge rfl
  · refine cj_fors (fun i : Nat => decide (a.drop i = b.drop i) = decide (a = b)) (fun i => [(5, .v (.int .i64 i))]) (fun i => a.length - i) 0 rfl ⟨⟨_, rfl, fun _ _ h => h⟩, trivial⟩ (fun i hi => ?_)
    rcases hd : a.drop i with _ | ⟨x, r⟩
    · have h0 := dropn hd
      have hd' : b.drop i = [] := List.drop_of_length_le (by omega)
      rw [hd, hd', decide_eq_true rfl] at hi
      repeat' (first|(first|(refine jl ?_;first|refine j1 ?_|refine j4 ?_)|(refine jc ?_;first|refine c1 ?_|refine c2 ?_|refine c7 ?_|refine c8 ?_)|refine n1 ?_|refine n3 ?_|refine n7 ?_|refine n8 ?_|refine n11 ?_)|(refine c9 (fun h=>?_) (fun h=>?_)<;>((try simp only [Bool.or_eq_true, Bool.and_eq_true, Bool.or_eq_false_iff, Bool.and_eq_false_iff, Bool.not_eq_true', Bool.not_eq_false', decide_eq_true_eq, decide_eq_false_iff_not, Bool.false_eq_true, Bool.true_eq_false, reduceCtorEq] at h) <;> (try simp (disch := omega) only [sb_bt, w64, Int.reduceAdd, Int.reduceToNat, Int.toNat_natCast, not_true_eq_false, false_or] at h) <;> (try (exfalso; omega)))))
      rw [← hi]
      exact ge rfl
    · obtain ⟨h1, h2, h3⟩ := dropc hd
      rcases hd' : b.drop i with _ | ⟨y, r'⟩
      · have := dropn hd'; omega
      obtain ⟨h1', h2', h3'⟩ := dropc hd'
      have h4 := get_map bc h3
      have h4' := get_map bc h3'
      rw [hd, hd'] at hi
      repeat' (first|(first|(refine jl ?_;first|refine j1 ?_|refine j4 ?_|refine j6 ?_)|(refine dl ?_;first|refine dbl ?_|refine d1 ?_|refine d4 ?_|refine dxn ?_|refine di1 ?_)|(refine jc ?_;first|refine c1 ?_|refine c2 ?_|refine c5 ?_|refine c6 ?_|refine c7 ?_|refine cq ?_)|refine n1 ?_|refine n2 ?_|refine n5 ?_|refine n6 ?_|refine n10 ?_|refine n11 ?_)|(refine c9 (fun h=>?_) (fun h=>?_)<;>((try simp only [Bool.or_eq_true, Bool.and_eq_true, Bool.or_eq_false_iff, Bool.and_eq_false_iff, Bool.not_eq_true', Bool.not_eq_false', decide_eq_true_eq, decide_eq_false_iff_not, Bool.false_eq_true, Bool.true_eq_false, reduceCtorEq] at h) <;> (try simp (disch := omega) only [sb_bt, w64, Int.reduceAdd, Int.reduceToNat, Int.toNat_natCast, not_true_eq_false, false_or] at h) <;> (try (exfalso; omega)))))
      · rw [← hi, decide_eq_false (fun e => by have := (List.cons.inj e).1; subst this; simp at h)]
        exact ge rfl
      · have e : x = y := by obtain ⟨xn, xk, xi, xs⟩ := x; obtain ⟨yn, yk, yi, ys⟩ := y; simp_all
        have e2 : decide (x :: r = y :: r') = decide (r = r') := decide_eq_decide.2 (by rw [e]; simp)
        rw [e2, ← h2, ← h2'] at hi
        exact nx_for (i + 1) hi (by omega) ⟨⟨_, rfl, wk1 (by omega)⟩, trivial⟩
theorem p_eqb13 (nl nl' : Option Bool) (full full' : Bool) (a b : List Bd) : Pure Tryd.prog 65 [.sl nl full 4 (a.map bc), .sl nl' full' 4 (b.map bc)] (.v (.bool (decide (a = b)))) := by
  refine enterW Tryd.func65 rfl rfl rfl rfl (fun σ => ?_)
  refine cj_len 0 (fun hm => ?_)
  refine cj_len 1 (fun hm' => ?_)
  have hn : (a.map bc).length = a.length := List.length_map ..
  have hn' : (b.map bc).length = b.length := List.length_map ..
  repeat' (first|(first|(refine jl ?_;first|refine j1 ?_|refine j4 ?_)|(refine jc ?_;first|refine c1 ?_|refine c2 ?_|refine c5 ?_|refine c6 ?_|refine c7 ?_)|refine n1 ?_|refine n2 ?_|refine n11 ?_)|(refine c9 (fun h=>?_) (fun h=>?_)<;>((try simp only [Bool.or_eq_true, Bool.and_eq_true, Bool.or_eq_false_iff, Bool.and_eq_false_iff, Bool.not_eq_true', Bool.not_eq_false', decide_eq_true_eq, decide_eq_false_iff_not, Bool.false_eq_true, Bool.true_eq_false, reduceCtorEq] at h) <;> (try simp (disch := omega) only [sb_bt, w64, Int.reduceAdd, Int.reduceToNat, Int.toNat_natCast, not_true_eq_false, false_or] at h) <;> (try (exfalso; omega)))))
  · rw [decide_eq_false (fun e => by rw [e] at h; exact h rfl)]
    exact ge rfl
  · refine cj_fors (fun i : Nat => decide (a.drop i = b.drop i) = decide (a = b)) (fun i => [(13, .v (.int .i64 i))]) (fun i => a.length - i) 0 rfl ⟨⟨_, rfl, fun _ _ h => h⟩, trivial⟩ (fun i hi => ?_)
    rcases hd : a.drop i with _ | ⟨x, r⟩
    · have h0 := dropn hd
      have hd' : b.drop i = [] := List.drop_of_length_le (by omega)
      rw [hd, hd', decide_eq_true rfl] at hi
      repeat' (first|(first|(refine jl ?_;first|refine j1 ?_|refine j4 ?_)|(refine jc ?_;first|refine c1 ?_|refine c2 ?_|refine c7 ?_|refine c8 ?_)|refine n1 ?_|refine n3 ?_|refine n7 ?_|refine n8 ?_|refine n11 ?_)|(refine c9 (fun h=>?_) (fun h=>?_)<;>((try simp only [Bool.or_eq_true, Bool.and_eq_true, Bool.or_eq_false_iff, Bool.and_eq_false_iff, Bool.not_eq_true', Bool.not_eq_false', decide_eq_true_eq, decide_eq_false_iff_not, Bool.false_eq_true, Bool.true_eq_false, reduceCtorEq] at h) <;> (try simp (disch := omega) only [sb_bt, w64, Int.reduceAdd, Int.reduceToNat, Int.toNat_natCast, not_true_eq_false, false_or] at h) <;> (try (exfalso; omega)))))
      rw [← hi]
      exact ge rfl
    · obtain ⟨h1, h2, h3⟩ := dropc hd
      rcases hd' : b.drop i with _ | ⟨y, r'⟩
      · have := dropn hd'; omega
      obtain ⟨h1', h2', h3'⟩ := dropc hd'
      have h4 := get_map bc h3
      have h4' := get_map bc h3'
      rw [hd, hd'] at hi
      repeat' (first|(first|(refine jl ?_;first|refine j1 ?_|refine j4 ?_|refine j6 ?_)|(refine dl ?_;first|refine dbl ?_|refine d1 ?_|refine d4 ?_|refine dxn ?_|refine di1 ?_)|(refine jc ?_;first|refine c1 ?_|refine c2 ?_|refine c5 ?_|refine c6 ?_|refine c7 ?_|refine cq ?_)|refine n1 ?_|refine n2 ?_|refine n5 ?_|refine n6 ?_|refine n10 ?_|refine n11 ?_)|(refine c9 (fun h=>?_) (fun h=>?_)<;>((try simp only [Bool.or_eq_true, Bool.and_eq_true, Bool.or_eq_false_iff, Bool.and_eq_false_iff, Bool.not_eq_true', Bool.not_eq_false', decide_eq_true_eq, decide_eq_false_iff_not, Bool.false_eq_true, Bool.true_eq_false, reduceCtorEq] at h) <;> (try simp (disch := omega) only [sb_bt, w64, Int.reduceAdd, Int.reduceToNat, Int.toNat_natCast, not_true_eq_false, false_or] at h) <;> (try (exfalso; omega)))))
      · rw [← hi, decide_eq_false (fun e => by have := (List.cons.inj e).1; subst this; simp at h)]
        exact ge rfl
      · have e : x = y := by obtain ⟨xn, xk, xi, xs⟩ := x; obtain ⟨yn, yk, yi, ys⟩ := y; simp_all
        have e2 : decide (x :: r = y :: r') = decide (r = r') := decide_eq_decide.2 (by rw [e]; simp)
        rw [e2, ← h2, ← h2'] at hi
        exact nx_for (i + 1) hi (by omega) ⟨⟨_, rfl, wk1 (by omega)⟩, trivial⟩
theorem p_bsame (nl nl' : Option Bool) (full full' : Bool) (a b : List Bd) : Pure Tryd.prog 22 [.sl nl full 4 (a.map bc), .sl nl' full' 4 (b.map bc)] (.v (.bool (decide (a = b)))) := by
  refine enterW Tryd.func22 rfl rfl rfl rfl (fun σ => ?_)
  repeat (first|(refine jl ?_;first|refine j1 ?_|refine j4 ?_|refine jp (p_eqb13 _ _ _ _ _ _) ?_)|(refine jc ?_;first|refine c1 ?_|refine c2 ?_|refine c7 ?_)|refine n11 ?_)
  exact ge rfl
end Go.Proofs.YtddljegbggncdaaDoor.Ab

/- Conditions that are small enough. -/
set_option linter.unusedVariables false
set_option linter.unusedSimpArgs false
set_option maxRecDepth 20000
namespace Go.Proofs.YtddljegbggncdaaDoor.Ab
open Go
attribute [local irreducible] thn inb endR CJ LJ OpJ DJ DA DB AllocK

abbrev smallT (t : Tst) : Prop := t.v.size ≤ 60 ∧ t.val.s.size ≤ 60
abbrev smallA (a : Atr) : Prop := (a.ones.length ≤ 12 ∧ a.tests.length ≤ 12 ∧ a.attr.size ≤ 60) ∧ (∀ v ∈ a.ones, smallV v) ∧ ∀ t ∈ a.tests, smallT t
def lightD (c : Cnd) (bd : List Bd) : Prop := (c.attrs.length ≤ 12 ∧ bd.length ≤ 20 ∧ c.cls.size ≤ 60) ∧ (∀ a ∈ c.attrs, smallA a) ∧ ∀ b ∈ bd, smallB b
noncomputable def lightE (c : Cnd) (bd : List Bd) : Bool := @decide (lightD c bd) (Classical.propDecidable _)
theorem lightE_false {c : Cnd} {bd : List Bd} (h : ¬ lightD c bd) : lightE c bd = false := @decide_eq_false _ (Classical.propDecidable _) h
theorem lightE_true {c : Cnd} {bd : List Bd} (h : lightD c bd) : lightE c bd = true := @decide_eq_true _ (Classical.propDecidable _) h
theorem lightE_iff {c : Cnd} {bd : List Bd} (h : lightE c bd = true) : lightD c bd := @of_decide_eq_true _ (Classical.propDecidable _) h
theorem p_light20 (nl : Option Bool) (full : Bool) (c : Cnd) (bd : List Bd) : Pure Tryd.prog 50 [.agg (dc c), .sl nl full 4 (bd.map bc)] (.v (.bool (lightE c bd))) := by
  refine enterW Tryd.func50 rfl rfl rfl rfl (fun σ => ?_)
  obtain ⟨cg, cn, l⟩ := c
  have hn : (l.map ac).length = l.length := List.length_map ..
  have hn3 : (bd.map bc).length = bd.length := List.length_map ..
  repeat' (first|(first|(refine jl ?_;first|refine j7 ?_|refine j1 ?_|refine j4 ?_|refine j9 ?_|refine j12 (fun id hid=>?_)|refine j14 ?_|refine j16 ?_)|(refine jc ?_;first|refine c1 ?_|refine c2 ?_|refine c5 ?_|refine c6 ?_|refine c7 ?_)|refine n1 ?_|refine n2 ?_|refine n11 ?_)|(refine c9 (fun h=>?_) (fun h=>?_)<;>((try simp only [Bool.or_eq_true, Bool.and_eq_true, Bool.or_eq_false_iff, Bool.and_eq_false_iff, Bool.not_eq_true', Bool.not_eq_false', decide_eq_true_eq, decide_eq_false_iff_not, Bool.false_eq_true, Bool.true_eq_false, reduceCtorEq] at h) <;> (try simp (disch := omega) only [sb_bt, w64, Int.reduceAdd, Int.reduceToNat, Int.toNat_natCast, not_true_eq_false, false_or] at h) <;> (try (exfalso; omega)))))
  · rw [lightE_false (fun e => by obtain ⟨⟨e1, e2, e3⟩, _⟩ := e; dsimp only at e1 e3; omega)]
    exact ge rfl
  have hc : l.length ≤ 12 ∧ bd.length ≤ 20 ∧ cn.size ≤ 60 := by omega
  refine cj_fors (fun i : Nat => ∀ a ∈ l.take i, smallA a) (fun i => [(5, .v (.int .i64 i))]) (fun i => l.length - i) 0 (by simp) ⟨⟨_, rfl, fun _ _ h => h⟩, trivial⟩ (fun i hi => ?_)
  rcases hd : l.drop i with _ | ⟨x, r⟩
  · have h0 := dropn hd
    have hl := take_all hi h0
    clear hi
    repeat' (first|(first|(refine jl ?_;first|refine j1 ?_|refine j4 ?_|refine j14 ?_)|(refine jc ?_;first|refine c1 ?_|refine c2 ?_|refine c5 ?_|refine c8 ?_)|refine n1 ?_|refine n3 ?_|refine n7 ?_|refine n8 ?_)|(refine c9 (fun h=>?_) (fun h=>?_)<;>((try simp only [Bool.or_eq_true, Bool.and_eq_true, Bool.or_eq_false_iff, Bool.and_eq_false_iff, Bool.not_eq_true', Bool.not_eq_false', decide_eq_true_eq, decide_eq_false_iff_not, Bool.false_eq_true, Bool.true_eq_false, reduceCtorEq] at h) <;> (try simp (disch := omega) only [sb_bt, w64, Int.reduceAdd, Int.reduceToNat, Int.toNat_natCast, not_true_eq_false, false_or] at h) <;> (try (exfalso; omega)))))
    refine cj_fors (fun i : Nat => ∀ b ∈ bd.take i, smallB b) (fun i => [(8, .v (.int .i64 i))]) (fun i => bd.length - i) 0 (by simp) ⟨⟨_, rfl, fun _ _ h => h⟩, trivial⟩ (fun k hi => ?_)
    rcases hd'' : bd.drop k with _ | ⟨x, r⟩
    · have h0 := dropn hd''
      have hs := take_all hi h0
      repeat' (first|(first|(refine jl ?_;first|refine j1 ?_|refine j4 ?_)|(refine jc ?_;first|refine c1 ?_|refine c2 ?_|refine c7 ?_|refine c8 ?_)|refine n1 ?_|refine n3 ?_|refine n7 ?_|refine n8 ?_|refine n11 ?_)|(refine c9 (fun h=>?_) (fun h=>?_)<;>((try simp only [Bool.or_eq_true, Bool.and_eq_true, Bool.or_eq_false_iff, Bool.and_eq_false_iff, Bool.not_eq_true', Bool.not_eq_false', decide_eq_true_eq, decide_eq_false_iff_not, Bool.false_eq_true, Bool.true_eq_false, reduceCtorEq] at h) <;> (try simp (disch := omega) only [sb_bt, w64, Int.reduceAdd, Int.reduceToNat, Int.toNat_natCast, not_true_eq_false, false_or] at h) <;> (try (exfalso; omega)))))
      rw [lightE_true ⟨hc, hl, hs⟩]
      exact ge rfl
    · obtain ⟨h1, h2, h3⟩ := dropc hd''
      have h4 := get_map bc h3
      repeat' (first|(first|(refine jl ?_;first|refine j7 ?_|refine jbl ?_|refine j1 ?_|refine j4 ?_|refine j6 ?_|refine j9 ?_|refine ji1 ?_|refine ji3 ?_)|(refine jc ?_;first|refine c1 ?_|refine c2 ?_|refine c5 ?_|refine c6 ?_|refine c7 ?_)|refine n1 ?_|refine n2 ?_|refine n5 ?_|refine n6 ?_|refine n10 ?_|refine n11 ?_)|(refine c9 (fun h=>?_) (fun h=>?_)<;>((try simp only [Bool.or_eq_true, Bool.and_eq_true, Bool.or_eq_false_iff, Bool.and_eq_false_iff, Bool.not_eq_true', Bool.not_eq_false', decide_eq_true_eq, decide_eq_false_iff_not, Bool.false_eq_true, Bool.true_eq_false, reduceCtorEq] at h) <;> (try simp (disch := omega) only [sb_bt, w64, Int.reduceAdd, Int.reduceToNat, Int.toNat_natCast, not_true_eq_false, false_or] at h) <;> (try (exfalso; omega)))))
      · rw [lightE_false (fun e => by have := e.2.2 x (List.mem_of_getElem? h3); unfold smallB at this; omega)]
        exact ge rfl
      · exact nx_for (k + 1) (take_succ_all hi h3 (by unfold smallB; omega)) (by omega) ⟨⟨_, rfl, wk1 (by omega)⟩, trivial⟩
  · obtain ⟨h1, h2, h3⟩ := dropc hd
    have h4 := get_map ac h3
    obtain ⟨xn, xo, xt⟩ := x
    have hn4 : (xo.map vc).length = xo.length := List.length_map ..
    have hn5 : (xt.map tc).length = xt.length := List.length_map ..
    repeat' (first|(first|(refine jl ?_;first|refine j7 ?_|refine jbl ?_|refine j1 ?_|refine j4 ?_|refine j9 ?_|refine j14 ?_|refine j16 ?_|refine ji1 ?_|refine ji3 ?_)|(refine jc ?_;first|refine c1 ?_|refine c2 ?_|refine c5 ?_|refine c6 ?_|refine c7 ?_)|refine n1 ?_|refine n2 ?_|refine n5 ?_|refine n6 ?_|refine n11 ?_)|(refine c9 (fun h=>?_) (fun h=>?_)<;>((try simp only [Bool.or_eq_true, Bool.and_eq_true, Bool.or_eq_false_iff, Bool.and_eq_false_iff, Bool.not_eq_true', Bool.not_eq_false', decide_eq_true_eq, decide_eq_false_iff_not, Bool.false_eq_true, Bool.true_eq_false, reduceCtorEq] at h) <;> (try simp (disch := omega) only [sb_bt, w64, Int.reduceAdd, Int.reduceToNat, Int.toNat_natCast, not_true_eq_false, false_or] at h) <;> (try (exfalso; omega)))))
    · rw [lightE_false (fun e => by have := (e.2.1 _ (List.mem_of_getElem? h3)).1; dsimp only at *; omega)]
      exact ge rfl
    have ha : xo.length ≤ 12 ∧ xt.length ≤ 12 ∧ xn.size ≤ 60 := by omega
    refine cj_fors (fun i : Nat => ∀ v ∈ xo.take i, smallV v) (fun i => [(6, .v (.int .i64 i))]) (fun i => xo.length - i) 0 (by simp) ⟨⟨_, rfl, fun _ _ h => h⟩, trivial⟩ (fun j hj => ?_)
    rcases hd' : xo.drop j with _ | ⟨y, r'⟩
    · have h0 := dropn hd'
      have ho := take_all hj h0
      clear hj
      repeat' (first|(first|(refine jl ?_;first|refine jbl ?_|refine j1 ?_|refine j4 ?_|refine j14 ?_|refine ji1 ?_)|(refine jc ?_;first|refine c1 ?_|refine c2 ?_|refine c5 ?_|refine c8 ?_)|refine n1 ?_|refine n3 ?_|refine n7 ?_|refine n8 ?_)|(refine c9 (fun h=>?_) (fun h=>?_)<;>((try simp only [Bool.or_eq_true, Bool.and_eq_true, Bool.or_eq_false_iff, Bool.and_eq_false_iff, Bool.not_eq_true', Bool.not_eq_false', decide_eq_true_eq, decide_eq_false_iff_not, Bool.false_eq_true, Bool.true_eq_false, reduceCtorEq] at h) <;> (try simp (disch := omega) only [sb_bt, w64, Int.reduceAdd, Int.reduceToNat, Int.toNat_natCast, not_true_eq_false, false_or] at h) <;> (try (exfalso; omega)))))
      refine cj_fors (fun i : Nat => ∀ v ∈ xt.take i, smallT v) (fun i => [(7, .v (.int .i64 i))]) (fun i => xt.length - i) 0 (by simp) ⟨⟨_, rfl, fun _ _ h => h⟩, trivial⟩ (fun k hk => ?_)
      rcases hd'' : xt.drop k with _ | ⟨y, r'⟩
      · have h0 := dropn hd''
        have ht := take_all hk h0
        repeat' (first|(first|(refine jl ?_;first|refine jbl ?_|refine j1 ?_|refine j4 ?_|refine j6 ?_|refine j14 ?_|refine ji1 ?_)|(refine jc ?_;first|refine c1 ?_|refine c2 ?_|refine c8 ?_)|refine n1 ?_|refine n3 ?_|refine n7 ?_|refine n8 ?_|refine n10 ?_)|(refine c9 (fun h=>?_) (fun h=>?_)<;>((try simp only [Bool.or_eq_true, Bool.and_eq_true, Bool.or_eq_false_iff, Bool.and_eq_false_iff, Bool.not_eq_true', Bool.not_eq_false', decide_eq_true_eq, decide_eq_false_iff_not, Bool.false_eq_true, Bool.true_eq_false, reduceCtorEq] at h) <;> (try simp (disch := omega) only [sb_bt, w64, Int.reduceAdd, Int.reduceToNat, Int.toNat_natCast, not_true_eq_false, false_or] at h) <;> (try (exfalso; omega)))))
        exact nx_for (i + 1) (take_succ_all hi h3 ⟨ha, ho, ht⟩) (by omega) ⟨⟨_, rfl, wk1 (by omega)⟩, trivial⟩
      · obtain ⟨h1', h2', h3'⟩ := dropc hd''
        have h4' := get_map tc h3'
        repeat' (first|(first|(refine jl ?_;first|refine j7 ?_|refine jbl ?_|refine j1 ?_|refine j4 ?_|refine j6 ?_|refine j9 ?_|refine j14 ?_|refine j16 ?_|refine ji1 ?_|refine ji3 ?_)|(refine jc ?_;first|refine c1 ?_|refine c2 ?_|refine c5 ?_|refine c6 ?_|refine c7 ?_)|refine n1 ?_|refine n2 ?_|refine n5 ?_|refine n6 ?_|refine n10 ?_|refine n11 ?_)|(refine c9 (fun h=>?_) (fun h=>?_)<;>((try simp only [Bool.or_eq_true, Bool.and_eq_true, Bool.or_eq_false_iff, Bool.and_eq_false_iff, Bool.not_eq_true', Bool.not_eq_false', decide_eq_true_eq, decide_eq_false_iff_not, Bool.false_eq_true, Bool.true_eq_false, reduceCtorEq] at h) <;> (try simp (disch := omega) only [sb_bt, w64, Int.reduceAdd, Int.reduceToNat, Int.toNat_natCast, not_true_eq_false, false_or] at h) <;> (try (exfalso; omega)))))
        · rw [lightE_false (fun e => by have := (e.2.1 _ (List.mem_of_getElem? h3)).2.2 y (List.mem_of_getElem? h3'); unfold smallT at this; omega)]
          exact ge rfl
        · exact nx_for (k + 1) (take_succ_all hk h3' (by unfold smallT; omega)) (by omega) ⟨⟨_, rfl, wk1 (by omega)⟩, trivial⟩
    · obtain ⟨h1', h2', h3'⟩ := dropc hd'
      have h4' := get_map vc h3'
      repeat' (first|(first|(refine jl ?_;first|refine jbl ?_|refine j1 ?_|refine j4 ?_|refine j6 ?_|refine j14 ?_|refine ji1 ?_)|(refine jc ?_;first|refine c1 ?_|refine c2 ?_|refine c5 ?_|refine c6 ?_|refine c7 ?_)|refine n1 ?_|refine n2 ?_|refine n5 ?_|refine n6 ?_|refine n10 ?_|refine n11 ?_)|(refine c9 (fun h=>?_) (fun h=>?_)<;>((try simp only [Bool.or_eq_true, Bool.and_eq_true, Bool.or_eq_false_iff, Bool.and_eq_false_iff, Bool.not_eq_true', Bool.not_eq_false', decide_eq_true_eq, decide_eq_false_iff_not, Bool.false_eq_true, Bool.true_eq_false, reduceCtorEq] at h) <;> (try simp (disch := omega) only [sb_bt, w64, Int.reduceAdd, Int.reduceToNat, Int.toNat_natCast, not_true_eq_false, false_or] at h) <;> (try (exfalso; omega)))))
      · rw [lightE_false (fun e => by have := (e.2.1 _ (List.mem_of_getElem? h3)).2.1 y (List.mem_of_getElem? h3'); unfold smallV at this; omega)]
        exact ge rfl
      · exact nx_for (j + 1) (take_succ_all hj h3' (by unfold smallV; omega)) (by omega) ⟨⟨_, rfl, wk1 (by omega)⟩, trivial⟩
noncomputable def askL (l : List Cls) (c : Cnd) (f : Fc) (bd : List Bd) : Int := if lightB l f [] = true ∧ lightE c bd = true then 0 else 1
abbrev askc (c : Cnd) (f : Fc) (bd : List Bd) : List AV := dc c ++ (fc f ++ [.sl none false 4 (bd.map bc)])
theorem p_asklight (nl : Option Bool) (full : Bool) (l : List Cls) (c : Cnd) (f : Fc) (bd : List Bd) : Pure Tryd.prog 15 [.agg (askc c f bd), .sl nl full 2 (l.map cc)] (.v (.int .i64 (askL l c f bd))) := by
  refine enterW Tryd.func15 rfl rfl rfl rfl (fun σ => ?_)
  have k1 : Pure Tryd.prog 37 [.sl nl full 2 (l.map cc), .agg (fc f), .sl (some true) true 1 []] (.v (.bool (lightB l f []))) := (p_light nl none full false l f []).wka ⟨Wk.refl _, Wk.refl _, Wk.nil _ _ _ _, trivial⟩
  have k2 := p_light20 none false c bd
  repeat' (first|(first|(refine jl ?_;first|refine j7 ?_|refine j1 ?_|refine j4 ?_|refine j9 ?_|refine j12 (fun id hid=>?_)|refine j14 ?_|refine j16 ?_|refine jp (k1) ?_|refine jcq (hp:=fun hc=>k2) ?_)|(refine jc ?_;first|refine c1 ?_|refine c2 ?_|refine c6 ?_|refine c7 ?_)|refine n1 ?_|refine n2 ?_|refine n11 ?_)|(refine c9 (fun h=>?_) (fun h=>?_)<;>(try simp only [Bool.or_eq_true, Bool.and_eq_true, Bool.or_eq_false_iff, Bool.and_eq_false_iff, Bool.not_eq_true', Bool.not_eq_false', decide_eq_true_eq, decide_eq_false_iff_not, Bool.false_eq_true, Bool.true_eq_false, reduceCtorEq] at h)))
  · rw [askL, if_neg (by rintro ⟨e1, e2⟩; simp_all)]
    exact ge rfl
  · rw [askL, if_pos (by simp_all)]
    exact ge rfl
end Go.Proofs.YtddljegbggncdaaDoor.Ab

/- One test of a value. -/
set_option linter.unusedVariables false
set_option linter.unusedSimpArgs false
set_option maxRecDepth 20000
namespace Go.Proofs.YtddljegbggncdaaDoor.Ab
open Go
section
variable {P : Program} {nt : Nat} {ops : Array Oper} {Q : Post} {σ : St} {fr : Fr} {rest : List Oper} {t : Tmp} {ty : TypeId} {pos : String} {aft : Array Edge}
theorem japo {lt et : TypeId} {sz by_ n m : Nat} {x y : Operand} {id : Nat} {els news all : List (List AV)} {ts : Array TypeId} {a : AV} (h : ∀ id', σ id' = none → LJ P nt ops Q rest ((t, .osl id' sz 0 m) :: fr) ((σ.del id).set id' (.row sz et all))) (hall : els.take n ++ news = all) (hm : n + news.length = m) (hts : ts = #[lt, lt] := by exact rfl) (ht : P.underlying lt = some (.slice et) := by exact rfl) (hsz : sizeIs P et = some sz := by exact rfl) (hz : (zeroIs P et).map (·.length) = some sz := by exact rfl) (hpos : Nat.blt 0 sz = true := by exact rfl) (hby : bytesIs P et = some by_ := by exact rfl) (hb1 : Nat.blt 0 by_ = true := by exact rfl) (hble : Nat.ble by_ 1024 = true := by exact rfl) (hx : ev fr x = some (.osl id sz 0 n) := by exact rfl) (hσ : σ id = some (.row sz et els) := by exact lkp) (hn : n ≤ els.length := by omega) (hy : ev fr y = some a := by exact rfl) (hs : srcOf σ a = some (sz, news) := by exact rfl) (hb : (n + news.length) * 1024 ≤ 140737488355328 := by omega) (hd : fits nt (some t) = true := by exact rfl) :
    LJ P nt ops Q (⟨some t, .call { callee := .builtin .append, args := #[x, y], argTypes := ts }, ty, pos, aft, none⟩ :: rest) fr σ := by
  subst hall
  subst hm
  exact lj_fc (C := fun id' => σ id' = none) (mk := fun id' => .osl id' sz 0 (n + news.length)) (st := fun id' => (σ.del id).set id' (.row sz et (els.take n ++ news))) hd (fun R hR => opj_append_osl rfl hts (elem_of ht hsz hz hpos) hby hx hσ hn hy hs (Nat.le_trans (Nat.mul_le_mul_left _ (Nat.le_of_ble_eq_true hble)) hb) (Nat.blt_eq.mp hb1) fun id' hid => hR id' hid) h
end
theorem St.none_del {σ : St} {x w : Nat} (h : σ x = none) : (σ.del w) x = none := by
  unfold St.del
  split
  · rfl
  · exact h
theorem St.le_del2 {σ τ : St} {w : Nat} (h : σ.le τ) : (σ.del w).le (τ.del w) := fun x v hv => by
  unfold St.del at hv ⊢
  split at hv
  · cases hv
  · rename_i hx
    rw [if_neg hx]
    exact h x v hv
attribute [local irreducible] thn inb endR CJ LJ OpJ DJ DA DB AllocK

def bindsB (t : Tst) (now : List Bd) : Bool := !decide (t.v = noS) && (!lookB t.v now && decide (t.p = 0))
def testB (t : Tst) (v : Vl) (now : List Bd) : Bool := if t.v = noS then holdsV t.p v.k v.n v.s t.val.k t.val.n t.val.s else lookB t.v now && holdsV t.p v.k v.n v.s (lookV t.v now).k (lookV t.v now).n (lookV t.v now).s
theorem q_lookup {σ : St} {w : Nat} {l : List Bd} (nm : ByteArray) (hw : σ w = some (.row 4 50 (l.map bc))) : ACalls Tryd.prog 19 [.osl w 4 0 l.length, .v (.string nm)] σ (fun e σ' => e = .ret (.tup [.agg (vc (lookV nm l)), .v (.bool (lookB nm l))]) ∧ σ' = σ) :=
  (p_lookup none false l nm).lend (indep_tup (by intro a ha; simp at ha; rcases ha with rfl | rfl; exact indep_agg (by intro a ha; simp at ha; rcases ha with rfl | rfl | rfl <;> exact indep_v _); exact indep_v _)) ⟨fin_fz hw rfl (by rw [List.length_map]) rfl (fun _ => rfl), Fin.refl _ _ _, trivial⟩
theorem q_rlookup {σ : St} {w : Nat} {l : List Bd} (nm : ByteArray) (hw : σ w = some (.row 4 50 (l.map bc))) : ACalls Tryd.prog 20 [.osl w 4 0 l.length, .v (.string nm)] σ (fun e σ' => e = .ret (.tup [.agg (vc (lookV nm l)), .v (.bool (lookB nm l))]) ∧ σ' = σ) :=
  (p_rlookup none false l nm).lend (indep_tup (by intro a ha; simp at ha; rcases ha with rfl | rfl; exact indep_agg (by intro a ha; simp at ha; rcases ha with rfl | rfl | rfl <;> exact indep_v _); exact indep_v _)) ⟨fin_fz hw rfl (by rw [List.length_map]) rfl (fun _ => rfl), Fin.refl _ _ _, trivial⟩
theorem q_single {σ : St} {w : Nat} (t : Tst) (v : Vl) (now : List Bd) (hw : σ w = some (.row 4 50 (now.map bc))) (hl : now.length ≤ 65536) : ACalls Tryd.prog 57 [.agg (tc t), .agg (vc v), .osl w 4 0 now.length] σ (fun e σ' => ∃ x : Option Nat, (match x with | none => bindsB t now = false | some w' => bindsB t now = true ∧ σ w' = none) ∧
    e = .ret (match x with | none => .tup [.osl w 4 0 now.length, .v (.bool (testB t v now))] | some w' => .tup [.osl w' 4 0 (now.length + 1), .v (.bool true)]) ∧
    σ' = (match x with | none => σ | some w' => (σ.del w).set w' (.row 4 50 ((now ++ [(⟨t.v, v⟩ : Bd)]).map bc)))) := by
  refine acalls_gives_ex ?_
  refine enter Tryd.func57 rfl rfl rfl rfl ?_
  obtain ⟨tp, tv, tk, tn, ts⟩ := t
  obtain ⟨vk, vn, vs⟩ := v
  have hn : (now.map bc).length = now.length := List.length_map ..
  repeat' (first|(first|(refine jl ?_;first|refine j8 ?_|refine jb ?_|refine j1 ?_|refine j4 ?_|refine j9 ?_|refine j12 (fun id hid=>?_)|refine j13 (fun id hid=>?_)|refine j14 ?_|refine j17t ?_|refine j16 ?_|refine jp (p_holds _ _ _ _ _ _ _) ?_|refine jcq (hp:=fun hc=>p_holds _ _ _ _ _ _ _) ?_|refine lj_to rfl rfl rfl (q_lookup _ lkp) ?_|refine jlit ?_)|(refine jc ?_;first|refine c1 ?_|refine c2 ?_|refine c6 ?_|refine c7 ?_)|refine n1 ?_|refine n2 ?_|refine n11 ?_)|(refine c9 (fun h=>?_) (fun h=>?_)<;>(try simp only [Bool.or_eq_true, Bool.and_eq_true, Bool.or_eq_false_iff, Bool.and_eq_false_iff, Bool.not_eq_true', Bool.not_eq_false', decide_eq_true_eq, decide_eq_false_iff_not, Bool.false_eq_true, Bool.true_eq_false, reduceCtorEq] at h)))
  · refine ⟨none, by simp [bindsB, noS, h], ?_⟩
    dsimp only
    rw [testB, if_pos (by exact h)]
    exact ge rfl
  · refine japo (id := w) (els := now.map bc) (n := now.length) (m := now.length + 1) (news := [bc ⟨tv, ⟨vk, vn, vs⟩⟩]) (all := (now ++ [(⟨tv, ⟨vk, vn, vs⟩⟩ : Bd)]).map bc) (fun w' hw' => ?_) (by rw [List.take_of_length_le (by omega), List.map_append]; rfl) rfl (hb := by dsimp only [List.length]; omega)
    repeat (first|(refine jl ?_;first|refine j1 ?_|refine j4 ?_)|(refine jc ?_;first|refine c7 ?_)|refine n2 ?_|refine n11 ?_)
    refine ⟨some w', ⟨by simp [bindsB, noS, h.1, h.2]; exact decide_eq_false (by assumption), St.ns3 hw'⟩, ?_⟩
    exact ge rfl (St.le_setk (St.le_any (St.le_del2 (St.le_any (St.le_any (St.le_any (St.le_refl _))))) (St.none_del (St.ns3 hw'))) (St.set_same _ _ _))
  · refine ⟨none, ?_, ?_⟩
    · rcases h with h | h <;> simp [bindsB, noS, h]
    dsimp only
    rw [testB, if_neg (by assumption)]
    exact ge rfl
end Go.Proofs.YtddljegbggncdaaDoor.Ab

/- What is bound, cloned: a row of our own. -/
set_option linter.unusedVariables false
set_option linter.unusedSimpArgs false
set_option maxRecDepth 20000
namespace Go.Proofs.YtddljegbggncdaaDoor.Ab
open Go
attribute [local irreducible] thn inb endR CJ LJ OpJ DJ DA DB AllocK

theorem q_cloneb (nl : Option Bool) (full : Bool) (l : List Bd) (hl : l.length ≤ 65536) (σ : St) : ACalls Tryd.prog 54 [.sl nl full 4 (l.map bc)] σ (fun e σ' => ∃ id, σ id = none ∧ e = .ret (.osl id 4 0 l.length) ∧ σ' = σ.set id (.row 4 50 (l.map bc))) := by
  refine enter Tryd.func54 rfl rfl rfl rfl ?_
  have hn : (l.map bc).length = l.length := List.length_map ..
  repeat (first|(refine jl ?_;first|refine j1 ?_|refine j4 ?_)|(refine jc ?_;first|refine c1 ?_|refine c2 ?_))
  refine lj_v_any rfl (fun R hR => opj_isnil_sl rfl rfl rfl rfl hR) (fun b hb => ?_)
  cases b
  · repeat (first|(refine jl ?_;first|refine j4 ?_)|(refine jc ?_;first|refine c1 ?_|refine c2 ?_|refine c4 ?_|refine c6 ?_)|refine n1 ?_)
    refine jlito (fun a ha => ?_)
    repeat (first|(refine jl ?_;first|refine j1 ?_))
    refine japo (id := a) (els := []) (n := 0) (m := l.length) (news := l.map bc) (all := l.map bc) (fun w' hw' => ?_) rfl (by omega) (hn := Nat.zero_le _) (hb := by omega)
    rw [St.del_set ha]
    repeat (first|(refine jl ?_;first|refine j1 ?_|refine j4 ?_)|(refine jc ?_;first|refine c7 ?_)|refine n11 ?_)
    exact ⟨w', St.ns1 hw', rfl, rfl⟩
  · have h0 : l = [] := List.map_eq_nil_iff.1 (hb rfl)
    subst h0
    (first|(refine jl ?_;first|refine j4 ?_))
    (first|(refine jc ?_;first|refine c3 ?_))
    (first|(refine jc ?_;first|refine c1 ?_))
    (first|(refine jc ?_;first|refine c2 ?_))
    (first|(refine jl ?_;first|refine j1 ?_))
    (first|(refine jl ?_;first|refine j4 ?_))
    refine cj_ghost (ghost_nil (t := 2) 4 50 rfl (fun w hw => ?_))
    repeat (first|(refine jc ?_;first|refine c7 ?_)|refine n2 ?_|refine n11 ?_)
    exact ⟨w, hw, rfl, rfl⟩
end Go.Proofs.YtddljegbggncdaaDoor.Ab

/- Tests with variables, taken away. -/
set_option linter.unusedVariables false
set_option linter.unusedSimpArgs false
set_option maxRecDepth 20000
namespace Go.Proofs.YtddljegbggncdaaDoor.Ab
open Go
attribute [local irreducible] thn inb endR CJ LJ OpJ DJ DA DB AllocK

def keepT (t : Tst) : Bool := decide (t.v = noS)
def delT (t : Tst) : Bool := !keepT t
theorem q_clonet (nl : Option Bool) (full : Bool) (l : List Tst) (hl : l.length ≤ 65536) (σ : St) : ACalls Tryd.prog 70 [.sl nl full 5 (l.map tc)] σ (fun e σ' => ∃ id, σ id = none ∧ e = .ret (.osl id 5 0 l.length) ∧ σ' = σ.set id (.row 5 88 (l.map tc))) := by
  refine enter Tryd.func70 rfl rfl rfl rfl ?_
  have hn : (l.map tc).length = l.length := List.length_map ..
  repeat (first|(refine jl ?_;first|refine j1 ?_|refine j4 ?_)|(refine jc ?_;first|refine c1 ?_|refine c2 ?_))
  refine lj_v_any rfl (fun R hR => opj_isnil_sl rfl rfl rfl rfl hR) (fun b hb => ?_)
  cases b
  · repeat (first|(refine jl ?_;first|refine j4 ?_)|(refine jc ?_;first|refine c1 ?_|refine c2 ?_|refine c4 ?_|refine c6 ?_)|refine n1 ?_)
    refine jlito (fun a ha => ?_)
    repeat (first|(refine jl ?_;first|refine j1 ?_))
    refine japo (id := a) (els := []) (n := 0) (m := l.length) (news := l.map tc) (all := l.map tc) (fun w' hw' => ?_) rfl (by omega) (hn := Nat.zero_le _) (hb := by omega)
    rw [St.del_set ha]
    repeat (first|(refine jl ?_;first|refine j1 ?_|refine j4 ?_)|(refine jc ?_;first|refine c7 ?_)|refine n11 ?_)
    exact ⟨w', St.ns1 hw', rfl, rfl⟩
  · have h0 : l = [] := List.map_eq_nil_iff.1 (hb rfl)
    subst h0
    (first|(refine jl ?_;first|refine j4 ?_))
    (first|(refine jc ?_;first|refine c3 ?_))
    (first|(refine jc ?_;first|refine c1 ?_))
    (first|(refine jc ?_;first|refine c2 ?_))
    (first|(refine jl ?_;first|refine j1 ?_))
    (first|(refine jl ?_;first|refine j4 ?_))
    refine cj_ghost (ghost_nil (t := 2) 5 88 rfl (fun w hw => ?_))
    repeat (first|(refine jc ?_;first|refine c7 ?_)|refine n2 ?_|refine n11 ?_)
    exact ⟨w, hw, rfl, rfl⟩
theorem p_delt (x : Tst) : Pure Tryd.prog 71 [.agg (tc x)] (.v (.bool (delT x))) := by
  refine enterW Tryd.func71 rfl rfl rfl rfl (fun σ => ?_)
  repeat (first|(refine jl ?_;first|refine j1 ?_|refine j4 ?_|refine j12 (fun id hid=>?_)|refine j14 ?_)|(refine jc ?_;first|refine c1 ?_|refine c2 ?_|refine c7 ?_)|refine n11 ?_)
  exact ge rfl
theorem p_index_tests (nl : Option Bool) (full : Bool) (l : List Tst) : Pure Tryd.prog 99 [.sl nl full 5 (l.map tc), .fn 71 []] (.v (.int .i64 (idxG delT l 0))) := by
  refine enterW Tryd.func99 rfl rfl rfl rfl (fun σ => ?_)
  refine cj_len 0 (fun hm => ?_)
  have hn : (l.map tc).length = l.length := List.length_map ..
  repeat (first|(refine jl ?_;first|refine j1 ?_|refine j4 ?_)|(refine jc ?_;first|refine c1 ?_|refine c2 ?_|refine c5 ?_))
  refine cj_fors (fun i : Nat => idxG delT (l.drop i) i = idxG delT l 0) (fun i => [(8, .v (.int .i64 i))]) (fun i => l.length - i) 0 rfl ⟨⟨_, rfl, fun _ _ h => h⟩, trivial⟩ (fun i hi => ?_)
  rcases hd : l.drop i with _ | ⟨x, r⟩
  · have h0 := dropn hd
    rw [hd, idxG] at hi
    repeat' (first|(first|(refine jl ?_;first|refine j1 ?_|refine j4 ?_)|(refine jc ?_;first|refine c1 ?_|refine c2 ?_|refine c7 ?_|refine c8 ?_)|refine n1 ?_|refine n3 ?_|refine n7 ?_|refine n8 ?_|refine n11 ?_)|(refine c9 (fun h=>?_) (fun h=>?_)<;>((try simp only [Bool.or_eq_true, Bool.and_eq_true, Bool.or_eq_false_iff, Bool.and_eq_false_iff, Bool.not_eq_true', Bool.not_eq_false', decide_eq_true_eq, decide_eq_false_iff_not, Bool.false_eq_true, Bool.true_eq_false, reduceCtorEq] at h) <;> (try simp (disch := omega) only [sb_bt, w64, Int.reduceAdd, Int.reduceToNat, Int.toNat_natCast, not_true_eq_false, false_or] at h) <;> (try (exfalso; omega)))))
    rw [← hi]
    exact ge rfl
  · obtain ⟨h1, h2, h3⟩ := dropc hd
    have h4 := get_map tc h3
    rw [hd, idxG] at hi
    repeat' (first|(first|(refine jl ?_;first|refine jbl ?_|refine j1 ?_|refine j4 ?_|refine j6 ?_|refine ji1 ?_|refine jcl (p_delt x) ?_)|(refine jc ?_;first|refine c1 ?_|refine c2 ?_|refine c5 ?_|refine c6 ?_|refine c7 ?_)|refine n1 ?_|refine n2 ?_|refine n5 ?_|refine n6 ?_|refine n10 ?_|refine n11 ?_)|(refine c9 (fun h=>?_) (fun h=>?_)<;>((try simp only [Bool.or_eq_true, Bool.and_eq_true, Bool.or_eq_false_iff, Bool.and_eq_false_iff, Bool.not_eq_true', Bool.not_eq_false', decide_eq_true_eq, decide_eq_false_iff_not, Bool.false_eq_true, Bool.true_eq_false, reduceCtorEq] at h) <;> (try simp (disch := omega) only [sb_bt, w64, Int.reduceAdd, Int.reduceToNat, Int.toNat_natCast, not_true_eq_false, false_or] at h) <;> (try (exfalso; omega)))))
    · rw [if_pos h] at hi
      rw [← hi]
      exact ge rfl
    · rw [if_neg (by rw [h]; simp), ← h2] at hi
      exact nx_for (i + 1) hi (by omega) ⟨⟨_, rfl, wk1 (by omega)⟩, trivial⟩
theorem idxG_first {α : Type} (g : α → Bool) : ∀ (l : List α) (i : Nat), 0 ≤ idxG g l i → ∃ j x, idxG g l i = ((i + j : Nat) : Int) ∧ l[j]? = some x ∧ g x = true ∧ ∀ y ∈ l.take j, g y = false
  | [], i, h => by simp [idxG] at h
  | x :: r, i, h => by
    unfold idxG at h ⊢
    by_cases hx : g x = true
    · exact ⟨0, x, by rw [if_pos hx]; rfl, rfl, hx, by simp⟩
    · rw [if_neg hx] at h ⊢
      obtain ⟨j, y, h1, h2, h3, h4⟩ := idxG_first g r (i + 1) h
      refine ⟨j + 1, y, by rw [h1]; congr 1; omega, by simpa using h2, h3, fun z hz => ?_⟩
      rw [List.take_succ_cons] at hz
      rcases List.mem_cons.1 hz with rfl | hz
      · exact Bool.not_eq_true _ ▸ hx
      · exact h4 z hz
theorem idxG_neg {α : Type} (g : α → Bool) : ∀ (l : List α) (i : Nat), idxG g l i < 0 → idxG g l i = -1
  | [], i, h => rfl
  | x :: r, i, h => by
    unfold idxG at h ⊢
    by_cases hx : g x = true
    · rw [if_pos hx] at h; omega
    · rw [if_neg hx] at h ⊢
      exact idxG_neg g r (i + 1) h
def keptN (l : List Tst) (j : Nat) : Nat := ((l.take j).filter keepT).length
theorem keptN_le (l : List Tst) (j : Nat) : keptN l j ≤ j := Nat.le_trans (List.length_filter_le _ _) (by rw [List.length_take]; omega)
theorem keptN_succ {l : List Tst} {j : Nat} {x : Tst} (h : l[j]? = some x) : keptN l (j + 1) = keptN l j + (if keepT x = true then 1 else 0) := by
  unfold keptN
  rw [List.take_add_one, h, List.filter_append, List.length_append]
  by_cases hx : keepT x = true <;> simp [hx]
structure DelI (l C : List Tst) (j : Nat) : Prop where
  len : C.length = l.length
  hj : j ≤ l.length
  lt : keptN l j < j
  tk : C.take (keptN l j) = (l.take j).filter keepT
  dr : C.drop j = l.drop j
theorem DelI.skip {l C : List Tst} {j : Nat} {x : Tst} (h : DelI l C j) (hx : l[j]? = some x) (hk : keepT x = false) : DelI l C (j + 1) ∧ keptN l (j + 1) = keptN l j := by
  have e := keptN_succ hx
  rw [hk] at e
  have e : keptN l (j + 1) = keptN l j := by simpa using e
  have hj := (List.getElem?_eq_some_iff.1 hx).1
  refine ⟨⟨h.len, by omega, by rw [e]; have := h.lt; omega, ?_, ?_⟩, e⟩
  · rw [e, h.tk, List.take_add_one, hx, List.filter_append]
    simp [hk]
  · rw [← List.drop_drop, h.dr, List.drop_drop]
theorem DelI.keep {l C : List Tst} {j : Nat} {x : Tst} (h : DelI l C j) (hx : l[j]? = some x) (hk : keepT x = true) : DelI l (C.set (keptN l j) x) (j + 1) ∧ keptN l (j + 1) = keptN l j + 1 := by
  have e := keptN_succ hx
  rw [hk] at e
  have e : keptN l (j + 1) = keptN l j + 1 := by simpa using e
  have hj := (List.getElem?_eq_some_iff.1 hx).1
  have hlt := h.lt
  have hcl := h.len
  refine ⟨⟨by rw [List.length_set]; exact h.len, by omega, by omega, ?_, ?_⟩, e⟩
  · rw [e, List.take_add_one, List.getElem?_set_self (by omega), List.take_set_of_le (Nat.le_refl _), h.tk, List.take_add_one, hx, List.filter_append]
    simp [hk]
  · rw [List.drop_set_of_lt (by omega), ← List.drop_drop, h.dr, List.drop_drop]
theorem q_delete {σ : St} {id : Nat} {l : List Tst} (hid : σ id = some (.row 5 88 (l.map tc))) (hl : l.length ≤ 65536) : ACalls Tryd.prog 69 [.osl id 5 0 l.length, .fn 71 []] σ (fun e σ' => e = .ret (.osl id 5 0 (l.filter keepT).length) ∧ σ' = σ.set id (.row 5 88 ((l.filter keepT).map tc))) := by
  refine acalls_gives ?_
  refine enter Tryd.func69 rfl rfl rfl rfl ?_
  have h5 := idxG_lt delT l 0
  have h6 := idxG_first delT l 0
  have k1 : ACalls Tryd.prog 99 [.osl id 5 0 l.length, .fn 71 []] σ (fun e σ' => e = .ret (.v (.int .i64 (idxG delT l 0))) ∧ σ' = σ) :=
    (p_index_tests none false l).lend (indep_v _) ⟨fin_fz hid rfl (by rw [List.length_map]) rfl (fun _ => rfl), Fin.refl _ _ _, trivial⟩
  repeat' (first|(first|(refine jl ?_;first|refine j1 ?_|refine j4 ?_|refine lj_to rfl rfl rfl k1 ?_)|(refine jc ?_;first|refine c1 ?_|refine c2 ?_|refine c5 ?_|refine c6 ?_|refine c7 ?_)|refine n1 ?_|refine n2 ?_|refine n11 ?_)|(refine c9 (fun h=>?_) (fun h=>?_)<;>(try simp only [Bool.or_eq_true, Bool.and_eq_true, Bool.or_eq_false_iff, Bool.and_eq_false_iff, Bool.not_eq_true', Bool.not_eq_false', decide_eq_true_eq, decide_eq_false_iff_not, Bool.false_eq_true, Bool.true_eq_false, reduceCtorEq] at h)))
  · have h7 := h5.1 (by omega)
    have hk : l.filter keepT = l := List.filter_eq_self.2 fun x hx => by have := h7 x hx; simpa [delT] using this
    rw [hk]
    exact ge rfl (St.le_setk (St.le_refl _) hid)
  · have h0 : 0 ≤ idxG delT l 0 := by
      by_cases h0 : 0 ≤ idxG delT l 0
      · exact h0
      · exact absurd (idxG_neg _ _ _ (by omega)) h
    obtain ⟨j0, x0, e1, e2, e3, e4⟩ := h6 h0
    rw [Nat.zero_add] at e1
    have hj0 := (List.getElem?_eq_some_iff.1 e2).1
    have hN0 : keptN l j0 = j0 := by
      have : (l.take j0).filter keepT = l.take j0 := List.filter_eq_self.2 fun x hx => by have := e4 x hx; simpa [delT] using this
      rw [keptN, this, List.length_take]; omega
    have hx0 : keepT x0 = false := by simpa [delT] using e3
    have hN1 : keptN l (j0 + 1) = j0 := by rw [keptN_succ e2, hx0, hN0]; rfl
    have hI0 : DelI l l (j0 + 1) := ⟨rfl, by omega, by omega, by rw [hN1, List.take_add_one, e2, List.filter_append]; simp [hx0]; exact (List.filter_eq_self.2 fun x hx => by have := e4 x hx; simpa [delT] using this).symm, rfl⟩
    rw [e1]
    clear h5 h6 k1 h
    refine cj_forr (fun s : Nat × List Tst => DelI l s.2 s.1) (fun s => [(6, .v (.int .i64 s.1)), (5, .v (.int .i64 (keptN l s.1 : Nat)))]) (fun s => l.length - s.1) (j0 + 1, l) id (fun s => .row 5 88 (s.2.map tc)) hid hI0 ⟨⟨_, rfl, wk1 (by omega)⟩, ⟨_, rfl, Wk.of_eq (by dsimp only; rw [hN1])⟩, trivial⟩ (fun s hs => ?_)
    obtain ⟨j, C⟩ := s
    dsimp only at hs ⊢
    have hn := hs.len
    have hcl : (C.map tc).length = C.length := List.length_map ..
    rcases hd : l.drop j with _ | ⟨x, r⟩
    · have hjl := dropn hd
      have hjl2 : j = l.length := by have := hs.hj; omega
      subst hjl2
      have hlt := hs.lt
      have htk := hs.tk
      rw [List.take_length] at htk
      have hkn : keptN l l.length = (l.filter keepT).length := by rw [keptN, List.take_length]
      repeat' (first|(first|(refine jl ?_;first|refine j1 ?_|refine j4 ?_)|(refine jc ?_;first|refine c1 ?_|refine c2 ?_|refine c8 ?_)|refine n1 ?_|refine n3 ?_|refine n7 ?_|refine n8 ?_)|(refine c9 (fun h=>?_) (fun h=>?_)<;>((try simp only [Bool.or_eq_true, Bool.and_eq_true, Bool.or_eq_false_iff, Bool.and_eq_false_iff, Bool.not_eq_true', Bool.not_eq_false', decide_eq_true_eq, decide_eq_false_iff_not, Bool.false_eq_true, Bool.true_eq_false, reduceCtorEq] at h) <;> (try simp (disch := omega) only [sb_bt, w64, Int.reduceAdd, Int.reduceToNat, Int.toNat_natCast, not_true_eq_false, false_or] at h) <;> (try (exfalso; omega)))))
      refine jco (o2 := keptN l l.length) (n2 := l.length - keptN l l.length) ?_
      repeat (first|fail)
      refine jclr (off := keptN l l.length) (len := l.length - keptN l l.length) (els := C.map tc) (id := id) (all := (l.filter keepT).map tc) ?_ (by rw [← List.map_take, htk]) (by omega) (by omega)
      repeat (first|(refine jl ?_;first|refine j1 ?_|refine j4 ?_)|(refine jc ?_;first|refine c1 ?_|refine c2 ?_))
      refine jco (o2 := 0) (n2 := (l.filter keepT).length) ?_
      repeat (first|(refine jl ?_;first|refine j1 ?_|refine j4 ?_)|(refine jc ?_;first|refine c7 ?_)|refine n11 ?_)
      exact ge rfl (St.le_of_eq (St.set_set _ _ _ _).symm)
    · obtain ⟨f1, f2, f3⟩ := dropc hd
      have hCx : C[j]? = some x := by
        have := hs.dr
        rw [hd] at this
        exact (dropc this).2.2
      have h4 : (C.map tc)[0 + ((j : Nat) : Int).toNat]? = some (tc x) := by rw [Nat.zero_add]; exact get_map tc hCx
      have hlt := hs.lt
      obtain ⟨z, hz⟩ : ∃ z, C[keptN l j]? = some z := ⟨_, List.getElem?_eq_getElem (by omega)⟩
      have h5 : (C.map tc)[0 + ((keptN l j : Nat) : Int).toNat]? = some (tc z) := by rw [Nat.zero_add]; exact get_map tc hz
      have h6 : (C.map tc).set (0 + ((keptN l j : Nat) : Int).toNat) (tc x) = (C.set (keptN l j) x).map tc := by rw [List.map_set, Nat.zero_add]; rfl
      repeat' (first|(first|(refine jl ?_;first|refine j1 ?_|refine j4 ?_|refine j6 ?_|refine j13 (fun id hid=>?_)|refine j14 ?_|refine j17t ?_|refine ji4 ?_|refine jcl (p_delt x) ?_|refine jle h4 ?_|refine jse h5 h6 ?_)|(refine jc ?_;first|refine c1 ?_|refine c2 ?_|refine c5 ?_|refine c6 ?_)|refine n1 ?_|refine n10 ?_)|(refine c9 (fun h=>?_) (fun h=>?_)<;>((try simp only [Bool.or_eq_true, Bool.and_eq_true, Bool.or_eq_false_iff, Bool.and_eq_false_iff, Bool.not_eq_true', Bool.not_eq_false', decide_eq_true_eq, decide_eq_false_iff_not, Bool.false_eq_true, Bool.true_eq_false, reduceCtorEq] at h) <;> (try simp (disch := omega) only [sb_bt, w64, Int.reduceAdd, Int.reduceToNat, Int.toNat_natCast, not_true_eq_false, false_or] at h) <;> (try (exfalso; omega)))))
      · have hk : keepT x = true := by simpa [delT] using h
        obtain ⟨g1, g2⟩ := hs.keep f3 hk
        refine nx_forr (j + 1, C.set (keptN l j) x) g1 (by dsimp only; omega) ⟨⟨_, rfl, wk1 (by omega)⟩, ⟨_, rfl, Wk.of_eq (by dsimp only; rw [g2, w64 (by omega) (by omega)]; rfl)⟩, trivial⟩ ?_
        dsimp only
        exact lkp
      · have hk : keepT x = false := by simpa [delT] using h
        obtain ⟨g1, g2⟩ := hs.skip f3 hk
        refine nx_forr (j + 1, C) g1 (by dsimp only; omega) ⟨⟨_, rfl, wk1 (by omega)⟩, ⟨_, rfl, Wk.of_eq (by dsimp only; rw [g2])⟩, trivial⟩ ?_
        dsimp only
        exact lkp
end Go.Proofs.YtddljegbggncdaaDoor.Ab

/- A condition without its variables. -/
set_option linter.unusedVariables false
set_option linter.unusedSimpArgs false
set_option maxRecDepth 20000
namespace Go.Proofs.YtddljegbggncdaaDoor.Ab
open Go
attribute [local irreducible] thn inb endR CJ LJ OpJ DJ DA DB AllocK

def consA : List Atr → List Atr
  | [] => []
  | a :: r => if 0 < a.ones.length ∨ 0 < (a.tests.filter keepT).length then ⟨a.attr, a.ones, a.tests.filter keepT⟩ :: consA r else consA r
def constsC (c : Cnd) : Cnd := ⟨false, c.cls, consA c.attrs⟩
abbrev litC (c : Cnd) : Prop := c.attrs.length ≤ 12 ∧ ∀ a ∈ c.attrs, a.ones.length ≤ 12 ∧ a.tests.length ≤ 12
theorem p_consts (c : Cnd) (h : litC c) : Pure Tryd.prog 26 [.agg (dc c)] (.agg (dc (constsC c))) := by
  refine enterW Tryd.func26 rfl rfl rfl rfl (fun σ => ?_)
  obtain ⟨h1, h2⟩ := h
  obtain ⟨cg, cn, ats⟩ := c
  dsimp only at h1 h2 ⊢
  have hla : (ats.map ac).length = ats.length := List.length_map ..
  repeat (first|(refine jl ?_;first|refine jb ?_|refine j1 ?_|refine j4 ?_|refine j12 (fun id hid=>?_)|refine j13 (fun id hid=>?_)|refine j14 ?_|refine j17t ?_)|(refine jc ?_;first|refine c1 ?_|refine c2 ?_|refine c5 ?_))
  first | refine cj_id 1 (fun bb1 e => ?_) | refine lj_id 1 (fun bb1 e => ?_)
  subst e
  first | refine cj_id 2 (fun bb2 e => ?_) | refine lj_id 2 (fun bb2 e => ?_)
  subst e
  first | refine cj_id 3 (fun bb3 e => ?_) | refine lj_id 3 (fun bb3 e => ?_)
  subst e
  have hb3 : ((σ.set bb1 (.row 3 25 [dc ⟨cg, cn, ats⟩])).set bb2 (.row 3 25 [[.v (.bool false), .v (.string ⟨#[]⟩), .sl (some true) true 1 []]])) bb3 = none := by assumption
  have n13 : bb1 ≠ bb3 := St.nn1 hb3
  have n23 : bb2 ≠ bb3 := St.nn0 hb3
  have s3 : σ bb3 = none := St.ns2 hb3
  have s2 : σ bb2 = none := St.ns1 (by assumption)
  refine cj_name (fun τ hτ => ?_)
  have t1 : τ bb1 = some (.row 3 25 [dc ⟨cg, cn, ats⟩]) := by rw [hτ]; exact lkp
  have t2 : τ bb2 = some (.row 3 25 [[.v (.bool false), .v (.string ⟨#[]⟩), .sl (some true) true 1 []]]) := by rw [hτ]; exact lkp
  have t3 : τ bb3 = some (.row 3 25 [[.v (.bool false), .v (.string cn), .sl (some true) true 1 []]]) := by rw [hτ]; exact lkp
  have hle : σ.le τ := by rw [hτ]; repeat' (first | exact St.le_refl _ | refine St.le_any ?_)
  clear hτ hb3
  refine cj_nilcell 3 2 3 91 (fun w0 hw0 => ?_)
  refine cj_for (fun s : Nat × Nat × List Atr => s.1 ≤ ats.length ∧ τ s.2.1 = none ∧ s.2.2 ++ consA (ats.drop s.1) = consA ats ∧ s.2.2.length ≤ s.1) (fun s => [(13, .v (.int .i64 s.1))]) (fun s => (τ.set s.2.1 (.row 3 91 (s.2.2.map ac))).set bb3 (.row 3 25 [[.v (.bool false), .v (.string cn), .osl s.2.1 3 0 s.2.2.length]])) (fun s => ats.length - s.1) (0, w0, []) ⟨Nat.zero_le _, hw0, rfl, Nat.le_refl _⟩ ⟨⟨_, rfl, fun _ _ h => h⟩, trivial⟩ (St.le_refl _) (fun s hs => ?_)
  obtain ⟨i, w, out⟩ := s
  obtain ⟨hi, hw, hg, hlen⟩ := hs
  dsimp only at hi hw hg hlen ⊢
  have nw1 : w ≠ bb1 := St.ne_some hw t1
  have nw2 : w ≠ bb2 := St.ne_some hw t2
  have nw3 : w ≠ bb3 := St.ne_some hw t3
  rcases hd : ats.drop i with _ | ⟨x, r⟩
  · have h0 := dropn hd
    rw [hd, consA, List.append_nil] at hg
    repeat' (first|(first|(refine jl ?_;first|refine j1 ?_|refine j4 ?_|refine j14 ?_|refine j17 ?_)|(refine jc ?_;first|refine c1 ?_|refine c2 ?_|refine c7 ?_|refine c8 ?_)|refine n1 ?_|refine n3 ?_|refine n7 ?_|refine n8 ?_|refine n14 ?_)|(refine c9 (fun h=>?_) (fun h=>?_)<;>((try simp only [Bool.or_eq_true, Bool.and_eq_true, Bool.or_eq_false_iff, Bool.and_eq_false_iff, Bool.not_eq_true', Bool.not_eq_false', decide_eq_true_eq, decide_eq_false_iff_not, Bool.false_eq_true, Bool.true_eq_false, reduceCtorEq] at h) <;> (try simp (disch := omega) only [sb_bt, w64, Int.reduceAdd, Int.reduceToNat, Int.toNat_natCast, not_true_eq_false, false_or] at h) <;> (try (exfalso; omega)))))
    refine gvs (show Fin _ _ (.agg [.v (.bool false), .v (.string cn), .osl w 3 0 out.length]) _ from fin_agg (finl_cons (Fin.refl _ _ _) (finl_cons (Fin.refl _ _ _) (finl_cons ?_ finl_nil)))) (St.le_any (St.le_any (St.le_any hle (St.none_le hle hw)) s3) s2)
    show Fin _ _ _ (.sl none false 3 ((consA ats).map ac))
    rw [← hg]
    exact fin_fz lkp (St.none_le hle hw) (by rw [List.length_map]) rfl (fun _ => rfl)
  · obtain ⟨g1, g2, g3⟩ := dropc hd
    obtain ⟨hx1, hx2⟩ := h2 _ (List.mem_of_getElem? g3)
    obtain ⟨xn, xo, xt⟩ := x
    have h4 := get_map ac g3
    have hlt : (xt.map tc).length = xt.length := List.length_map ..
    have hlo : (xo.map vc).length = xo.length := List.length_map ..
    rw [hd, consA] at hg
    dsimp only at hg hx1 hx2
    repeat' (first|(first|(refine jl ?_;first|refine jbl ?_|refine j1 ?_|refine j4 ?_|refine j13 (fun id hid=>?_)|refine j14 ?_|refine j17t ?_|refine ji1 ?_)|(refine jc ?_;first|refine c1 ?_|refine c2 ?_|refine c5 ?_|refine c6 ?_)|refine n1 ?_)|(refine c9 (fun h=>?_) (fun h=>?_)<;>((try simp only [Bool.or_eq_true, Bool.and_eq_true, Bool.or_eq_false_iff, Bool.and_eq_false_iff, Bool.not_eq_true', Bool.not_eq_false', decide_eq_true_eq, decide_eq_false_iff_not, Bool.false_eq_true, Bool.true_eq_false, reduceCtorEq] at h) <;> (try simp (disch := omega) only [sb_bt, w64, Int.reduceAdd, Int.reduceToNat, Int.toNat_natCast, not_true_eq_false, false_or] at h) <;> (try (exfalso; omega)))))
    have hid5 := hid
    refine lj_calls rfl rfl rfl (q_clonet none false xt (by omega) _) (fun r σ' hr => ?_) (by rintro x σ' ⟨_, _, h, _⟩; cases h)
    obtain ⟨wt, hwt, hr1, hr2⟩ := hr
    cases hr1
    subst hr2
    refine lj_to rfl rfl rfl (q_delete (St.set_same _ _ _) (by omega)) ?_
    refine lj_freeze 20 (els := (xt.filter keepT).map tc) rfl (St.set_same _ _ _) (by rw [List.length_map]) (by decide) ?_
    rw [St.set_set, St.del_set hwt]
    have hlf : (xt.filter keepT).length ≤ 12 := Nat.le_trans (List.length_filter_le _ _) hx2
    have hlk : ((xt.filter keepT).map tc).length = (xt.filter keepT).length := List.length_map ..
    have k1 := p_clonev none false xo (by omega)
    repeat' (first|(first|(refine jl ?_;first|refine j7 ?_|refine j1 ?_|refine j4 ?_|refine j6 ?_|refine j9 ?_|refine j14 ?_)|(refine al ?_;first|refine da_nil ?_|refine abd ?_|refine a1 ?_|refine a14 ?_|refine alit ?_|refine ap (k1) ?_)|refine al_nil ?_|(refine jc ?_;first|refine c1 ?_|refine c2 ?_|refine c6 ?_|refine cqe 10 false ?_)|refine n1 ?_|refine n10 ?_)|(refine c9 (fun h=>?_) (fun h=>?_)<;>((try simp only [Bool.or_eq_true, Bool.and_eq_true, Bool.or_eq_false_iff, Bool.and_eq_false_iff, Bool.not_eq_true', Bool.not_eq_false', decide_eq_true_eq, decide_eq_false_iff_not, Bool.false_eq_true, Bool.true_eq_false, reduceCtorEq] at h) <;> (try simp (disch := omega) only [sb_bt, w64, Int.reduceAdd, Int.reduceToNat, Int.toNat_natCast, not_true_eq_false, false_or] at h) <;> (try (exfalso; omega)))))
    · have hc : 0 < xo.length ∨ 0 < (xt.filter keepT).length := by omega
      rw [if_pos hc] at hg
      have hn1 : (out.map ac).length = out.length := List.length_map ..
      have hall : (out.map ac).take out.length ++ [ac ⟨xn, xo, xt.filter keepT⟩] = (out ++ [(⟨xn, xo, xt.filter keepT⟩ : Atr)]).map ac := by rw [List.take_of_length_le (by omega), List.map_append]; rfl
      refine bapo (n := out.length) (m := out.length + 1) (news := [ac ⟨xn, xo, xt.filter keepT⟩]) (fun w2 hw2 => ?_) hall rfl (hn := by omega) (hb := by dsimp only [List.length]; omega)
      have hw2' : τ w2 = none := St.ns3 hw2
      have n23w : w2 ≠ bb3 := St.ne_some hw2' t3
      have n3i : bb3 ≠ id := St.nn0 hid5
      refine b1 ?_
      refine b17 (hσ := by rw [St.set_ne' _ _ _ n23w, St.del_ne nw3, St.set_ne _ _ _ n3i]; exact St.set_same _ _ _) ?_
      repeat (first|(refine jl ?_;first|refine j1 ?_|refine j6 ?_)|(refine bl ?_;first|refine db_nil ?_)|(refine jc ?_;first|refine c2 ?_)|refine n1 ?_|refine n10 ?_)
      refine nx_forS (i + 1, w2, out ++ [⟨xn, xo, xt.filter keepT⟩]) ⟨by dsimp only; omega, hw2', by dsimp only; rw [g2, List.append_assoc]; exact hg, by dsimp only; rw [List.length_append, List.length_singleton]; omega⟩ (by dsimp only; omega) ⟨⟨_, rfl, wk1 (by omega)⟩, trivial⟩ ?_
      dsimp only
      rw [List.length_append, List.length_singleton]
      exact St.le_set2 (St.leX_same (St.leX_setk (St.leX_del (St.leX_any (St.leX_same (St.leX_any (St.leX_refl _ _) hw)) (St.ns2 hid5)) hw))) (St.set_same _ _ _)
    · have hc : ¬ (0 < xo.length ∨ 0 < (xt.filter keepT).length) := by omega
      rw [if_neg hc] at hg
      exact nx_forS (i + 1, w, out) ⟨by dsimp only; omega, hw, by dsimp only; rw [g2]; exact hg, by dsimp only; omega⟩ (by dsimp only; omega) ⟨⟨_, rfl, wk1 (by omega)⟩, trivial⟩ (St.le_any (St.le_refl _))
end Go.Proofs.YtddljegbggncdaaDoor.Ab

/- A condition without its variables, by the document. -/
set_option linter.unusedVariables false
set_option linter.unusedSimpArgs false
set_option maxRecDepth 20000
namespace Go.Proofs.YtddljegbggncdaaDoor.Ab
open Go
attribute [local irreducible] thn inb endR CJ LJ OpJ DJ DA DB AllocK

theorem p_rconsts (c : Cnd) (h : litC c) : Pure Tryd.prog 27 [.agg (dc c)] (.agg (dc (constsC c))) := by
  refine enterW Tryd.func27 rfl rfl rfl rfl (fun σ => ?_)
  obtain ⟨h1, h2⟩ := h
  obtain ⟨cg, cn, ats⟩ := c
  dsimp only at h1 h2 ⊢
  have hla : (ats.map ac).length = ats.length := List.length_map ..
  repeat (first|(refine jl ?_;first|refine jb ?_|refine j1 ?_|refine j4 ?_|refine j12 (fun id hid=>?_)|refine j13 (fun id hid=>?_)|refine j14 ?_|refine j17t ?_)|(refine jc ?_;first|refine c1 ?_|refine c2 ?_|refine c5 ?_))
  first | refine cj_id 1 (fun bb1 e => ?_) | refine lj_id 1 (fun bb1 e => ?_)
  subst e
  first | refine cj_id 2 (fun bb2 e => ?_) | refine lj_id 2 (fun bb2 e => ?_)
  subst e
  first | refine cj_id 3 (fun bb3 e => ?_) | refine lj_id 3 (fun bb3 e => ?_)
  subst e
  have hb3 : ((σ.set bb1 (.row 3 25 [dc ⟨cg, cn, ats⟩])).set bb2 (.row 3 25 [[.v (.bool false), .v (.string ⟨#[]⟩), .sl (some true) true 1 []]])) bb3 = none := by assumption
  have n13 : bb1 ≠ bb3 := St.nn1 hb3
  have n23 : bb2 ≠ bb3 := St.nn0 hb3
  have s3 : σ bb3 = none := St.ns2 hb3
  have s2 : σ bb2 = none := St.ns1 (by assumption)
  refine cj_name (fun τ hτ => ?_)
  have t1 : τ bb1 = some (.row 3 25 [dc ⟨cg, cn, ats⟩]) := by rw [hτ]; exact lkp
  have t2 : τ bb2 = some (.row 3 25 [[.v (.bool false), .v (.string ⟨#[]⟩), .sl (some true) true 1 []]]) := by rw [hτ]; exact lkp
  have t3 : τ bb3 = some (.row 3 25 [[.v (.bool false), .v (.string cn), .sl (some true) true 1 []]]) := by rw [hτ]; exact lkp
  have hle : σ.le τ := by rw [hτ]; repeat' (first | exact St.le_refl _ | refine St.le_any ?_)
  clear hτ hb3
  refine cj_nilcell 3 2 3 91 (fun w0 hw0 => ?_)
  refine cj_for (fun s : Nat × Nat × List Atr => s.1 ≤ ats.length ∧ τ s.2.1 = none ∧ s.2.2 ++ consA (ats.drop s.1) = consA ats ∧ s.2.2.length ≤ s.1) (fun s => [(4, .v (.int .i64 s.1))]) (fun s => (τ.set s.2.1 (.row 3 91 (s.2.2.map ac))).set bb3 (.row 3 25 [[.v (.bool false), .v (.string cn), .osl s.2.1 3 0 s.2.2.length]])) (fun s => ats.length - s.1) (0, w0, []) ⟨Nat.zero_le _, hw0, rfl, Nat.le_refl _⟩ ⟨⟨_, rfl, fun _ _ h => h⟩, trivial⟩ (St.le_refl _) (fun s hs => ?_)
  obtain ⟨i, w, out⟩ := s
  obtain ⟨hi, hw, hg, hlen⟩ := hs
  dsimp only at hi hw hg hlen ⊢
  have nw1 : w ≠ bb1 := St.ne_some hw t1
  have nw2 : w ≠ bb2 := St.ne_some hw t2
  have nw3 : w ≠ bb3 := St.ne_some hw t3
  rcases hd : ats.drop i with _ | ⟨x, r⟩
  · have h0 := dropn hd
    rw [hd, consA, List.append_nil] at hg
    repeat' (first|(first|(refine jl ?_;first|refine j1 ?_|refine j4 ?_|refine j14 ?_|refine j17 ?_)|(refine jc ?_;first|refine c1 ?_|refine c2 ?_|refine c7 ?_|refine c8 ?_)|refine n1 ?_|refine n3 ?_|refine n7 ?_|refine n8 ?_|refine n14 ?_)|(refine c9 (fun h=>?_) (fun h=>?_)<;>((try simp only [Bool.or_eq_true, Bool.and_eq_true, Bool.or_eq_false_iff, Bool.and_eq_false_iff, Bool.not_eq_true', Bool.not_eq_false', decide_eq_true_eq, decide_eq_false_iff_not, Bool.false_eq_true, Bool.true_eq_false, reduceCtorEq] at h) <;> (try simp (disch := omega) only [sb_bt, w64, Int.reduceAdd, Int.reduceToNat, Int.toNat_natCast, not_true_eq_false, false_or] at h) <;> (try (exfalso; omega)))))
    refine gvs (show Fin _ _ (.agg [.v (.bool false), .v (.string cn), .osl w 3 0 out.length]) _ from fin_agg (finl_cons (Fin.refl _ _ _) (finl_cons (Fin.refl _ _ _) (finl_cons ?_ finl_nil)))) (St.le_any (St.le_any (St.le_any hle (St.none_le hle hw)) s3) s2)
    show Fin _ _ _ (.sl none false 3 ((consA ats).map ac))
    rw [← hg]
    exact fin_fz lkp (St.none_le hle hw) (by rw [List.length_map]) rfl (fun _ => rfl)
  · obtain ⟨g1, g2, g3⟩ := dropc hd
    obtain ⟨hx1, hx2⟩ := h2 _ (List.mem_of_getElem? g3)
    obtain ⟨xn, xo, xt⟩ := x
    have h4 := get_map ac g3
    have hlt : (xt.map tc).length = xt.length := List.length_map ..
    have hlo : (xo.map vc).length = xo.length := List.length_map ..
    rw [hd, consA] at hg
    dsimp only at hg hx1 hx2
    repeat' (first|(first|(refine jl ?_;first|refine j1 ?_|refine j4 ?_|refine j14 ?_)|(refine al ?_;first|refine da_nil ?_|refine abd ?_|refine abl ?_|refine a1 ?_|refine a14 ?_|refine ai1 ?_|refine da_skip ?_)|(refine bl ?_;first|refine b17t ?_|refine db_nil ?_)|refine al_cons (fun id hid=>?_)|refine al_nil ?_|(refine jc ?_;first|refine c1 ?_|refine c2 ?_|refine c5 ?_|refine c6 ?_|refine cqa ?_)|refine n1 ?_)|(refine c9 (fun h=>?_) (fun h=>?_)<;>((try simp only [Bool.or_eq_true, Bool.and_eq_true, Bool.or_eq_false_iff, Bool.and_eq_false_iff, Bool.not_eq_true', Bool.not_eq_false', decide_eq_true_eq, decide_eq_false_iff_not, Bool.false_eq_true, Bool.true_eq_false, reduceCtorEq] at h) <;> (try simp (disch := omega) only [sb_bt, w64, Int.reduceAdd, Int.reduceToNat, Int.toNat_natCast, not_true_eq_false, false_or] at h) <;> (try (exfalso; omega)))))
    first | refine cj_id 5 (fun bb5 e => ?_) | refine lj_id 5 (fun bb5 e => ?_)
    subst e
    have hid5 : ((τ.set w (.row 3 91 (out.map ac))).set bb3 (.row 3 25 [[.v (.bool false), .v (.string cn), .osl w 3 0 out.length]])) bb5 = none := hid
    have n35 : bb3 ≠ bb5 := St.nn0 hid5
    have nw5 : w ≠ bb5 := St.nn1 hid5
    have s5 : τ bb5 = none := St.ns2 hid5
    have n15 : bb1 ≠ bb5 := Ne.symm (St.ne_some s5 t1)
    have n25 : bb2 ≠ bb5 := Ne.symm (St.ne_some s5 t2)
    refine cj_name (fun τ1 hτ1 => ?_)
    have u1 : τ1 bb1 = some (.row 3 25 [dc ⟨cg, cn, ats⟩]) := by rw [hτ1]; exact lkp
    have u2 : τ1 bb2 = some (.row 3 25 [[.v (.bool false), .v (.string ⟨#[]⟩), .sl (some true) true 1 []]]) := by rw [hτ1]; exact lkp
    have u3 : τ1 bb3 = some (.row 3 25 [[.v (.bool false), .v (.string cn), .osl w 3 0 out.length]]) := by rw [hτ1]; exact lkp
    have uw : τ1 w = some (.row 3 91 (out.map ac)) := by rw [hτ1]; exact lkp
    have u5 : τ1 bb5 = some (.row 3 91 [[.v (.string xn), .sl none false 3 (xo.map vc), .sl (some true) true 1 []]]) := by rw [hτ1]; exact lkp
    have hX1 : St.leX bb3 τ τ1 := by rw [hτ1]; exact St.leX_any (St.leX_same (St.leX_any (St.leX_refl _ _) hw)) s5
    have hS1 : ((τ.set w (.row 3 91 (out.map ac))).set bb3 (.row 3 25 [[.v (.bool false), .v (.string cn), .osl w 3 0 out.length]])).le τ1 := by rw [hτ1]; exact St.le_set _ hid5
    clear hτ1
    refine cj_nilcell 5 2 5 88 (fun wt0 hwt0 => ?_)
    refine cj_for (fun s : Nat × Nat × List Tst => s.1 ≤ xt.length ∧ τ1 s.2.1 = none ∧ s.2.2 ++ (xt.drop s.1).filter keepT = xt.filter keepT ∧ s.2.2.length ≤ s.1) (fun s => [(6, .v (.int .i64 s.1))]) (fun s => (τ1.set s.2.1 (.row 5 88 (s.2.2.map tc))).set bb5 (.row 3 91 [[.v (.string xn), .sl none false 3 (xo.map vc), .osl s.2.1 5 0 s.2.2.length]])) (fun s => xt.length - s.1) (0, wt0, []) ⟨Nat.zero_le _, hwt0, rfl, Nat.le_refl _⟩ ⟨⟨_, rfl, fun _ _ h => h⟩, trivial⟩ (St.le_refl _) (fun s hs => ?_)
    clear hid h
    obtain ⟨k, wt, ts⟩ := s
    obtain ⟨hk, hwt, hg1, hlen1⟩ := hs
    dsimp only at hk hwt hg1 hlen1 ⊢
    have m1 : wt ≠ bb1 := St.ne_some hwt u1
    have m3 : wt ≠ bb3 := St.ne_some hwt u3
    have mw : wt ≠ w := St.ne_some hwt uw
    have m5 : wt ≠ bb5 := St.ne_some hwt u5
    rcases hd1 : xt.drop k with _ | ⟨y, r1⟩
    · have h0 := dropn hd1
      rw [hd1, List.filter_nil, List.append_nil] at hg1
      subst hg1
      have hlf : (xt.filter keepT).length ≤ 12 := Nat.le_trans (List.length_filter_le _ _) hx2
      have hlk : ((xt.filter keepT).map tc).length = (xt.filter keepT).length := List.length_map ..
      refine cj_freezecell 5 2 ((xt.filter keepT).map tc) ?_ (by rw [List.length_map]) m5
      rw [St.del_set2 hwt m5]
      repeat' (first|(first|(refine jl ?_;first|refine jbl ?_|refine j1 ?_|refine j4 ?_|refine j6 ?_|refine j14 ?_|refine ji1 ?_|refine jlit ?_)|(refine jc ?_;first|refine c1 ?_|refine c2 ?_|refine c6 ?_|refine c8 ?_)|refine n1 ?_|refine n3 ?_|refine n7 ?_|refine n8 ?_|refine n10 ?_)|(refine c9 (fun h=>?_) (fun h=>?_)<;>((try simp only [Bool.or_eq_true, Bool.and_eq_true, Bool.or_eq_false_iff, Bool.and_eq_false_iff, Bool.not_eq_true', Bool.not_eq_false', decide_eq_true_eq, decide_eq_false_iff_not, Bool.false_eq_true, Bool.true_eq_false, reduceCtorEq] at h) <;> (try simp (disch := omega) only [sb_bt, w64, Int.reduceAdd, Int.reduceToNat, Int.toNat_natCast, not_true_eq_false, false_or] at h) <;> (try (exfalso; omega)))))
      · have hc : 0 < xo.length ∨ 0 < (xt.filter keepT).length := by omega
        rw [if_pos hc] at hg
        have hn1 : (out.map ac).length = out.length := List.length_map ..
        have hall : (out.map ac).take out.length ++ [ac ⟨xn, xo, xt.filter keepT⟩] = (out ++ [(⟨xn, xo, xt.filter keepT⟩ : Atr)]).map ac := by rw [List.take_of_length_le (by omega), List.map_append]; rfl
        refine japo (id := w) (els := out.map ac) (n := out.length) (m := out.length + 1) (news := [ac ⟨xn, xo, xt.filter keepT⟩]) (all := (out ++ [(⟨xn, xo, xt.filter keepT⟩ : Atr)]).map ac) (fun w2 hw2 => ?_) hall rfl (hn := by omega) (hb := by dsimp only [List.length]; omega)
        have hw21 : τ1 w2 = none := St.ns1 hw2
        have hw2' : τ w2 = none := St.ns2 (St.none_le hS1 hw21)
        have n23w : w2 ≠ bb3 := St.ne_some hw2' t3
        refine j1 ?_
        refine j17 (hσ := by rw [St.set_ne' _ _ _ n23w, St.del_ne nw3, St.set_ne _ _ _ n35]; exact u3) ?_
        repeat (first|(refine jl ?_;first|refine j1 ?_|refine j6 ?_)|(refine jc ?_;first|refine c2 ?_)|refine n1 ?_|refine n10 ?_)
        refine nx_forS (i + 1, w2, out ++ [⟨xn, xo, xt.filter keepT⟩]) ⟨by dsimp only; omega, hw2', by dsimp only; rw [g2, List.append_assoc]; exact hg, by dsimp only; rw [List.length_append, List.length_singleton]; omega⟩ (by dsimp only; omega) ⟨⟨_, rfl, wk1 (by omega)⟩, trivial⟩ ?_
        dsimp only
        rw [List.length_append, List.length_singleton]
        exact St.le_set2 (St.leX_same (St.leX_setk (St.leX_del (St.leX_any hX1 s5) hw))) (St.set_same _ _ _)
      · have hc : ¬ (0 < xo.length ∨ 0 < (xt.filter keepT).length) := by omega
        rw [if_neg hc] at hg
        exact nx_forS (i + 1, w, out) ⟨by dsimp only; omega, hw, by dsimp only; rw [g2]; exact hg, by dsimp only; omega⟩ (by dsimp only; omega) ⟨⟨_, rfl, wk1 (by omega)⟩, trivial⟩ (St.le_any hS1 hid5)
    · obtain ⟨f1, f2, f3⟩ := dropc hd1
      have h5 := get_map tc f3
      rw [hd1, List.filter_cons] at hg1
      repeat' (first|(first|(refine jl ?_;first|refine jbl ?_|refine j1 ?_|refine j4 ?_|refine j6 ?_|refine j14 ?_|refine ji1 ?_)|(refine al ?_;first|refine da_nil ?_|refine abl ?_|refine a1 ?_|refine a14 ?_|refine ai1 ?_|refine alit ?_)|refine al_nil ?_|(refine jc ?_;first|refine c1 ?_|refine c2 ?_|refine c5 ?_|refine c6 ?_|refine cqe 12 false ?_)|refine n1 ?_|refine n10 ?_)|(refine c9 (fun h=>?_) (fun h=>?_)<;>((try simp only [Bool.or_eq_true, Bool.and_eq_true, Bool.or_eq_false_iff, Bool.and_eq_false_iff, Bool.not_eq_true', Bool.not_eq_false', decide_eq_true_eq, decide_eq_false_iff_not, Bool.false_eq_true, Bool.true_eq_false, reduceCtorEq] at h) <;> (try simp (disch := omega) only [sb_bt, w64, Int.reduceAdd, Int.reduceToNat, Int.toNat_natCast, not_true_eq_false, false_or] at h) <;> (try (exfalso; omega)))))
      · rw [if_pos (show keepT y = true from decide_eq_true h)] at hg1
        have hn1 : (ts.map tc).length = ts.length := List.length_map ..
        have hall : (ts.map tc).take ts.length ++ [tc y] = (ts ++ [y]).map tc := by rw [List.take_of_length_le (by omega), List.map_append]; rfl
        refine bapo (n := ts.length) (m := ts.length + 1) (news := [tc y]) (fun w2 hw2 => ?_) hall rfl (hn := by omega) (hb := by dsimp only [List.length]; omega)
        have hw2' : τ1 w2 = none := St.ns2 hw2
        have n25w : w2 ≠ bb5 := St.ne_some hw2' u5
        refine b1 ?_
        refine b17 (hσ := by rw [St.set_ne' _ _ _ n25w, St.del_ne m5]; exact St.set_same _ _ _) ?_
        repeat (first|(refine jl ?_;first|refine j1 ?_|refine j6 ?_)|(refine bl ?_;first|refine db_nil ?_)|(refine jc ?_;first|refine c2 ?_)|refine n1 ?_|refine n10 ?_)
        refine nx_forS (k + 1, w2, ts ++ [y]) ⟨by dsimp only; omega, hw2', by dsimp only; rw [f2, List.append_assoc]; exact hg1, by dsimp only; rw [List.length_append, List.length_singleton]; omega⟩ (by dsimp only; omega) ⟨⟨_, rfl, wk1 (by omega)⟩, trivial⟩ ?_
        dsimp only
        rw [List.length_append, List.length_singleton]
        exact St.le_set2 (St.leX_same (St.leX_setk (St.leX_del (St.leX_same (St.leX_any (St.leX_refl _ _) hwt)) hwt))) (St.set_same _ _ _)
      · rw [if_neg (show ¬ keepT y = true by rw [keepT, decide_eq_true_eq]; exact h)] at hg1
        exact nx_forS (k + 1, wt, ts) ⟨by dsimp only; omega, hwt, by dsimp only; rw [f2]; exact hg1, by dsimp only; omega⟩ (by dsimp only; omega) ⟨⟨_, rfl, wk1 (by omega)⟩, trivial⟩ (St.le_refl _)
end Go.Proofs.YtddljegbggncdaaDoor.Ab

/- Facts changed: the call itself. -/
set_option linter.unusedVariables false
set_option linter.unusedSimpArgs false
set_option maxRecDepth 20000
namespace Go.Proofs.YtddljegbggncdaaDoor.Ab
open Go
attribute [local irreducible] thn inb endR CJ LJ OpJ DJ DA DB AllocK

def withGo (ns : List ByteArray) : List Bd → List Bd → List Vl → Int × List Vl
  | _, [], vs => (0, vs)
  | d, b :: r, vs => if attrB b.name ns = false then (19, []) else if d.any (isB b.name) = true then (7, []) else if valE b.val = 0 then withGo ns (d ++ [b]) r (vs.set (attrN b.name ns).toNat b.val) else (valE b.val, [])
def withR (l : List Cls) (f : Fc) (n : Int) (sets : List Bd) : Int × List Vl := if checkF l f ≠ 0 then (checkF l f, []) else if tagB n = false then (22, []) else withGo (ofC l f).attrs [] sets f.vals
def noF : Fc := ⟨0, ⟨#[]⟩, []⟩
def withF (l : List Cls) (f : Fc) (n : Int) (sets : List Bd) : Fc := if (withR l f n sets).1 = 0 then ⟨n, f.cls, (withR l f n sets).2⟩ else noF
theorem firstE_zero : ∀ {l : List Vl}, firstE l = 0 → ∀ v ∈ l, valE v = 0
  | [], _, v, h => by cases h
  | x :: r, h, v, hv => by
    rw [firstE] at h
    by_cases hx : valE x = 0
    · rw [if_pos hx] at h
      rcases List.mem_cons.1 hv with rfl | hv
      · exact hx
      · exact firstE_zero h v hv
    · rw [if_neg hx] at h; exact absurd h hx
theorem firstE_of : ∀ {l : List Vl}, (∀ v ∈ l, valE v = 0) → firstE l = 0
  | [], _ => rfl
  | x :: r, h => by rw [firstE, if_pos (h x (.head _))]; exact firstE_of fun v hv => h v (.tail _ hv)
theorem checkF_zero {l : List Cls} {f : Fc} (h : checkF l f = 0) : tagB f.tag = true ∧ ∃ c, findC f.cls l = some c ∧ ofC l f = c ∧ f.vals.length = c.attrs.length ∧ ∀ v ∈ f.vals, valE v = 0 := by
  unfold checkF at h
  by_cases ht : tagB f.tag = false
  · rw [if_pos ht] at h; cases h
  · rw [if_neg ht] at h
    rw [Bool.not_eq_false] at ht
    cases hc : findC f.cls l with
    | none => rw [hc] at h; cases h
    | some c =>
      rw [hc] at h
      dsimp only at h
      by_cases hl : f.vals.length ≠ c.attrs.length
      · rw [if_pos hl] at h; cases h
      · rw [if_neg hl] at h
        refine ⟨ht, c, rfl, ?_, by omega, firstE_zero h⟩
        rw [ofC, if_neg (by simp [ht]), hc]; rfl
theorem attrI_lt {nm : ByteArray} {l : List ByteArray} (h : attrB nm l = true) : 0 ≤ attrN nm l ∧ attrN nm l < l.length := by
  unfold attrB at h
  rw [decide_eq_true_eq] at h
  unfold attrN
  rw [if_neg (by omega)]
  refine ⟨h, ?_⟩
  obtain ⟨j, x, h1, h2, _⟩ := idxG_get (isS nm) l 0 h
  have := (List.getElem?_eq_some_iff.1 h2).1
  unfold attrI
  rw [h1]
  omega
theorem map_set {α β : Type} (f : α → β) (l : List α) (i : Nat) (x : α) : (l.set i x).map f = (l.map f).set i (f x) := by
  rw [List.map_set]
end Go.Proofs.YtddljegbggncdaaDoor.Ab
