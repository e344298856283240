/- The texts V1, C1, V2, V3, Shelf, V4, V5, V6, V7, V8, V9, VA, one behind the other. -/
import Derived.Test.YtcpokdjppedaoaaDoorM1
import Derived.Test.YtcpokdjppedaoaaDoorM2
import Derived.Test.YtcpokdjppedaoaaDoorM3
import Derived.Test.YtcpokdjppedaoaaDoorM4
import Derived.Test.YtcpokdjppedaoaaDoorProg
import Derived.Shelf.Unicode.ValidAny
import Derived.Lib.DecodeN
import Derived.Lib.TrimUEq
import Derived.Lib.ValidLaws
/- Values: what two of them are asked; how they are made. -/
set_option linter.unusedVariables false
set_option linter.unusedSimpArgs false
set_option maxRecDepth 20000
namespace Go.Proofs.YtcpokdjppedaoaaDoor.Ab
open Go
attribute [local irreducible] thn inb endR CJ LJ OpJ DJ

theorem St.le_set2' {σ : St} {a b : Nat} {x y : AObj} (ha : σ a = none) (hb : (σ.set a x) b = none) : σ.le ((σ.set a x).set b y) := St.le_trans (St.le_set _ ha) (St.le_set _ hb)
abbrev vv (k n : Int) (s : ByteArray) : AV := .agg [.v (.int .u8 k), .v (.int .i64 n), .v (.string s)]
def sameV (k n : Int) (s : ByteArray) (k' n' : Int) (s' : ByteArray) : Bool := decide (k = k') && (decide (n = n') && (decide (s = s') && true))
def holdsV (p k n : Int) (s : ByteArray) (k' n' : Int) (s' : ByteArray) : Bool :=
  if p = 0 then sameV k n s k' n' s' else if p = 1 then !sameV k n s k' n' s' else if k ≠ 1 ∨ k' ≠ 1 then false else
  if p = 2 then decide (n < n') else if p = 3 then decide (n ≤ n') else if p = 4 then decide (n' < n) else if p = 5 then decide (n' ≤ n) else false
theorem guard_vv : Tryd.prog.eqGuardType Tryd.prog.depth 42 = false := by kernel_rfl
theorem eq_vv (k n : Int) (s : ByteArray) (k' n' : Int) (s' : ByteArray) : eqV Tryd.prog 5 42 (vv k n s) (vv k' n' s') = some (sameV k n s k' n' s') := by rfl
theorem p_holds (p k n : Int) (s : ByteArray) (k' n' : Int) (s' : ByteArray) : Pure Tryd.prog 89 [.v (.int .u8 p), vv k n s, vv k' n' s'] (.v (.bool (holdsV p k n s k' n' s'))) := by
  refine enterW Tryd.func89 rfl rfl rfl rfl (fun σ => ?_)
  repeat' (first|(first|(refine jl ?_;first|refine j7 ?_|refine j8 ?_|refine j10 ?_|refine j11 ?_|refine jtf ?_|refine jb ?_|refine jbl ?_|refine j1 ?_|refine j2 ?_|refine j3 ?_|refine j3f ?_|refine j4 ?_|refine j5 ?_|refine j6 ?_|refine j9 ?_|refine j12 (fun id hid=>?_)|refine j13 (fun id hid=>?_)|refine j14 ?_|refine j15 ?_|refine j17t ?_|refine j17 ?_|refine j16 ?_|refine j18 ?_|refine j19 ?_|refine j20 ?_|refine j21 ?_|refine j23 ?_|refine j24 ?_|refine j25 ?_|refine j26 ?_|refine jeq ?_|refine jeqq ?_|refine jne ?_|refine jneq ?_|refine jxe ?_|refine jxn ?_|refine jcbq ?_|refine ji1 ?_|refine ji2 ?_|refine ji3 ?_|refine ji4 ?_|refine ji5 ?_|refine ji6 ?_|refine j22 (fun id hid=>?_)|refine jlit ?_|refine jmk ?_|refine jap ?_)|(refine dl ?_;first|refine d7 ?_|refine d8 ?_|refine d10 ?_|refine d11 ?_|refine dtf ?_|refine dbd ?_|refine dbl ?_|refine d1 ?_|refine d2 ?_|refine d3 ?_|refine d3f ?_|refine d4 ?_|refine d9 ?_|refine d14 ?_|refine d14a ?_|refine d15 ?_|refine d16 ?_|refine d18 ?_|refine d19 ?_|refine d20 ?_|refine d21 ?_|refine d25 ?_|refine d17 ?_|refine deq ?_|refine deqq ?_|refine dne ?_|refine dneq ?_|refine dxe ?_|refine dxn ?_|refine dcb ?_|refine dcbq ?_|refine di1 ?_|refine di2 ?_|refine di3 ?_|refine di4 ?_|refine di6 ?_)|(refine al ?_;first|refine a7 ?_|refine a8 ?_|refine a10 ?_|refine a11 ?_|refine abd ?_|refine abl ?_|refine a1 ?_|refine a2 ?_|refine a3 ?_|refine a3f ?_|refine a9 ?_|refine a14 ?_|refine a15 ?_|refine a16 ?_|refine a18 ?_|refine a21 ?_|refine a25 ?_|refine ai1 ?_|refine ai2 ?_|refine ai3 ?_|refine ai4 ?_|refine ai6 ?_|refine alit ?_|refine da_skip ?_|refine da_nil ?_)|(refine bl ?_;first|refine bbd ?_|refine bbl ?_|refine b1 ?_|refine b14 ?_|refine b17t ?_|refine b17 ?_|refine b25 ?_|refine db_nil ?_)|refine al_cons (fun id hid=>?_)|refine al_nil ?_|(refine jc ?_;first|refine c1 ?_|refine c2 ?_|refine c3 ?_|refine c4 ?_|refine c5 ?_|refine c6 ?_|refine c7 ?_|refine c8 ?_|refine cqa ?_|refine cqk ?_|refine cq ?_)|refine n1 ?_|refine n2 ?_|refine n3 ?_|refine n4 ?_|refine n5 ?_|refine n6 ?_|refine n7 ?_|refine n8 ?_|refine n9 ?_|refine n10 ?_|refine n13 ?_|refine n11 ?_|refine n12 ?_|refine n14 ?_|refine n15 ?_|refine n16 ?_)|(refine c9 (fun h=>?_) (fun h=>?_)<;>(try simp only [Bool.or_eq_true, Bool.and_eq_true, Bool.or_eq_false_iff, Bool.and_eq_false_iff, Bool.not_eq_true', Bool.not_eq_false', decide_eq_true_eq, decide_eq_false_iff_not, Bool.false_eq_true, Bool.true_eq_false, reduceCtorEq] at h)))
  all_goals exact ge (by simp_all [holdsV, sameV, packed])
theorem p_rholds (p k n : Int) (s : ByteArray) (k' n' : Int) (s' : ByteArray) : Pure Tryd.prog 69 [.v (.int .u8 p), vv k n s, vv k' n' s'] (.v (.bool (holdsV p k n s k' n' s'))) := by
  refine enterW Tryd.func69 rfl rfl rfl rfl (fun σ => ?_)
  repeat' (first|(first|(refine jl ?_;first|refine j7 ?_|refine j8 ?_|refine j10 ?_|refine j11 ?_|refine jtf ?_|refine jb ?_|refine jbl ?_|refine j1 ?_|refine j2 ?_|refine j3 ?_|refine j3f ?_|refine j4 ?_|refine j5 ?_|refine j6 ?_|refine j9 ?_|refine j12 (fun id hid=>?_)|refine j13 (fun id hid=>?_)|refine j14 ?_|refine j15 ?_|refine j17t ?_|refine j17 ?_|refine j16 ?_|refine j18 ?_|refine j19 ?_|refine j20 ?_|refine j21 ?_|refine j23 ?_|refine j24 ?_|refine j25 ?_|refine j26 ?_|refine jeq ?_|refine jeqq ?_|refine jne ?_|refine jneq ?_|refine jxe ?_|refine jxn ?_|refine jcbq ?_|refine ji1 ?_|refine ji2 ?_|refine ji3 ?_|refine ji4 ?_|refine ji5 ?_|refine ji6 ?_|refine j22 (fun id hid=>?_)|refine jlit ?_|refine jmk ?_|refine jap ?_)|(refine dl ?_;first|refine d7 ?_|refine d8 ?_|refine d10 ?_|refine d11 ?_|refine dtf ?_|refine dbd ?_|refine dbl ?_|refine d1 ?_|refine d2 ?_|refine d3 ?_|refine d3f ?_|refine d4 ?_|refine d9 ?_|refine d14 ?_|refine d14a ?_|refine d15 ?_|refine d16 ?_|refine d18 ?_|refine d19 ?_|refine d20 ?_|refine d21 ?_|refine d25 ?_|refine d17 ?_|refine deq ?_|refine deqq ?_|refine dne ?_|refine dneq ?_|refine dxe ?_|refine dxn ?_|refine dcb ?_|refine dcbq ?_|refine di1 ?_|refine di2 ?_|refine di3 ?_|refine di4 ?_|refine di6 ?_)|(refine al ?_;first|refine a7 ?_|refine a8 ?_|refine a10 ?_|refine a11 ?_|refine abd ?_|refine abl ?_|refine a1 ?_|refine a2 ?_|refine a3 ?_|refine a3f ?_|refine a9 ?_|refine a14 ?_|refine a15 ?_|refine a16 ?_|refine a18 ?_|refine a21 ?_|refine a25 ?_|refine ai1 ?_|refine ai2 ?_|refine ai3 ?_|refine ai4 ?_|refine ai6 ?_|refine alit ?_|refine da_skip ?_|refine da_nil ?_)|(refine bl ?_;first|refine bbd ?_|refine bbl ?_|refine b1 ?_|refine b14 ?_|refine b17t ?_|refine b17 ?_|refine b25 ?_|refine db_nil ?_)|refine al_cons (fun id hid=>?_)|refine al_nil ?_|(refine jc ?_;first|refine c1 ?_|refine c2 ?_|refine c3 ?_|refine c4 ?_|refine c5 ?_|refine c6 ?_|refine c7 ?_|refine c8 ?_|refine cqa ?_|refine cqk ?_|refine cq ?_)|refine n1 ?_|refine n2 ?_|refine n3 ?_|refine n4 ?_|refine n5 ?_|refine n6 ?_|refine n7 ?_|refine n8 ?_|refine n9 ?_|refine n10 ?_|refine n13 ?_|refine n11 ?_|refine n12 ?_|refine n14 ?_|refine n15 ?_|refine n16 ?_)|(refine c9 (fun h=>?_) (fun h=>?_)<;>(try simp only [Bool.or_eq_true, Bool.and_eq_true, Bool.or_eq_false_iff, Bool.and_eq_false_iff, Bool.not_eq_true', Bool.not_eq_false', decide_eq_true_eq, decide_eq_false_iff_not, Bool.false_eq_true, Bool.true_eq_false, reduceCtorEq] at h)))
  all_goals exact ge (by simp_all [holdsV, sameV, packed])
def signS (p : Int) : ByteArray := if p = 0 then ⟨#[61]⟩ else if p = 1 then ⟨#[60, 62]⟩ else if p = 2 then ⟨#[60]⟩ else if p = 3 then ⟨#[60, 61]⟩ else if p = 4 then ⟨#[62]⟩ else if p = 5 then ⟨#[62, 61]⟩ else ⟨#[]⟩
end Go.Proofs.YtcpokdjppedaoaaDoor.Ab

/- Classes and facts: data, and what is found. -/
set_option linter.unusedVariables false
set_option linter.unusedSimpArgs false
set_option maxRecDepth 20000
namespace Go.Proofs.YtcpokdjppedaoaaDoor.Ab
open Go
attribute [local irreducible] thn inb endR CJ LJ OpJ DJ

structure Vl where
  k : Int
  n : Int
  s : ByteArray
  deriving DecidableEq
structure Cls where
  name : ByteArray
  attrs : List ByteArray
structure Fc where
  tag : Int
  cls : ByteArray
  vals : List Vl
structure Bd where
  name : ByteArray
  val : Vl
abbrev vc (v : Vl) : List AV := [.v (.int .u8 v.k), .v (.int .i64 v.n), .v (.string v.s)]
abbrev str1 (s : ByteArray) : List AV := [.v (.string s)]
abbrev cc (c : Cls) : List AV := [.v (.string c.name), .sl none false 1 (c.attrs.map str1)]
abbrev fc (f : Fc) : List AV := [.v (.int .i64 f.tag), .v (.string f.cls), .sl none false 3 (f.vals.map vc)]
abbrev bc (b : Bd) : List AV := [.v (.string b.name), .v (.int .u8 b.val.k), .v (.int .i64 b.val.n), .v (.string b.val.s)]
def noS : ByteArray := ⟨#[]⟩
def noC : Cls := ⟨⟨#[]⟩, []⟩
def noV : Vl := ⟨0, 0, ⟨#[]⟩⟩
def isC (nm : ByteArray) (c : Cls) : Bool := decide (c.name = nm)
def isS (nm : ByteArray) (s : ByteArray) : Bool := decide (s = nm)
def isB (nm : ByteArray) (b : Bd) : Bool := decide (b.name = nm)
def findC (nm : ByteArray) (l : List Cls) : Option Cls := l.find? (isC nm)
theorem p_rfind (nl : Option Bool) (full : Bool) (l : List Cls) (nm : ByteArray) : Pure Tryd.prog 43 [.sl nl full 2 (l.map cc), .v (.string nm)] (.tup [.agg (cc ((findC nm l).getD noC)), .v (.bool (findC nm l).isSome)]) := by
  refine enterW Tryd.func43 rfl rfl rfl rfl (fun σ => ?_)
  refine cj_len 0 (fun hm => ?_)
  have hn : (l.map cc).length = l.length := List.length_map ..
  repeat (first|(refine jl ?_;first|refine j7 ?_|refine j8 ?_|refine j10 ?_|refine j11 ?_|refine jtf ?_|refine jb ?_|refine jbl ?_|refine j1 ?_|refine j2 ?_|refine j3 ?_|refine j3f ?_|refine j4 ?_|refine j5 ?_|refine j6 ?_|refine j9 ?_|refine j12 (fun id hid=>?_)|refine j13 (fun id hid=>?_)|refine j14 ?_|refine j15 ?_|refine j17t ?_|refine j17 ?_|refine j16 ?_|refine j18 ?_|refine j19 ?_|refine j20 ?_|refine j21 ?_|refine j23 ?_|refine j24 ?_|refine j25 ?_|refine j26 ?_|refine jeq ?_|refine jeqq ?_|refine jne ?_|refine jneq ?_|refine jxe ?_|refine jxn ?_|refine jcbq ?_|refine ji1 ?_|refine ji2 ?_|refine ji3 ?_|refine ji4 ?_|refine ji5 ?_|refine ji6 ?_|refine j22 (fun id hid=>?_)|refine jlit ?_|refine jmk ?_|refine jap ?_)|(refine dl ?_;first|refine d7 ?_|refine d8 ?_|refine d10 ?_|refine d11 ?_|refine dtf ?_|refine dbd ?_|refine dbl ?_|refine d1 ?_|refine d2 ?_|refine d3 ?_|refine d3f ?_|refine d4 ?_|refine d9 ?_|refine d14 ?_|refine d14a ?_|refine d15 ?_|refine d16 ?_|refine d18 ?_|refine d19 ?_|refine d20 ?_|refine d21 ?_|refine d25 ?_|refine d17 ?_|refine deq ?_|refine deqq ?_|refine dne ?_|refine dneq ?_|refine dxe ?_|refine dxn ?_|refine dcb ?_|refine dcbq ?_|refine di1 ?_|refine di2 ?_|refine di3 ?_|refine di4 ?_|refine di6 ?_)|(refine al ?_;first|refine a7 ?_|refine a8 ?_|refine a10 ?_|refine a11 ?_|refine abd ?_|refine abl ?_|refine a1 ?_|refine a2 ?_|refine a3 ?_|refine a3f ?_|refine a9 ?_|refine a14 ?_|refine a15 ?_|refine a16 ?_|refine a18 ?_|refine a21 ?_|refine a25 ?_|refine ai1 ?_|refine ai2 ?_|refine ai3 ?_|refine ai4 ?_|refine ai6 ?_|refine alit ?_|refine da_skip ?_|refine da_nil ?_)|(refine bl ?_;first|refine bbd ?_|refine bbl ?_|refine b1 ?_|refine b14 ?_|refine b17t ?_|refine b17 ?_|refine b25 ?_|refine db_nil ?_)|refine al_cons (fun id hid=>?_)|refine al_nil ?_|(refine jc ?_;first|refine c1 ?_|refine c2 ?_|refine c3 ?_|refine c4 ?_|refine c5 ?_|refine c6 ?_|refine c7 ?_|refine c8 ?_|refine cqa ?_|refine cqk ?_|refine cq ?_)|refine n1 ?_|refine n2 ?_|refine n3 ?_|refine n4 ?_|refine n5 ?_|refine n6 ?_|refine n7 ?_|refine n8 ?_|refine n9 ?_|refine n10 ?_|refine n13 ?_|refine n11 ?_|refine n12 ?_|refine n14 ?_|refine n15 ?_|refine n16 ?_)
  refine cj_fors (fun i : Nat => findC nm (l.drop i) = findC nm l) (fun i => [(6, .v (.int .i64 i))]) (fun i => l.length - i) 0 rfl ⟨⟨_, rfl, fun _ _ h => h⟩, trivial⟩ (fun i hi => ?_)
  rcases hd : l.drop i with _ | ⟨x, r⟩
  · have h0 := dropn hd
    repeat' (first|(first|(refine jl ?_;first|refine j7 ?_|refine j8 ?_|refine j10 ?_|refine j11 ?_|refine jtf ?_|refine jb ?_|refine jbl ?_|refine j1 ?_|refine j2 ?_|refine j3 ?_|refine j3f ?_|refine j4 ?_|refine j5 ?_|refine j6 ?_|refine j9 ?_|refine j12 (fun id hid=>?_)|refine j13 (fun id hid=>?_)|refine j14 ?_|refine j15 ?_|refine j17t ?_|refine j17 ?_|refine j16 ?_|refine j18 ?_|refine j19 ?_|refine j20 ?_|refine j21 ?_|refine j23 ?_|refine j24 ?_|refine j25 ?_|refine j26 ?_|refine jeq ?_|refine jeqq ?_|refine jne ?_|refine jneq ?_|refine jxe ?_|refine jxn ?_|refine jcbq ?_|refine ji1 ?_|refine ji2 ?_|refine ji3 ?_|refine ji4 ?_|refine ji5 ?_|refine ji6 ?_|refine j22 (fun id hid=>?_)|refine jlit ?_|refine jmk ?_|refine jap ?_)|(refine dl ?_;first|refine d7 ?_|refine d8 ?_|refine d10 ?_|refine d11 ?_|refine dtf ?_|refine dbd ?_|refine dbl ?_|refine d1 ?_|refine d2 ?_|refine d3 ?_|refine d3f ?_|refine d4 ?_|refine d9 ?_|refine d14 ?_|refine d14a ?_|refine d15 ?_|refine d16 ?_|refine d18 ?_|refine d19 ?_|refine d20 ?_|refine d21 ?_|refine d25 ?_|refine d17 ?_|refine deq ?_|refine deqq ?_|refine dne ?_|refine dneq ?_|refine dxe ?_|refine dxn ?_|refine dcb ?_|refine dcbq ?_|refine di1 ?_|refine di2 ?_|refine di3 ?_|refine di4 ?_|refine di6 ?_)|(refine al ?_;first|refine a7 ?_|refine a8 ?_|refine a10 ?_|refine a11 ?_|refine abd ?_|refine abl ?_|refine a1 ?_|refine a2 ?_|refine a3 ?_|refine a3f ?_|refine a9 ?_|refine a14 ?_|refine a15 ?_|refine a16 ?_|refine a18 ?_|refine a21 ?_|refine a25 ?_|refine ai1 ?_|refine ai2 ?_|refine ai3 ?_|refine ai4 ?_|refine ai6 ?_|refine alit ?_|refine da_skip ?_|refine da_nil ?_)|(refine bl ?_;first|refine bbd ?_|refine bbl ?_|refine b1 ?_|refine b14 ?_|refine b17t ?_|refine b17 ?_|refine b25 ?_|refine db_nil ?_)|refine al_cons (fun id hid=>?_)|refine al_nil ?_|(refine jc ?_;first|refine c1 ?_|refine c2 ?_|refine c3 ?_|refine c4 ?_|refine c5 ?_|refine c6 ?_|refine c7 ?_|refine c8 ?_|refine cqa ?_|refine cqk ?_|refine cq ?_)|refine n1 ?_|refine n2 ?_|refine n3 ?_|refine n4 ?_|refine n5 ?_|refine n6 ?_|refine n7 ?_|refine n8 ?_|refine n9 ?_|refine n10 ?_|refine n13 ?_|refine n11 ?_|refine n12 ?_|refine n14 ?_|refine n15 ?_|refine n16 ?_)|(refine c9 (fun h=>?_) (fun h=>?_)<;>((try simp only [Bool.or_eq_true, Bool.and_eq_true, Bool.or_eq_false_iff, Bool.and_eq_false_iff, Bool.not_eq_true', Bool.not_eq_false', decide_eq_true_eq, decide_eq_false_iff_not, Bool.false_eq_true, Bool.true_eq_false, reduceCtorEq] at h) <;> (try simp (disch := omega) only [sb_bt, w64, Int.reduceAdd, Int.reduceToNat, Int.toNat_natCast, not_true_eq_false, false_or] at h) <;> (try (exfalso; omega)))))
    rw [← hi, hd]
    exact gvs (fin_two (.wk (Wk.agg ⟨Wk.refl _, Wk.sl _ _ _ _, trivial⟩)) (Fin.refl _ _ _))
  · obtain ⟨h1, h2, h3⟩ := dropc hd
    have h4 := get_map cc h3
    rw [hd] at hi
    repeat' (first|(first|(refine jl ?_;first|refine j7 ?_|refine j8 ?_|refine j10 ?_|refine j11 ?_|refine jtf ?_|refine jb ?_|refine jbl ?_|refine j1 ?_|refine j2 ?_|refine j3 ?_|refine j3f ?_|refine j4 ?_|refine j5 ?_|refine j6 ?_|refine j9 ?_|refine j12 (fun id hid=>?_)|refine j13 (fun id hid=>?_)|refine j14 ?_|refine j15 ?_|refine j17t ?_|refine j17 ?_|refine j16 ?_|refine j18 ?_|refine j19 ?_|refine j20 ?_|refine j21 ?_|refine j23 ?_|refine j24 ?_|refine j25 ?_|refine j26 ?_|refine jeq ?_|refine jeqq ?_|refine jne ?_|refine jneq ?_|refine jxe ?_|refine jxn ?_|refine jcbq ?_|refine ji1 ?_|refine ji2 ?_|refine ji3 ?_|refine ji4 ?_|refine ji5 ?_|refine ji6 ?_|refine j22 (fun id hid=>?_)|refine jlit ?_|refine jmk ?_|refine jap ?_)|(refine dl ?_;first|refine d7 ?_|refine d8 ?_|refine d10 ?_|refine d11 ?_|refine dtf ?_|refine dbd ?_|refine dbl ?_|refine d1 ?_|refine d2 ?_|refine d3 ?_|refine d3f ?_|refine d4 ?_|refine d9 ?_|refine d14 ?_|refine d14a ?_|refine d15 ?_|refine d16 ?_|refine d18 ?_|refine d19 ?_|refine d20 ?_|refine d21 ?_|refine d25 ?_|refine d17 ?_|refine deq ?_|refine deqq ?_|refine dne ?_|refine dneq ?_|refine dxe ?_|refine dxn ?_|refine dcb ?_|refine dcbq ?_|refine di1 ?_|refine di2 ?_|refine di3 ?_|refine di4 ?_|refine di6 ?_)|(refine al ?_;first|refine a7 ?_|refine a8 ?_|refine a10 ?_|refine a11 ?_|refine abd ?_|refine abl ?_|refine a1 ?_|refine a2 ?_|refine a3 ?_|refine a3f ?_|refine a9 ?_|refine a14 ?_|refine a15 ?_|refine a16 ?_|refine a18 ?_|refine a21 ?_|refine a25 ?_|refine ai1 ?_|refine ai2 ?_|refine ai3 ?_|refine ai4 ?_|refine ai6 ?_|refine alit ?_|refine da_skip ?_|refine da_nil ?_)|(refine bl ?_;first|refine bbd ?_|refine bbl ?_|refine b1 ?_|refine b14 ?_|refine b17t ?_|refine b17 ?_|refine b25 ?_|refine db_nil ?_)|refine al_cons (fun id hid=>?_)|refine al_nil ?_|(refine jc ?_;first|refine c1 ?_|refine c2 ?_|refine c3 ?_|refine c4 ?_|refine c5 ?_|refine c6 ?_|refine c7 ?_|refine c8 ?_|refine cqa ?_|refine cqk ?_|refine cq ?_)|refine n1 ?_|refine n2 ?_|refine n3 ?_|refine n4 ?_|refine n5 ?_|refine n6 ?_|refine n7 ?_|refine n8 ?_|refine n9 ?_|refine n10 ?_|refine n13 ?_|refine n11 ?_|refine n12 ?_|refine n14 ?_|refine n15 ?_|refine n16 ?_)|(refine c9 (fun h=>?_) (fun h=>?_)<;>((try simp only [Bool.or_eq_true, Bool.and_eq_true, Bool.or_eq_false_iff, Bool.and_eq_false_iff, Bool.not_eq_true', Bool.not_eq_false', decide_eq_true_eq, decide_eq_false_iff_not, Bool.false_eq_true, Bool.true_eq_false, reduceCtorEq] at h) <;> (try simp (disch := omega) only [sb_bt, w64, Int.reduceAdd, Int.reduceToNat, Int.toNat_natCast, not_true_eq_false, false_or] at h) <;> (try (exfalso; omega)))))
    · have : findC nm l = some x := by rw [← hi]; simp [findC, isC, h]
      rw [this]
      exact ge rfl
    · exact nx_for (i + 1) (by rw [h2, ← hi]; simp [findC, isC, h]) (by omega) ⟨⟨_, rfl, wk1 (by omega)⟩, trivial⟩
def attrI (nm : ByteArray) (l : List ByteArray) : Int := idxG (isS nm) l 0
def attrN (nm : ByteArray) (l : List ByteArray) : Int := if attrI nm l < 0 then 0 else attrI nm l
def attrB (nm : ByteArray) (l : List ByteArray) : Bool := decide (0 ≤ attrI nm l)
theorem p_rattr (c : Cls) (nm : ByteArray) : Pure Tryd.prog 51 [.agg (cc c), .v (.string nm)] (.tup [.v (.int .i64 (attrN nm c.attrs)), .v (.bool (attrB nm c.attrs))]) := by
  refine enterW Tryd.func51 rfl rfl rfl rfl (fun σ => ?_)
  obtain ⟨cn, l⟩ := c
  refine cj_lenA 0 1 (fun hm : (l.map str1).length ≤ _ => ?_)
  have hn : (l.map str1).length = l.length := List.length_map ..
  repeat (first|(refine jl ?_;first|refine j7 ?_|refine j8 ?_|refine j10 ?_|refine j11 ?_|refine jtf ?_|refine jb ?_|refine jbl ?_|refine j1 ?_|refine j2 ?_|refine j3 ?_|refine j3f ?_|refine j4 ?_|refine j5 ?_|refine j6 ?_|refine j9 ?_|refine j12 (fun id hid=>?_)|refine j13 (fun id hid=>?_)|refine j14 ?_|refine j15 ?_|refine j17t ?_|refine j17 ?_|refine j16 ?_|refine j18 ?_|refine j19 ?_|refine j20 ?_|refine j21 ?_|refine j23 ?_|refine j24 ?_|refine j25 ?_|refine j26 ?_|refine jeq ?_|refine jeqq ?_|refine jne ?_|refine jneq ?_|refine jxe ?_|refine jxn ?_|refine jcbq ?_|refine ji1 ?_|refine ji2 ?_|refine ji3 ?_|refine ji4 ?_|refine ji5 ?_|refine ji6 ?_|refine j22 (fun id hid=>?_)|refine jlit ?_|refine jmk ?_|refine jap ?_)|(refine dl ?_;first|refine d7 ?_|refine d8 ?_|refine d10 ?_|refine d11 ?_|refine dtf ?_|refine dbd ?_|refine dbl ?_|refine d1 ?_|refine d2 ?_|refine d3 ?_|refine d3f ?_|refine d4 ?_|refine d9 ?_|refine d14 ?_|refine d14a ?_|refine d15 ?_|refine d16 ?_|refine d18 ?_|refine d19 ?_|refine d20 ?_|refine d21 ?_|refine d25 ?_|refine d17 ?_|refine deq ?_|refine deqq ?_|refine dne ?_|refine dneq ?_|refine dxe ?_|refine dxn ?_|refine dcb ?_|refine dcbq ?_|refine di1 ?_|refine di2 ?_|refine di3 ?_|refine di4 ?_|refine di6 ?_)|(refine al ?_;first|refine a7 ?_|refine a8 ?_|refine a10 ?_|refine a11 ?_|refine abd ?_|refine abl ?_|refine a1 ?_|refine a2 ?_|refine a3 ?_|refine a3f ?_|refine a9 ?_|refine a14 ?_|refine a15 ?_|refine a16 ?_|refine a18 ?_|refine a21 ?_|refine a25 ?_|refine ai1 ?_|refine ai2 ?_|refine ai3 ?_|refine ai4 ?_|refine ai6 ?_|refine alit ?_|refine da_skip ?_|refine da_nil ?_)|(refine bl ?_;first|refine bbd ?_|refine bbl ?_|refine b1 ?_|refine b14 ?_|refine b17t ?_|refine b17 ?_|refine b25 ?_|refine db_nil ?_)|refine al_cons (fun id hid=>?_)|refine al_nil ?_|(refine jc ?_;first|refine c1 ?_|refine c2 ?_|refine c3 ?_|refine c4 ?_|refine c5 ?_|refine c6 ?_|refine c7 ?_|refine c8 ?_|refine cqa ?_|refine cqk ?_|refine cq ?_)|refine n1 ?_|refine n2 ?_|refine n3 ?_|refine n4 ?_|refine n5 ?_|refine n6 ?_|refine n7 ?_|refine n8 ?_|refine n9 ?_|refine n10 ?_|refine n13 ?_|refine n11 ?_|refine n12 ?_|refine n14 ?_|refine n15 ?_|refine n16 ?_)
  refine cj_fors (fun i : Nat => idxG (isS nm) (l.drop i) i = attrI nm l) (fun i => [(6, .v (.int .i64 i))]) (fun i => l.length - i) 0 rfl ⟨⟨_, rfl, fun _ _ h => h⟩, trivial⟩ (fun i hi => ?_)
  rcases hd : l.drop i with _ | ⟨x, r⟩
  · have h0 := dropn hd
    rw [hd, idxG] at hi
    repeat' (first|(first|(refine jl ?_;first|refine j7 ?_|refine j8 ?_|refine j10 ?_|refine j11 ?_|refine jtf ?_|refine jb ?_|refine jbl ?_|refine j1 ?_|refine j2 ?_|refine j3 ?_|refine j3f ?_|refine j4 ?_|refine j5 ?_|refine j6 ?_|refine j9 ?_|refine j12 (fun id hid=>?_)|refine j13 (fun id hid=>?_)|refine j14 ?_|refine j15 ?_|refine j17t ?_|refine j17 ?_|refine j16 ?_|refine j18 ?_|refine j19 ?_|refine j20 ?_|refine j21 ?_|refine j23 ?_|refine j24 ?_|refine j25 ?_|refine j26 ?_|refine jeq ?_|refine jeqq ?_|refine jne ?_|refine jneq ?_|refine jxe ?_|refine jxn ?_|refine jcbq ?_|refine ji1 ?_|refine ji2 ?_|refine ji3 ?_|refine ji4 ?_|refine ji5 ?_|refine ji6 ?_|refine j22 (fun id hid=>?_)|refine jlit ?_|refine jmk ?_|refine jap ?_)|(refine dl ?_;first|refine d7 ?_|refine d8 ?_|refine d10 ?_|refine d11 ?_|refine dtf ?_|refine dbd ?_|refine dbl ?_|refine d1 ?_|refine d2 ?_|refine d3 ?_|refine d3f ?_|refine d4 ?_|refine d9 ?_|refine d14 ?_|refine d14a ?_|refine d15 ?_|refine d16 ?_|refine d18 ?_|refine d19 ?_|refine d20 ?_|refine d21 ?_|refine d25 ?_|refine d17 ?_|refine deq ?_|refine deqq ?_|refine dne ?_|refine dneq ?_|refine dxe ?_|refine dxn ?_|refine dcb ?_|refine dcbq ?_|refine di1 ?_|refine di2 ?_|refine di3 ?_|refine di4 ?_|refine di6 ?_)|(refine al ?_;first|refine a7 ?_|refine a8 ?_|refine a10 ?_|refine a11 ?_|refine abd ?_|refine abl ?_|refine a1 ?_|refine a2 ?_|refine a3 ?_|refine a3f ?_|refine a9 ?_|refine a14 ?_|refine a15 ?_|refine a16 ?_|refine a18 ?_|refine a21 ?_|refine a25 ?_|refine ai1 ?_|refine ai2 ?_|refine ai3 ?_|refine ai4 ?_|refine ai6 ?_|refine alit ?_|refine da_skip ?_|refine da_nil ?_)|(refine bl ?_;first|refine bbd ?_|refine bbl ?_|refine b1 ?_|refine b14 ?_|refine b17t ?_|refine b17 ?_|refine b25 ?_|refine db_nil ?_)|refine al_cons (fun id hid=>?_)|refine al_nil ?_|(refine jc ?_;first|refine c1 ?_|refine c2 ?_|refine c3 ?_|refine c4 ?_|refine c5 ?_|refine c6 ?_|refine c7 ?_|refine c8 ?_|refine cqa ?_|refine cqk ?_|refine cq ?_)|refine n1 ?_|refine n2 ?_|refine n3 ?_|refine n4 ?_|refine n5 ?_|refine n6 ?_|refine n7 ?_|refine n8 ?_|refine n9 ?_|refine n10 ?_|refine n13 ?_|refine n11 ?_|refine n12 ?_|refine n14 ?_|refine n15 ?_|refine n16 ?_)|(refine c9 (fun h=>?_) (fun h=>?_)<;>((try simp only [Bool.or_eq_true, Bool.and_eq_true, Bool.or_eq_false_iff, Bool.and_eq_false_iff, Bool.not_eq_true', Bool.not_eq_false', decide_eq_true_eq, decide_eq_false_iff_not, Bool.false_eq_true, Bool.true_eq_false, reduceCtorEq] at h) <;> (try simp (disch := omega) only [sb_bt, w64, Int.reduceAdd, Int.reduceToNat, Int.toNat_natCast, not_true_eq_false, false_or] at h) <;> (try (exfalso; omega)))))
    rw [attrN, attrB, ← hi]
    exact ge rfl
  · obtain ⟨h1, h2, h3⟩ := dropc hd
    have h4 := get_map str1 h3
    rw [hd, idxG] at hi
    repeat' (first|(first|(refine jl ?_;first|refine j7 ?_|refine j8 ?_|refine j10 ?_|refine j11 ?_|refine jtf ?_|refine jb ?_|refine jbl ?_|refine j1 ?_|refine j2 ?_|refine j3 ?_|refine j3f ?_|refine j4 ?_|refine j5 ?_|refine j6 ?_|refine j9 ?_|refine j12 (fun id hid=>?_)|refine j13 (fun id hid=>?_)|refine j14 ?_|refine j15 ?_|refine j17t ?_|refine j17 ?_|refine j16 ?_|refine j18 ?_|refine j19 ?_|refine j20 ?_|refine j21 ?_|refine j23 ?_|refine j24 ?_|refine j25 ?_|refine j26 ?_|refine jeq ?_|refine jeqq ?_|refine jne ?_|refine jneq ?_|refine jxe ?_|refine jxn ?_|refine jcbq ?_|refine ji1 ?_|refine ji2 ?_|refine ji3 ?_|refine ji4 ?_|refine ji5 ?_|refine ji6 ?_|refine j22 (fun id hid=>?_)|refine jlit ?_|refine jmk ?_|refine jap ?_)|(refine dl ?_;first|refine d7 ?_|refine d8 ?_|refine d10 ?_|refine d11 ?_|refine dtf ?_|refine dbd ?_|refine dbl ?_|refine d1 ?_|refine d2 ?_|refine d3 ?_|refine d3f ?_|refine d4 ?_|refine d9 ?_|refine d14 ?_|refine d14a ?_|refine d15 ?_|refine d16 ?_|refine d18 ?_|refine d19 ?_|refine d20 ?_|refine d21 ?_|refine d25 ?_|refine d17 ?_|refine deq ?_|refine deqq ?_|refine dne ?_|refine dneq ?_|refine dxe ?_|refine dxn ?_|refine dcb ?_|refine dcbq ?_|refine di1 ?_|refine di2 ?_|refine di3 ?_|refine di4 ?_|refine di6 ?_)|(refine al ?_;first|refine a7 ?_|refine a8 ?_|refine a10 ?_|refine a11 ?_|refine abd ?_|refine abl ?_|refine a1 ?_|refine a2 ?_|refine a3 ?_|refine a3f ?_|refine a9 ?_|refine a14 ?_|refine a15 ?_|refine a16 ?_|refine a18 ?_|refine a21 ?_|refine a25 ?_|refine ai1 ?_|refine ai2 ?_|refine ai3 ?_|refine ai4 ?_|refine ai6 ?_|refine alit ?_|refine da_skip ?_|refine da_nil ?_)|(refine bl ?_;first|refine bbd ?_|refine bbl ?_|refine b1 ?_|refine b14 ?_|refine b17t ?_|refine b17 ?_|refine b25 ?_|refine db_nil ?_)|refine al_cons (fun id hid=>?_)|refine al_nil ?_|(refine jc ?_;first|refine c1 ?_|refine c2 ?_|refine c3 ?_|refine c4 ?_|refine c5 ?_|refine c6 ?_|refine c7 ?_|refine c8 ?_|refine cqa ?_|refine cqk ?_|refine cq ?_)|refine n1 ?_|refine n2 ?_|refine n3 ?_|refine n4 ?_|refine n5 ?_|refine n6 ?_|refine n7 ?_|refine n8 ?_|refine n9 ?_|refine n10 ?_|refine n13 ?_|refine n11 ?_|refine n12 ?_|refine n14 ?_|refine n15 ?_|refine n16 ?_)|(refine c9 (fun h=>?_) (fun h=>?_)<;>((try simp only [Bool.or_eq_true, Bool.and_eq_true, Bool.or_eq_false_iff, Bool.and_eq_false_iff, Bool.not_eq_true', Bool.not_eq_false', decide_eq_true_eq, decide_eq_false_iff_not, Bool.false_eq_true, Bool.true_eq_false, reduceCtorEq] at h) <;> (try simp (disch := omega) only [sb_bt, w64, Int.reduceAdd, Int.reduceToNat, Int.toNat_natCast, not_true_eq_false, false_or] at h) <;> (try (exfalso; omega)))))
    · rw [if_pos (by simp [isS, h])] at hi
      rw [attrN, attrB, ← hi, if_neg (by omega), decide_eq_true (by omega)]
      exact ge rfl
    · rw [if_neg (by simp [isS, h]), ← h2] at hi
      exact nx_for (i + 1) hi (by omega) ⟨⟨_, rfl, wk1 (by omega)⟩, trivial⟩
theorem q_index_classes {σ : St} {f : FuncId} {caps : List AV} (g : Cls → Bool) (hent : entered Tryd.prog f = true) (nl : Option Bool) (full : Bool) (l : List Cls) (hf : ∀ x : Cls, ACalls Tryd.prog f ([.agg (cc x)] ++ caps) σ (fun e σ' => e = .ret (.v (.bool (g x))) ∧ σ' = σ)) : ACalls Tryd.prog 60 [.sl nl full 2 (l.map cc), .fn f caps] σ (fun e σ' => e = .ret (.v (.int .i64 (idxG g l 0))) ∧ σ' = σ) := by
  refine enterS Tryd.func60 rfl rfl rfl rfl ?_
  refine cj_len 0 (fun hm => ?_)
  have hn : (l.map cc).length = l.length := List.length_map ..
  repeat (first|(refine jl ?_;first|refine j7 ?_|refine j8 ?_|refine j10 ?_|refine j11 ?_|refine jtf ?_|refine jb ?_|refine jbl ?_|refine j1 ?_|refine j2 ?_|refine j3 ?_|refine j3f ?_|refine j4 ?_|refine j5 ?_|refine j6 ?_|refine j9 ?_|refine j12 (fun id hid=>?_)|refine j13 (fun id hid=>?_)|refine j14 ?_|refine j15 ?_|refine j17t ?_|refine j17 ?_|refine j16 ?_|refine j18 ?_|refine j19 ?_|refine j20 ?_|refine j21 ?_|refine j23 ?_|refine j24 ?_|refine j25 ?_|refine j26 ?_|refine jeq ?_|refine jeqq ?_|refine jne ?_|refine jneq ?_|refine jxe ?_|refine jxn ?_|refine jcbq ?_|refine ji1 ?_|refine ji2 ?_|refine ji3 ?_|refine ji4 ?_|refine ji5 ?_|refine ji6 ?_|refine j22 (fun id hid=>?_)|refine jlit ?_|refine jmk ?_|refine jap ?_)|(refine dl ?_;first|refine d7 ?_|refine d8 ?_|refine d10 ?_|refine d11 ?_|refine dtf ?_|refine dbd ?_|refine dbl ?_|refine d1 ?_|refine d2 ?_|refine d3 ?_|refine d3f ?_|refine d4 ?_|refine d9 ?_|refine d14 ?_|refine d14a ?_|refine d15 ?_|refine d16 ?_|refine d18 ?_|refine d19 ?_|refine d20 ?_|refine d21 ?_|refine d25 ?_|refine d17 ?_|refine deq ?_|refine deqq ?_|refine dne ?_|refine dneq ?_|refine dxe ?_|refine dxn ?_|refine dcb ?_|refine dcbq ?_|refine di1 ?_|refine di2 ?_|refine di3 ?_|refine di4 ?_|refine di6 ?_)|(refine al ?_;first|refine a7 ?_|refine a8 ?_|refine a10 ?_|refine a11 ?_|refine abd ?_|refine abl ?_|refine a1 ?_|refine a2 ?_|refine a3 ?_|refine a3f ?_|refine a9 ?_|refine a14 ?_|refine a15 ?_|refine a16 ?_|refine a18 ?_|refine a21 ?_|refine a25 ?_|refine ai1 ?_|refine ai2 ?_|refine ai3 ?_|refine ai4 ?_|refine ai6 ?_|refine alit ?_|refine da_skip ?_|refine da_nil ?_)|(refine bl ?_;first|refine bbd ?_|refine bbl ?_|refine b1 ?_|refine b14 ?_|refine b17t ?_|refine b17 ?_|refine b25 ?_|refine db_nil ?_)|refine al_cons (fun id hid=>?_)|refine al_nil ?_|(refine jc ?_;first|refine c1 ?_|refine c2 ?_|refine c3 ?_|refine c4 ?_|refine c5 ?_|refine c6 ?_|refine c7 ?_|refine c8 ?_|refine cqa ?_|refine cqk ?_|refine cq ?_)|refine n1 ?_|refine n2 ?_|refine n3 ?_|refine n4 ?_|refine n5 ?_|refine n6 ?_|refine n7 ?_|refine n8 ?_|refine n9 ?_|refine n10 ?_|refine n13 ?_|refine n11 ?_|refine n12 ?_|refine n14 ?_|refine n15 ?_|refine n16 ?_)
  refine cj_fors (fun i : Nat => idxG g (l.drop i) i = idxG g l 0) (fun i => [(8, .v (.int .i64 i))]) (fun i => l.length - i) 0 rfl ⟨⟨_, rfl, fun _ _ h => h⟩, trivial⟩ (fun i hi => ?_)
  rcases hd : l.drop i with _ | ⟨x, r⟩
  · have h0 := dropn hd
    rw [hd, idxG] at hi
    repeat' (first|(first|(refine jl ?_;first|refine j7 ?_|refine j8 ?_|refine j10 ?_|refine j11 ?_|refine jtf ?_|refine jb ?_|refine jbl ?_|refine j1 ?_|refine j2 ?_|refine j3 ?_|refine j3f ?_|refine j4 ?_|refine j5 ?_|refine j6 ?_|refine j9 ?_|refine j12 (fun id hid=>?_)|refine j13 (fun id hid=>?_)|refine j14 ?_|refine j15 ?_|refine j17t ?_|refine j17 ?_|refine j16 ?_|refine j18 ?_|refine j19 ?_|refine j20 ?_|refine j21 ?_|refine j23 ?_|refine j24 ?_|refine j25 ?_|refine j26 ?_|refine jeq ?_|refine jeqq ?_|refine jne ?_|refine jneq ?_|refine jxe ?_|refine jxn ?_|refine jcbq ?_|refine ji1 ?_|refine ji2 ?_|refine ji3 ?_|refine ji4 ?_|refine ji5 ?_|refine ji6 ?_|refine j22 (fun id hid=>?_)|refine jlit ?_|refine jmk ?_|refine jap ?_)|(refine dl ?_;first|refine d7 ?_|refine d8 ?_|refine d10 ?_|refine d11 ?_|refine dtf ?_|refine dbd ?_|refine dbl ?_|refine d1 ?_|refine d2 ?_|refine d3 ?_|refine d3f ?_|refine d4 ?_|refine d9 ?_|refine d14 ?_|refine d14a ?_|refine d15 ?_|refine d16 ?_|refine d18 ?_|refine d19 ?_|refine d20 ?_|refine d21 ?_|refine d25 ?_|refine d17 ?_|refine deq ?_|refine deqq ?_|refine dne ?_|refine dneq ?_|refine dxe ?_|refine dxn ?_|refine dcb ?_|refine dcbq ?_|refine di1 ?_|refine di2 ?_|refine di3 ?_|refine di4 ?_|refine di6 ?_)|(refine al ?_;first|refine a7 ?_|refine a8 ?_|refine a10 ?_|refine a11 ?_|refine abd ?_|refine abl ?_|refine a1 ?_|refine a2 ?_|refine a3 ?_|refine a3f ?_|refine a9 ?_|refine a14 ?_|refine a15 ?_|refine a16 ?_|refine a18 ?_|refine a21 ?_|refine a25 ?_|refine ai1 ?_|refine ai2 ?_|refine ai3 ?_|refine ai4 ?_|refine ai6 ?_|refine alit ?_|refine da_skip ?_|refine da_nil ?_)|(refine bl ?_;first|refine bbd ?_|refine bbl ?_|refine b1 ?_|refine b14 ?_|refine b17t ?_|refine b17 ?_|refine b25 ?_|refine db_nil ?_)|refine al_cons (fun id hid=>?_)|refine al_nil ?_|(refine jc ?_;first|refine c1 ?_|refine c2 ?_|refine c3 ?_|refine c4 ?_|refine c5 ?_|refine c6 ?_|refine c7 ?_|refine c8 ?_|refine cqa ?_|refine cqk ?_|refine cq ?_)|refine n1 ?_|refine n2 ?_|refine n3 ?_|refine n4 ?_|refine n5 ?_|refine n6 ?_|refine n7 ?_|refine n8 ?_|refine n9 ?_|refine n10 ?_|refine n13 ?_|refine n11 ?_|refine n12 ?_|refine n14 ?_|refine n15 ?_|refine n16 ?_)|(refine c9 (fun h=>?_) (fun h=>?_)<;>((try simp only [Bool.or_eq_true, Bool.and_eq_true, Bool.or_eq_false_iff, Bool.and_eq_false_iff, Bool.not_eq_true', Bool.not_eq_false', decide_eq_true_eq, decide_eq_false_iff_not, Bool.false_eq_true, Bool.true_eq_false, reduceCtorEq] at h) <;> (try simp (disch := omega) only [sb_bt, w64, Int.reduceAdd, Int.reduceToNat, Int.toNat_natCast, not_true_eq_false, false_or] at h) <;> (try (exfalso; omega)))))
    rw [← hi]
    exact ge rfl
  · obtain ⟨h1, h2, h3⟩ := dropc hd
    have h4 := get_map cc h3
    rw [hd, idxG] at hi
    repeat' (first|(first|(refine jl ?_;first|refine j7 ?_|refine j8 ?_|refine j10 ?_|refine j11 ?_|refine jtf ?_|refine jb ?_|refine jbl ?_|refine j1 ?_|refine j2 ?_|refine j3 ?_|refine j3f ?_|refine j4 ?_|refine j5 ?_|refine j6 ?_|refine j9 ?_|refine j12 (fun id hid=>?_)|refine j13 (fun id hid=>?_)|refine j14 ?_|refine j15 ?_|refine j17t ?_|refine j17 ?_|refine j16 ?_|refine j18 ?_|refine j19 ?_|refine j20 ?_|refine j21 ?_|refine j23 ?_|refine j24 ?_|refine j25 ?_|refine j26 ?_|refine jeq ?_|refine jeqq ?_|refine jne ?_|refine jneq ?_|refine jxe ?_|refine jxn ?_|refine jcbq ?_|refine ji1 ?_|refine ji2 ?_|refine ji3 ?_|refine ji4 ?_|refine ji5 ?_|refine ji6 ?_|refine j22 (fun id hid=>?_)|refine jcs hent (hf x) ?_|refine jlit ?_|refine jmk ?_|refine jap ?_)|(refine dl ?_;first|refine d7 ?_|refine d8 ?_|refine d10 ?_|refine d11 ?_|refine dtf ?_|refine dbd ?_|refine dbl ?_|refine d1 ?_|refine d2 ?_|refine d3 ?_|refine d3f ?_|refine d4 ?_|refine d9 ?_|refine d14 ?_|refine d14a ?_|refine d15 ?_|refine d16 ?_|refine d18 ?_|refine d19 ?_|refine d20 ?_|refine d21 ?_|refine d25 ?_|refine d17 ?_|refine deq ?_|refine deqq ?_|refine dne ?_|refine dneq ?_|refine dxe ?_|refine dxn ?_|refine dcb ?_|refine dcbq ?_|refine di1 ?_|refine di2 ?_|refine di3 ?_|refine di4 ?_|refine di6 ?_)|(refine al ?_;first|refine a7 ?_|refine a8 ?_|refine a10 ?_|refine a11 ?_|refine abd ?_|refine abl ?_|refine a1 ?_|refine a2 ?_|refine a3 ?_|refine a3f ?_|refine a9 ?_|refine a14 ?_|refine a15 ?_|refine a16 ?_|refine a18 ?_|refine a21 ?_|refine a25 ?_|refine ai1 ?_|refine ai2 ?_|refine ai3 ?_|refine ai4 ?_|refine ai6 ?_|refine alit ?_|refine da_skip ?_|refine da_nil ?_)|(refine bl ?_;first|refine bbd ?_|refine bbl ?_|refine b1 ?_|refine b14 ?_|refine b17t ?_|refine b17 ?_|refine b25 ?_|refine db_nil ?_)|refine al_cons (fun id hid=>?_)|refine al_nil ?_|(refine jc ?_;first|refine c1 ?_|refine c2 ?_|refine c3 ?_|refine c4 ?_|refine c5 ?_|refine c6 ?_|refine c7 ?_|refine c8 ?_|refine cqa ?_|refine cqk ?_|refine cq ?_)|refine n1 ?_|refine n2 ?_|refine n3 ?_|refine n4 ?_|refine n5 ?_|refine n6 ?_|refine n7 ?_|refine n8 ?_|refine n9 ?_|refine n10 ?_|refine n13 ?_|refine n11 ?_|refine n12 ?_|refine n14 ?_|refine n15 ?_|refine n16 ?_)|(refine c9 (fun h=>?_) (fun h=>?_)<;>((try simp only [Bool.or_eq_true, Bool.and_eq_true, Bool.or_eq_false_iff, Bool.and_eq_false_iff, Bool.not_eq_true', Bool.not_eq_false', decide_eq_true_eq, decide_eq_false_iff_not, Bool.false_eq_true, Bool.true_eq_false, reduceCtorEq] at h) <;> (try simp (disch := omega) only [sb_bt, w64, Int.reduceAdd, Int.reduceToNat, Int.toNat_natCast, not_true_eq_false, false_or] at h) <;> (try (exfalso; omega)))))
    · rw [if_pos h] at hi
      rw [← hi]
      exact ge rfl
    · rw [if_neg (by rw [h]; simp), ← h2] at hi
      exact nx_for (i + 1) hi (by omega) ⟨⟨_, rfl, wk1 (by omega)⟩, trivial⟩
theorem q_index_bounds {σ : St} {f : FuncId} {caps : List AV} (g : Bd → Bool) (hent : entered Tryd.prog f = true) (nl : Option Bool) (full : Bool) (l : List Bd) (hf : ∀ x : Bd, ACalls Tryd.prog f ([.agg (bc x)] ++ caps) σ (fun e σ' => e = .ret (.v (.bool (g x))) ∧ σ' = σ)) : ACalls Tryd.prog 70 [.sl nl full 4 (l.map bc), .fn f caps] σ (fun e σ' => e = .ret (.v (.int .i64 (idxG g l 0))) ∧ σ' = σ) := by
  refine enterS Tryd.func70 rfl rfl rfl rfl ?_
  refine cj_len 0 (fun hm => ?_)
  have hn : (l.map bc).length = l.length := List.length_map ..
  repeat (first|(refine jl ?_;first|refine j7 ?_|refine j8 ?_|refine j10 ?_|refine j11 ?_|refine jtf ?_|refine jb ?_|refine jbl ?_|refine j1 ?_|refine j2 ?_|refine j3 ?_|refine j3f ?_|refine j4 ?_|refine j5 ?_|refine j6 ?_|refine j9 ?_|refine j12 (fun id hid=>?_)|refine j13 (fun id hid=>?_)|refine j14 ?_|refine j15 ?_|refine j17t ?_|refine j17 ?_|refine j16 ?_|refine j18 ?_|refine j19 ?_|refine j20 ?_|refine j21 ?_|refine j23 ?_|refine j24 ?_|refine j25 ?_|refine j26 ?_|refine jeq ?_|refine jeqq ?_|refine jne ?_|refine jneq ?_|refine jxe ?_|refine jxn ?_|refine jcbq ?_|refine ji1 ?_|refine ji2 ?_|refine ji3 ?_|refine ji4 ?_|refine ji5 ?_|refine ji6 ?_|refine j22 (fun id hid=>?_)|refine jlit ?_|refine jmk ?_|refine jap ?_)|(refine dl ?_;first|refine d7 ?_|refine d8 ?_|refine d10 ?_|refine d11 ?_|refine dtf ?_|refine dbd ?_|refine dbl ?_|refine d1 ?_|refine d2 ?_|refine d3 ?_|refine d3f ?_|refine d4 ?_|refine d9 ?_|refine d14 ?_|refine d14a ?_|refine d15 ?_|refine d16 ?_|refine d18 ?_|refine d19 ?_|refine d20 ?_|refine d21 ?_|refine d25 ?_|refine d17 ?_|refine deq ?_|refine deqq ?_|refine dne ?_|refine dneq ?_|refine dxe ?_|refine dxn ?_|refine dcb ?_|refine dcbq ?_|refine di1 ?_|refine di2 ?_|refine di3 ?_|refine di4 ?_|refine di6 ?_)|(refine al ?_;first|refine a7 ?_|refine a8 ?_|refine a10 ?_|refine a11 ?_|refine abd ?_|refine abl ?_|refine a1 ?_|refine a2 ?_|refine a3 ?_|refine a3f ?_|refine a9 ?_|refine a14 ?_|refine a15 ?_|refine a16 ?_|refine a18 ?_|refine a21 ?_|refine a25 ?_|refine ai1 ?_|refine ai2 ?_|refine ai3 ?_|refine ai4 ?_|refine ai6 ?_|refine alit ?_|refine da_skip ?_|refine da_nil ?_)|(refine bl ?_;first|refine bbd ?_|refine bbl ?_|refine b1 ?_|refine b14 ?_|refine b17t ?_|refine b17 ?_|refine b25 ?_|refine db_nil ?_)|refine al_cons (fun id hid=>?_)|refine al_nil ?_|(refine jc ?_;first|refine c1 ?_|refine c2 ?_|refine c3 ?_|refine c4 ?_|refine c5 ?_|refine c6 ?_|refine c7 ?_|refine c8 ?_|refine cqa ?_|refine cqk ?_|refine cq ?_)|refine n1 ?_|refine n2 ?_|refine n3 ?_|refine n4 ?_|refine n5 ?_|refine n6 ?_|refine n7 ?_|refine n8 ?_|refine n9 ?_|refine n10 ?_|refine n13 ?_|refine n11 ?_|refine n12 ?_|refine n14 ?_|refine n15 ?_|refine n16 ?_)
  refine cj_fors (fun i : Nat => idxG g (l.drop i) i = idxG g l 0) (fun i => [(8, .v (.int .i64 i))]) (fun i => l.length - i) 0 rfl ⟨⟨_, rfl, fun _ _ h => h⟩, trivial⟩ (fun i hi => ?_)
  rcases hd : l.drop i with _ | ⟨x, r⟩
  · have h0 := dropn hd
    rw [hd, idxG] at hi
    repeat' (first|(first|(refine jl ?_;first|refine j7 ?_|refine j8 ?_|refine j10 ?_|refine j11 ?_|refine jtf ?_|refine jb ?_|refine jbl ?_|refine j1 ?_|refine j2 ?_|refine j3 ?_|refine j3f ?_|refine j4 ?_|refine j5 ?_|refine j6 ?_|refine j9 ?_|refine j12 (fun id hid=>?_)|refine j13 (fun id hid=>?_)|refine j14 ?_|refine j15 ?_|refine j17t ?_|refine j17 ?_|refine j16 ?_|refine j18 ?_|refine j19 ?_|refine j20 ?_|refine j21 ?_|refine j23 ?_|refine j24 ?_|refine j25 ?_|refine j26 ?_|refine jeq ?_|refine jeqq ?_|refine jne ?_|refine jneq ?_|refine jxe ?_|refine jxn ?_|refine jcbq ?_|refine ji1 ?_|refine ji2 ?_|refine ji3 ?_|refine ji4 ?_|refine ji5 ?_|refine ji6 ?_|refine j22 (fun id hid=>?_)|refine jlit ?_|refine jmk ?_|refine jap ?_)|(refine dl ?_;first|refine d7 ?_|refine d8 ?_|refine d10 ?_|refine d11 ?_|refine dtf ?_|refine dbd ?_|refine dbl ?_|refine d1 ?_|refine d2 ?_|refine d3 ?_|refine d3f ?_|refine d4 ?_|refine d9 ?_|refine d14 ?_|refine d14a ?_|refine d15 ?_|refine d16 ?_|refine d18 ?_|refine d19 ?_|refine d20 ?_|refine d21 ?_|refine d25 ?_|refine d17 ?_|refine deq ?_|refine deqq ?_|refine dne ?_|refine dneq ?_|refine dxe ?_|refine dxn ?_|refine dcb ?_|refine dcbq ?_|refine di1 ?_|refine di2 ?_|refine di3 ?_|refine di4 ?_|refine di6 ?_)|(refine al ?_;first|refine a7 ?_|refine a8 ?_|refine a10 ?_|refine a11 ?_|refine abd ?_|refine abl ?_|refine a1 ?_|refine a2 ?_|refine a3 ?_|refine a3f ?_|refine a9 ?_|refine a14 ?_|refine a15 ?_|refine a16 ?_|refine a18 ?_|refine a21 ?_|refine a25 ?_|refine ai1 ?_|refine ai2 ?_|refine ai3 ?_|refine ai4 ?_|refine ai6 ?_|refine alit ?_|refine da_skip ?_|refine da_nil ?_)|(refine bl ?_;first|refine bbd ?_|refine bbl ?_|refine b1 ?_|refine b14 ?_|refine b17t ?_|refine b17 ?_|refine b25 ?_|refine db_nil ?_)|refine al_cons (fun id hid=>?_)|refine al_nil ?_|(refine jc ?_;first|refine c1 ?_|refine c2 ?_|refine c3 ?_|refine c4 ?_|refine c5 ?_|refine c6 ?_|refine c7 ?_|refine c8 ?_|refine cqa ?_|refine cqk ?_|refine cq ?_)|refine n1 ?_|refine n2 ?_|refine n3 ?_|refine n4 ?_|refine n5 ?_|refine n6 ?_|refine n7 ?_|refine n8 ?_|refine n9 ?_|refine n10 ?_|refine n13 ?_|refine n11 ?_|refine n12 ?_|refine n14 ?_|refine n15 ?_|refine n16 ?_)|(refine c9 (fun h=>?_) (fun h=>?_)<;>((try simp only [Bool.or_eq_true, Bool.and_eq_true, Bool.or_eq_false_iff, Bool.and_eq_false_iff, Bool.not_eq_true', Bool.not_eq_false', decide_eq_true_eq, decide_eq_false_iff_not, Bool.false_eq_true, Bool.true_eq_false, reduceCtorEq] at h) <;> (try simp (disch := omega) only [sb_bt, w64, Int.reduceAdd, Int.reduceToNat, Int.toNat_natCast, not_true_eq_false, false_or] at h) <;> (try (exfalso; omega)))))
    rw [← hi]
    exact ge rfl
  · obtain ⟨h1, h2, h3⟩ := dropc hd
    have h4 := get_map bc h3
    rw [hd, idxG] at hi
    repeat' (first|(first|(refine jl ?_;first|refine j7 ?_|refine j8 ?_|refine j10 ?_|refine j11 ?_|refine jtf ?_|refine jb ?_|refine jbl ?_|refine j1 ?_|refine j2 ?_|refine j3 ?_|refine j3f ?_|refine j4 ?_|refine j5 ?_|refine j6 ?_|refine j9 ?_|refine j12 (fun id hid=>?_)|refine j13 (fun id hid=>?_)|refine j14 ?_|refine j15 ?_|refine j17t ?_|refine j17 ?_|refine j16 ?_|refine j18 ?_|refine j19 ?_|refine j20 ?_|refine j21 ?_|refine j23 ?_|refine j24 ?_|refine j25 ?_|refine j26 ?_|refine jeq ?_|refine jeqq ?_|refine jne ?_|refine jneq ?_|refine jxe ?_|refine jxn ?_|refine jcbq ?_|refine ji1 ?_|refine ji2 ?_|refine ji3 ?_|refine ji4 ?_|refine ji5 ?_|refine ji6 ?_|refine j22 (fun id hid=>?_)|refine jcs hent (hf x) ?_|refine jlit ?_|refine jmk ?_|refine jap ?_)|(refine dl ?_;first|refine d7 ?_|refine d8 ?_|refine d10 ?_|refine d11 ?_|refine dtf ?_|refine dbd ?_|refine dbl ?_|refine d1 ?_|refine d2 ?_|refine d3 ?_|refine d3f ?_|refine d4 ?_|refine d9 ?_|refine d14 ?_|refine d14a ?_|refine d15 ?_|refine d16 ?_|refine d18 ?_|refine d19 ?_|refine d20 ?_|refine d21 ?_|refine d25 ?_|refine d17 ?_|refine deq ?_|refine deqq ?_|refine dne ?_|refine dneq ?_|refine dxe ?_|refine dxn ?_|refine dcb ?_|refine dcbq ?_|refine di1 ?_|refine di2 ?_|refine di3 ?_|refine di4 ?_|refine di6 ?_)|(refine al ?_;first|refine a7 ?_|refine a8 ?_|refine a10 ?_|refine a11 ?_|refine abd ?_|refine abl ?_|refine a1 ?_|refine a2 ?_|refine a3 ?_|refine a3f ?_|refine a9 ?_|refine a14 ?_|refine a15 ?_|refine a16 ?_|refine a18 ?_|refine a21 ?_|refine a25 ?_|refine ai1 ?_|refine ai2 ?_|refine ai3 ?_|refine ai4 ?_|refine ai6 ?_|refine alit ?_|refine da_skip ?_|refine da_nil ?_)|(refine bl ?_;first|refine bbd ?_|refine bbl ?_|refine b1 ?_|refine b14 ?_|refine b17t ?_|refine b17 ?_|refine b25 ?_|refine db_nil ?_)|refine al_cons (fun id hid=>?_)|refine al_nil ?_|(refine jc ?_;first|refine c1 ?_|refine c2 ?_|refine c3 ?_|refine c4 ?_|refine c5 ?_|refine c6 ?_|refine c7 ?_|refine c8 ?_|refine cqa ?_|refine cqk ?_|refine cq ?_)|refine n1 ?_|refine n2 ?_|refine n3 ?_|refine n4 ?_|refine n5 ?_|refine n6 ?_|refine n7 ?_|refine n8 ?_|refine n9 ?_|refine n10 ?_|refine n13 ?_|refine n11 ?_|refine n12 ?_|refine n14 ?_|refine n15 ?_|refine n16 ?_)|(refine c9 (fun h=>?_) (fun h=>?_)<;>((try simp only [Bool.or_eq_true, Bool.and_eq_true, Bool.or_eq_false_iff, Bool.and_eq_false_iff, Bool.not_eq_true', Bool.not_eq_false', decide_eq_true_eq, decide_eq_false_iff_not, Bool.false_eq_true, Bool.true_eq_false, reduceCtorEq] at h) <;> (try simp (disch := omega) only [sb_bt, w64, Int.reduceAdd, Int.reduceToNat, Int.toNat_natCast, not_true_eq_false, false_or] at h) <;> (try (exfalso; omega)))))
    · rw [if_pos h] at hi
      rw [← hi]
      exact ge rfl
    · rw [if_neg (by rw [h]; simp), ← h2] at hi
      exact nx_for (i + 1) hi (by omega) ⟨⟨_, rfl, wk1 (by omega)⟩, trivial⟩
theorem q_index_strings {σ : St} {f : FuncId} {caps : List AV} (g : ByteArray → Bool) (hent : entered Tryd.prog f = true) (nl : Option Bool) (full : Bool) (l : List ByteArray) (hf : ∀ x : ByteArray, ACalls Tryd.prog f ([.v (.string x)] ++ caps) σ (fun e σ' => e = .ret (.v (.bool (g x))) ∧ σ' = σ)) : ACalls Tryd.prog 87 [.sl nl full 1 (l.map str1), .fn f caps] σ (fun e σ' => e = .ret (.v (.int .i64 (idxG g l 0))) ∧ σ' = σ) := by
  refine enterS Tryd.func87 rfl rfl rfl rfl ?_
  refine cj_len 0 (fun hm => ?_)
  have hn : (l.map str1).length = l.length := List.length_map ..
  repeat (first|(refine jl ?_;first|refine j7 ?_|refine j8 ?_|refine j10 ?_|refine j11 ?_|refine jtf ?_|refine jb ?_|refine jbl ?_|refine j1 ?_|refine j2 ?_|refine j3 ?_|refine j3f ?_|refine j4 ?_|refine j5 ?_|refine j6 ?_|refine j9 ?_|refine j12 (fun id hid=>?_)|refine j13 (fun id hid=>?_)|refine j14 ?_|refine j15 ?_|refine j17t ?_|refine j17 ?_|refine j16 ?_|refine j18 ?_|refine j19 ?_|refine j20 ?_|refine j21 ?_|refine j23 ?_|refine j24 ?_|refine j25 ?_|refine j26 ?_|refine jeq ?_|refine jeqq ?_|refine jne ?_|refine jneq ?_|refine jxe ?_|refine jxn ?_|refine jcbq ?_|refine ji1 ?_|refine ji2 ?_|refine ji3 ?_|refine ji4 ?_|refine ji5 ?_|refine ji6 ?_|refine j22 (fun id hid=>?_)|refine jlit ?_|refine jmk ?_|refine jap ?_)|(refine dl ?_;first|refine d7 ?_|refine d8 ?_|refine d10 ?_|refine d11 ?_|refine dtf ?_|refine dbd ?_|refine dbl ?_|refine d1 ?_|refine d2 ?_|refine d3 ?_|refine d3f ?_|refine d4 ?_|refine d9 ?_|refine d14 ?_|refine d14a ?_|refine d15 ?_|refine d16 ?_|refine d18 ?_|refine d19 ?_|refine d20 ?_|refine d21 ?_|refine d25 ?_|refine d17 ?_|refine deq ?_|refine deqq ?_|refine dne ?_|refine dneq ?_|refine dxe ?_|refine dxn ?_|refine dcb ?_|refine dcbq ?_|refine di1 ?_|refine di2 ?_|refine di3 ?_|refine di4 ?_|refine di6 ?_)|(refine al ?_;first|refine a7 ?_|refine a8 ?_|refine a10 ?_|refine a11 ?_|refine abd ?_|refine abl ?_|refine a1 ?_|refine a2 ?_|refine a3 ?_|refine a3f ?_|refine a9 ?_|refine a14 ?_|refine a15 ?_|refine a16 ?_|refine a18 ?_|refine a21 ?_|refine a25 ?_|refine ai1 ?_|refine ai2 ?_|refine ai3 ?_|refine ai4 ?_|refine ai6 ?_|refine alit ?_|refine da_skip ?_|refine da_nil ?_)|(refine bl ?_;first|refine bbd ?_|refine bbl ?_|refine b1 ?_|refine b14 ?_|refine b17t ?_|refine b17 ?_|refine b25 ?_|refine db_nil ?_)|refine al_cons (fun id hid=>?_)|refine al_nil ?_|(refine jc ?_;first|refine c1 ?_|refine c2 ?_|refine c3 ?_|refine c4 ?_|refine c5 ?_|refine c6 ?_|refine c7 ?_|refine c8 ?_|refine cqa ?_|refine cqk ?_|refine cq ?_)|refine n1 ?_|refine n2 ?_|refine n3 ?_|refine n4 ?_|refine n5 ?_|refine n6 ?_|refine n7 ?_|refine n8 ?_|refine n9 ?_|refine n10 ?_|refine n13 ?_|refine n11 ?_|refine n12 ?_|refine n14 ?_|refine n15 ?_|refine n16 ?_)
  refine cj_fors (fun i : Nat => idxG g (l.drop i) i = idxG g l 0) (fun i => [(8, .v (.int .i64 i))]) (fun i => l.length - i) 0 rfl ⟨⟨_, rfl, fun _ _ h => h⟩, trivial⟩ (fun i hi => ?_)
  rcases hd : l.drop i with _ | ⟨x, r⟩
  · have h0 := dropn hd
    rw [hd, idxG] at hi
    repeat' (first|(first|(refine jl ?_;first|refine j7 ?_|refine j8 ?_|refine j10 ?_|refine j11 ?_|refine jtf ?_|refine jb ?_|refine jbl ?_|refine j1 ?_|refine j2 ?_|refine j3 ?_|refine j3f ?_|refine j4 ?_|refine j5 ?_|refine j6 ?_|refine j9 ?_|refine j12 (fun id hid=>?_)|refine j13 (fun id hid=>?_)|refine j14 ?_|refine j15 ?_|refine j17t ?_|refine j17 ?_|refine j16 ?_|refine j18 ?_|refine j19 ?_|refine j20 ?_|refine j21 ?_|refine j23 ?_|refine j24 ?_|refine j25 ?_|refine j26 ?_|refine jeq ?_|refine jeqq ?_|refine jne ?_|refine jneq ?_|refine jxe ?_|refine jxn ?_|refine jcbq ?_|refine ji1 ?_|refine ji2 ?_|refine ji3 ?_|refine ji4 ?_|refine ji5 ?_|refine ji6 ?_|refine j22 (fun id hid=>?_)|refine jlit ?_|refine jmk ?_|refine jap ?_)|(refine dl ?_;first|refine d7 ?_|refine d8 ?_|refine d10 ?_|refine d11 ?_|refine dtf ?_|refine dbd ?_|refine dbl ?_|refine d1 ?_|refine d2 ?_|refine d3 ?_|refine d3f ?_|refine d4 ?_|refine d9 ?_|refine d14 ?_|refine d14a ?_|refine d15 ?_|refine d16 ?_|refine d18 ?_|refine d19 ?_|refine d20 ?_|refine d21 ?_|refine d25 ?_|refine d17 ?_|refine deq ?_|refine deqq ?_|refine dne ?_|refine dneq ?_|refine dxe ?_|refine dxn ?_|refine dcb ?_|refine dcbq ?_|refine di1 ?_|refine di2 ?_|refine di3 ?_|refine di4 ?_|refine di6 ?_)|(refine al ?_;first|refine a7 ?_|refine a8 ?_|refine a10 ?_|refine a11 ?_|refine abd ?_|refine abl ?_|refine a1 ?_|refine a2 ?_|refine a3 ?_|refine a3f ?_|refine a9 ?_|refine a14 ?_|refine a15 ?_|refine a16 ?_|refine a18 ?_|refine a21 ?_|refine a25 ?_|refine ai1 ?_|refine ai2 ?_|refine ai3 ?_|refine ai4 ?_|refine ai6 ?_|refine alit ?_|refine da_skip ?_|refine da_nil ?_)|(refine bl ?_;first|refine bbd ?_|refine bbl ?_|refine b1 ?_|refine b14 ?_|refine b17t ?_|refine b17 ?_|refine b25 ?_|refine db_nil ?_)|refine al_cons (fun id hid=>?_)|refine al_nil ?_|(refine jc ?_;first|refine c1 ?_|refine c2 ?_|refine c3 ?_|refine c4 ?_|refine c5 ?_|refine c6 ?_|refine c7 ?_|refine c8 ?_|refine cqa ?_|refine cqk ?_|refine cq ?_)|refine n1 ?_|refine n2 ?_|refine n3 ?_|refine n4 ?_|refine n5 ?_|refine n6 ?_|refine n7 ?_|refine n8 ?_|refine n9 ?_|refine n10 ?_|refine n13 ?_|refine n11 ?_|refine n12 ?_|refine n14 ?_|refine n15 ?_|refine n16 ?_)|(refine c9 (fun h=>?_) (fun h=>?_)<;>((try simp only [Bool.or_eq_true, Bool.and_eq_true, Bool.or_eq_false_iff, Bool.and_eq_false_iff, Bool.not_eq_true', Bool.not_eq_false', decide_eq_true_eq, decide_eq_false_iff_not, Bool.false_eq_true, Bool.true_eq_false, reduceCtorEq] at h) <;> (try simp (disch := omega) only [sb_bt, w64, Int.reduceAdd, Int.reduceToNat, Int.toNat_natCast, not_true_eq_false, false_or] at h) <;> (try (exfalso; omega)))))
    rw [← hi]
    exact ge rfl
  · obtain ⟨h1, h2, h3⟩ := dropc hd
    have h4 := get_map str1 h3
    rw [hd, idxG] at hi
    repeat' (first|(first|(refine jl ?_;first|refine j7 ?_|refine j8 ?_|refine j10 ?_|refine j11 ?_|refine jtf ?_|refine jb ?_|refine jbl ?_|refine j1 ?_|refine j2 ?_|refine j3 ?_|refine j3f ?_|refine j4 ?_|refine j5 ?_|refine j6 ?_|refine j9 ?_|refine j12 (fun id hid=>?_)|refine j13 (fun id hid=>?_)|refine j14 ?_|refine j15 ?_|refine j17t ?_|refine j17 ?_|refine j16 ?_|refine j18 ?_|refine j19 ?_|refine j20 ?_|refine j21 ?_|refine j23 ?_|refine j24 ?_|refine j25 ?_|refine j26 ?_|refine jeq ?_|refine jeqq ?_|refine jne ?_|refine jneq ?_|refine jxe ?_|refine jxn ?_|refine jcbq ?_|refine ji1 ?_|refine ji2 ?_|refine ji3 ?_|refine ji4 ?_|refine ji5 ?_|refine ji6 ?_|refine j22 (fun id hid=>?_)|refine jcs hent (hf x) ?_|refine jlit ?_|refine jmk ?_|refine jap ?_)|(refine dl ?_;first|refine d7 ?_|refine d8 ?_|refine d10 ?_|refine d11 ?_|refine dtf ?_|refine dbd ?_|refine dbl ?_|refine d1 ?_|refine d2 ?_|refine d3 ?_|refine d3f ?_|refine d4 ?_|refine d9 ?_|refine d14 ?_|refine d14a ?_|refine d15 ?_|refine d16 ?_|refine d18 ?_|refine d19 ?_|refine d20 ?_|refine d21 ?_|refine d25 ?_|refine d17 ?_|refine deq ?_|refine deqq ?_|refine dne ?_|refine dneq ?_|refine dxe ?_|refine dxn ?_|refine dcb ?_|refine dcbq ?_|refine di1 ?_|refine di2 ?_|refine di3 ?_|refine di4 ?_|refine di6 ?_)|(refine al ?_;first|refine a7 ?_|refine a8 ?_|refine a10 ?_|refine a11 ?_|refine abd ?_|refine abl ?_|refine a1 ?_|refine a2 ?_|refine a3 ?_|refine a3f ?_|refine a9 ?_|refine a14 ?_|refine a15 ?_|refine a16 ?_|refine a18 ?_|refine a21 ?_|refine a25 ?_|refine ai1 ?_|refine ai2 ?_|refine ai3 ?_|refine ai4 ?_|refine ai6 ?_|refine alit ?_|refine da_skip ?_|refine da_nil ?_)|(refine bl ?_;first|refine bbd ?_|refine bbl ?_|refine b1 ?_|refine b14 ?_|refine b17t ?_|refine b17 ?_|refine b25 ?_|refine db_nil ?_)|refine al_cons (fun id hid=>?_)|refine al_nil ?_|(refine jc ?_;first|refine c1 ?_|refine c2 ?_|refine c3 ?_|refine c4 ?_|refine c5 ?_|refine c6 ?_|refine c7 ?_|refine c8 ?_|refine cqa ?_|refine cqk ?_|refine cq ?_)|refine n1 ?_|refine n2 ?_|refine n3 ?_|refine n4 ?_|refine n5 ?_|refine n6 ?_|refine n7 ?_|refine n8 ?_|refine n9 ?_|refine n10 ?_|refine n13 ?_|refine n11 ?_|refine n12 ?_|refine n14 ?_|refine n15 ?_|refine n16 ?_)|(refine c9 (fun h=>?_) (fun h=>?_)<;>((try simp only [Bool.or_eq_true, Bool.and_eq_true, Bool.or_eq_false_iff, Bool.and_eq_false_iff, Bool.not_eq_true', Bool.not_eq_false', decide_eq_true_eq, decide_eq_false_iff_not, Bool.false_eq_true, Bool.true_eq_false, reduceCtorEq] at h) <;> (try simp (disch := omega) only [sb_bt, w64, Int.reduceAdd, Int.reduceToNat, Int.toNat_natCast, not_true_eq_false, false_or] at h) <;> (try (exfalso; omega)))))
    · rw [if_pos h] at hi
      rw [← hi]
      exact ge rfl
    · rw [if_neg (by rw [h]; simp), ← h2] at hi
      exact nx_for (i + 1) hi (by omega) ⟨⟨_, rfl, wk1 (by omega)⟩, trivial⟩
theorem p_indexs (nl : Option Bool) (full : Bool) (l : List ByteArray) (nm : ByteArray) : Pure Tryd.prog 79 [.sl nl full 1 (l.map str1), .v (.string nm)] (.v (.int .i64 (attrI nm l))) := by
  refine enterW Tryd.func79 rfl rfl rfl rfl (fun σ => ?_)
  refine cj_len 0 (fun hm => ?_)
  have hn : (l.map str1).length = l.length := List.length_map ..
  repeat (first|(refine jl ?_;first|refine j7 ?_|refine j8 ?_|refine j10 ?_|refine j11 ?_|refine jtf ?_|refine jb ?_|refine jbl ?_|refine j1 ?_|refine j2 ?_|refine j3 ?_|refine j3f ?_|refine j4 ?_|refine j5 ?_|refine j6 ?_|refine j9 ?_|refine j12 (fun id hid=>?_)|refine j13 (fun id hid=>?_)|refine j14 ?_|refine j15 ?_|refine j17t ?_|refine j17 ?_|refine j16 ?_|refine j18 ?_|refine j19 ?_|refine j20 ?_|refine j21 ?_|refine j23 ?_|refine j24 ?_|refine j25 ?_|refine j26 ?_|refine jeq ?_|refine jeqq ?_|refine jne ?_|refine jneq ?_|refine jxe ?_|refine jxn ?_|refine jcbq ?_|refine ji1 ?_|refine ji2 ?_|refine ji3 ?_|refine ji4 ?_|refine ji5 ?_|refine ji6 ?_|refine j22 (fun id hid=>?_)|refine jlit ?_|refine jmk ?_|refine jap ?_)|(refine dl ?_;first|refine d7 ?_|refine d8 ?_|refine d10 ?_|refine d11 ?_|refine dtf ?_|refine dbd ?_|refine dbl ?_|refine d1 ?_|refine d2 ?_|refine d3 ?_|refine d3f ?_|refine d4 ?_|refine d9 ?_|refine d14 ?_|refine d14a ?_|refine d15 ?_|refine d16 ?_|refine d18 ?_|refine d19 ?_|refine d20 ?_|refine d21 ?_|refine d25 ?_|refine d17 ?_|refine deq ?_|refine deqq ?_|refine dne ?_|refine dneq ?_|refine dxe ?_|refine dxn ?_|refine dcb ?_|refine dcbq ?_|refine di1 ?_|refine di2 ?_|refine di3 ?_|refine di4 ?_|refine di6 ?_)|(refine al ?_;first|refine a7 ?_|refine a8 ?_|refine a10 ?_|refine a11 ?_|refine abd ?_|refine abl ?_|refine a1 ?_|refine a2 ?_|refine a3 ?_|refine a3f ?_|refine a9 ?_|refine a14 ?_|refine a15 ?_|refine a16 ?_|refine a18 ?_|refine a21 ?_|refine a25 ?_|refine ai1 ?_|refine ai2 ?_|refine ai3 ?_|refine ai4 ?_|refine ai6 ?_|refine alit ?_|refine da_skip ?_|refine da_nil ?_)|(refine bl ?_;first|refine bbd ?_|refine bbl ?_|refine b1 ?_|refine b14 ?_|refine b17t ?_|refine b17 ?_|refine b25 ?_|refine db_nil ?_)|refine al_cons (fun id hid=>?_)|refine al_nil ?_|(refine jc ?_;first|refine c1 ?_|refine c2 ?_|refine c3 ?_|refine c4 ?_|refine c5 ?_|refine c6 ?_|refine c7 ?_|refine c8 ?_|refine cqa ?_|refine cqk ?_|refine cq ?_)|refine n1 ?_|refine n2 ?_|refine n3 ?_|refine n4 ?_|refine n5 ?_|refine n6 ?_|refine n7 ?_|refine n8 ?_|refine n9 ?_|refine n10 ?_|refine n13 ?_|refine n11 ?_|refine n12 ?_|refine n14 ?_|refine n15 ?_|refine n16 ?_)
  refine cj_fors (fun i : Nat => idxG (isS nm) (l.drop i) i = attrI nm l) (fun i => [(8, .v (.int .i64 i))]) (fun i => l.length - i) 0 rfl ⟨⟨_, rfl, fun _ _ h => h⟩, trivial⟩ (fun i hi => ?_)
  rcases hd : l.drop i with _ | ⟨x, r⟩
  · have h0 := dropn hd
    rw [hd, idxG] at hi
    repeat' (first|(first|(refine jl ?_;first|refine j7 ?_|refine j8 ?_|refine j10 ?_|refine j11 ?_|refine jtf ?_|refine jb ?_|refine jbl ?_|refine j1 ?_|refine j2 ?_|refine j3 ?_|refine j3f ?_|refine j4 ?_|refine j5 ?_|refine j6 ?_|refine j9 ?_|refine j12 (fun id hid=>?_)|refine j13 (fun id hid=>?_)|refine j14 ?_|refine j15 ?_|refine j17t ?_|refine j17 ?_|refine j16 ?_|refine j18 ?_|refine j19 ?_|refine j20 ?_|refine j21 ?_|refine j23 ?_|refine j24 ?_|refine j25 ?_|refine j26 ?_|refine jeq ?_|refine jeqq ?_|refine jne ?_|refine jneq ?_|refine jxe ?_|refine jxn ?_|refine jcbq ?_|refine ji1 ?_|refine ji2 ?_|refine ji3 ?_|refine ji4 ?_|refine ji5 ?_|refine ji6 ?_|refine j22 (fun id hid=>?_)|refine jlit ?_|refine jmk ?_|refine jap ?_)|(refine dl ?_;first|refine d7 ?_|refine d8 ?_|refine d10 ?_|refine d11 ?_|refine dtf ?_|refine dbd ?_|refine dbl ?_|refine d1 ?_|refine d2 ?_|refine d3 ?_|refine d3f ?_|refine d4 ?_|refine d9 ?_|refine d14 ?_|refine d14a ?_|refine d15 ?_|refine d16 ?_|refine d18 ?_|refine d19 ?_|refine d20 ?_|refine d21 ?_|refine d25 ?_|refine d17 ?_|refine deq ?_|refine deqq ?_|refine dne ?_|refine dneq ?_|refine dxe ?_|refine dxn ?_|refine dcb ?_|refine dcbq ?_|refine di1 ?_|refine di2 ?_|refine di3 ?_|refine di4 ?_|refine di6 ?_)|(refine al ?_;first|refine a7 ?_|refine a8 ?_|refine a10 ?_|refine a11 ?_|refine abd ?_|refine abl ?_|refine a1 ?_|refine a2 ?_|refine a3 ?_|refine a3f ?_|refine a9 ?_|refine a14 ?_|refine a15 ?_|refine a16 ?_|refine a18 ?_|refine a21 ?_|refine a25 ?_|refine ai1 ?_|refine ai2 ?_|refine ai3 ?_|refine ai4 ?_|refine ai6 ?_|refine alit ?_|refine da_skip ?_|refine da_nil ?_)|(refine bl ?_;first|refine bbd ?_|refine bbl ?_|refine b1 ?_|refine b14 ?_|refine b17t ?_|refine b17 ?_|refine b25 ?_|refine db_nil ?_)|refine al_cons (fun id hid=>?_)|refine al_nil ?_|(refine jc ?_;first|refine c1 ?_|refine c2 ?_|refine c3 ?_|refine c4 ?_|refine c5 ?_|refine c6 ?_|refine c7 ?_|refine c8 ?_|refine cqa ?_|refine cqk ?_|refine cq ?_)|refine n1 ?_|refine n2 ?_|refine n3 ?_|refine n4 ?_|refine n5 ?_|refine n6 ?_|refine n7 ?_|refine n8 ?_|refine n9 ?_|refine n10 ?_|refine n13 ?_|refine n11 ?_|refine n12 ?_|refine n14 ?_|refine n15 ?_|refine n16 ?_)|(refine c9 (fun h=>?_) (fun h=>?_)<;>((try simp only [Bool.or_eq_true, Bool.and_eq_true, Bool.or_eq_false_iff, Bool.and_eq_false_iff, Bool.not_eq_true', Bool.not_eq_false', decide_eq_true_eq, decide_eq_false_iff_not, Bool.false_eq_true, Bool.true_eq_false, reduceCtorEq] at h) <;> (try simp (disch := omega) only [sb_bt, w64, Int.reduceAdd, Int.reduceToNat, Int.toNat_natCast, not_true_eq_false, false_or] at h) <;> (try (exfalso; omega)))))
    rw [← hi]
    exact ge rfl
  · obtain ⟨h1, h2, h3⟩ := dropc hd
    have h4 := get_map str1 h3
    rw [hd, idxG] at hi
    repeat' (first|(first|(refine jl ?_;first|refine j7 ?_|refine j8 ?_|refine j10 ?_|refine j11 ?_|refine jtf ?_|refine jb ?_|refine jbl ?_|refine j1 ?_|refine j2 ?_|refine j3 ?_|refine j3f ?_|refine j4 ?_|refine j5 ?_|refine j6 ?_|refine j9 ?_|refine j12 (fun id hid=>?_)|refine j13 (fun id hid=>?_)|refine j14 ?_|refine j15 ?_|refine j17t ?_|refine j17 ?_|refine j16 ?_|refine j18 ?_|refine j19 ?_|refine j20 ?_|refine j21 ?_|refine j23 ?_|refine j24 ?_|refine j25 ?_|refine j26 ?_|refine jeq ?_|refine jeqq ?_|refine jne ?_|refine jneq ?_|refine jxe ?_|refine jxn ?_|refine jcbq ?_|refine ji1 ?_|refine ji2 ?_|refine ji3 ?_|refine ji4 ?_|refine ji5 ?_|refine ji6 ?_|refine j22 (fun id hid=>?_)|refine jlit ?_|refine jmk ?_|refine jap ?_)|(refine dl ?_;first|refine d7 ?_|refine d8 ?_|refine d10 ?_|refine d11 ?_|refine dtf ?_|refine dbd ?_|refine dbl ?_|refine d1 ?_|refine d2 ?_|refine d3 ?_|refine d3f ?_|refine d4 ?_|refine d9 ?_|refine d14 ?_|refine d14a ?_|refine d15 ?_|refine d16 ?_|refine d18 ?_|refine d19 ?_|refine d20 ?_|refine d21 ?_|refine d25 ?_|refine d17 ?_|refine deq ?_|refine deqq ?_|refine dne ?_|refine dneq ?_|refine dxe ?_|refine dxn ?_|refine dcb ?_|refine dcbq ?_|refine di1 ?_|refine di2 ?_|refine di3 ?_|refine di4 ?_|refine di6 ?_)|(refine al ?_;first|refine a7 ?_|refine a8 ?_|refine a10 ?_|refine a11 ?_|refine abd ?_|refine abl ?_|refine a1 ?_|refine a2 ?_|refine a3 ?_|refine a3f ?_|refine a9 ?_|refine a14 ?_|refine a15 ?_|refine a16 ?_|refine a18 ?_|refine a21 ?_|refine a25 ?_|refine ai1 ?_|refine ai2 ?_|refine ai3 ?_|refine ai4 ?_|refine ai6 ?_|refine alit ?_|refine da_skip ?_|refine da_nil ?_)|(refine bl ?_;first|refine bbd ?_|refine bbl ?_|refine b1 ?_|refine b14 ?_|refine b17t ?_|refine b17 ?_|refine b25 ?_|refine db_nil ?_)|refine al_cons (fun id hid=>?_)|refine al_nil ?_|(refine jc ?_;first|refine c1 ?_|refine c2 ?_|refine c3 ?_|refine c4 ?_|refine c5 ?_|refine c6 ?_|refine c7 ?_|refine c8 ?_|refine cqa ?_|refine cqk ?_|refine cq ?_)|refine n1 ?_|refine n2 ?_|refine n3 ?_|refine n4 ?_|refine n5 ?_|refine n6 ?_|refine n7 ?_|refine n8 ?_|refine n9 ?_|refine n10 ?_|refine n13 ?_|refine n11 ?_|refine n12 ?_|refine n14 ?_|refine n15 ?_|refine n16 ?_)|(refine c9 (fun h=>?_) (fun h=>?_)<;>((try simp only [Bool.or_eq_true, Bool.and_eq_true, Bool.or_eq_false_iff, Bool.and_eq_false_iff, Bool.not_eq_true', Bool.not_eq_false', decide_eq_true_eq, decide_eq_false_iff_not, Bool.false_eq_true, Bool.true_eq_false, reduceCtorEq] at h) <;> (try simp (disch := omega) only [sb_bt, w64, Int.reduceAdd, Int.reduceToNat, Int.toNat_natCast, not_true_eq_false, false_or] at h) <;> (try (exfalso; omega)))))
    · rw [if_pos (by simp [isS, h])] at hi
      rw [← hi]
      exact ge rfl
    · rw [if_neg (by simp [isS, Ne.symm h]), ← h2] at hi
      exact nx_for (i + 1) hi (by omega) ⟨⟨_, rfl, wk1 (by omega)⟩, trivial⟩
theorem p_attr (c : Cls) (nm : ByteArray) : Pure Tryd.prog 47 [.agg (cc c), .v (.string nm)] (.tup [.v (.int .i64 (attrN nm c.attrs)), .v (.bool (attrB nm c.attrs))]) := by
  refine enterW Tryd.func47 rfl rfl rfl rfl (fun σ => ?_)
  repeat (first|(refine jl ?_;first|refine j7 ?_|refine j8 ?_|refine j10 ?_|refine j11 ?_|refine jtf ?_|refine jb ?_|refine jbl ?_|refine j1 ?_|refine j2 ?_|refine j3 ?_|refine j3f ?_|refine j4 ?_|refine j5 ?_|refine j6 ?_|refine j9 ?_|refine j12 (fun id hid=>?_)|refine j13 (fun id hid=>?_)|refine j14 ?_|refine j15 ?_|refine j17t ?_|refine j17 ?_|refine j16 ?_|refine j18 ?_|refine j19 ?_|refine j20 ?_|refine j21 ?_|refine j23 ?_|refine j24 ?_|refine j25 ?_|refine j26 ?_|refine jeq ?_|refine jeqq ?_|refine jne ?_|refine jneq ?_|refine jxe ?_|refine jxn ?_|refine jcbq ?_|refine ji1 ?_|refine ji2 ?_|refine ji3 ?_|refine ji4 ?_|refine ji5 ?_|refine ji6 ?_|refine j22 (fun id hid=>?_)|refine jp (p_indexs _ _ _ _) ?_|refine jpy (p_indexs _ _ _ _) ?_|refine jcq (hp:=fun hc=>p_indexs _ _ _ _) ?_|refine jlit ?_|refine jmk ?_|refine jap ?_)|(refine dl ?_;first|refine d7 ?_|refine d8 ?_|refine d10 ?_|refine d11 ?_|refine dtf ?_|refine dbd ?_|refine dbl ?_|refine d1 ?_|refine d2 ?_|refine d3 ?_|refine d3f ?_|refine d4 ?_|refine d9 ?_|refine d14 ?_|refine d14a ?_|refine d15 ?_|refine d16 ?_|refine d18 ?_|refine d19 ?_|refine d20 ?_|refine d21 ?_|refine d25 ?_|refine d17 ?_|refine deq ?_|refine deqq ?_|refine dne ?_|refine dneq ?_|refine dxe ?_|refine dxn ?_|refine dcb ?_|refine dcbq ?_|refine di1 ?_|refine di2 ?_|refine di3 ?_|refine di4 ?_|refine di6 ?_|refine dp (p_indexs _ _ _ _) ?_|refine dpy (p_indexs _ _ _ _) ?_|refine dpq (hp:=fun hc=>p_indexs _ _ _ _) ?_)|(refine al ?_;first|refine a7 ?_|refine a8 ?_|refine a10 ?_|refine a11 ?_|refine abd ?_|refine abl ?_|refine a1 ?_|refine a2 ?_|refine a3 ?_|refine a3f ?_|refine a9 ?_|refine a14 ?_|refine a15 ?_|refine a16 ?_|refine a18 ?_|refine a21 ?_|refine a25 ?_|refine ai1 ?_|refine ai2 ?_|refine ai3 ?_|refine ai4 ?_|refine ai6 ?_|refine alit ?_|refine ap (p_indexs _ _ _ _) ?_|refine apy (p_indexs _ _ _ _) ?_|refine da_skip ?_|refine da_nil ?_)|(refine bl ?_;first|refine bbd ?_|refine bbl ?_|refine b1 ?_|refine b14 ?_|refine b17t ?_|refine b17 ?_|refine b25 ?_|refine db_nil ?_)|refine al_cons (fun id hid=>?_)|refine al_nil ?_|(refine jc ?_;first|refine c1 ?_|refine c2 ?_|refine c3 ?_|refine c4 ?_|refine c5 ?_|refine c6 ?_|refine c7 ?_|refine c8 ?_|refine cqa ?_|refine cqk ?_|refine cq ?_)|refine n1 ?_|refine n2 ?_|refine n3 ?_|refine n4 ?_|refine n5 ?_|refine n6 ?_|refine n7 ?_|refine n8 ?_|refine n9 ?_|refine n10 ?_|refine n13 ?_|refine n11 ?_|refine n12 ?_|refine n14 ?_|refine n15 ?_|refine n16 ?_)
  refine gvs (fin_two (.wk (Wk.of_eq ?_)) (Fin.refl _ _ _))
  rw [attrN]
theorem q_find1 {σ : St} {id : Nat} {nm : ByteArray} (hid : σ id = some (.row 1 9 [[.v (.string nm)]])) (x : Cls) : ACalls Tryd.prog 61 [.agg (cc x), .ptr id 1 0 0] σ (fun e σ' => e = .ret (.v (.bool (isC nm x))) ∧ σ' = σ) := by
  refine enterS Tryd.func61 rfl rfl rfl rfl ?_
  repeat (first|(refine jl ?_;first|refine j7 ?_|refine j8 ?_|refine j10 ?_|refine j11 ?_|refine jtf ?_|refine jb ?_|refine jbl ?_|refine j1 ?_|refine j2 ?_|refine j3 ?_|refine j3f ?_|refine j4 ?_|refine j5 ?_|refine j6 ?_|refine j9 ?_|refine j12 (fun id hid=>?_)|refine j13 (fun id hid=>?_)|refine j14 ?_|refine j15 ?_|refine j17t ?_|refine j17 ?_|refine j16 ?_|refine j18 ?_|refine j19 ?_|refine j20 ?_|refine j21 ?_|refine j23 ?_|refine j24 ?_|refine j25 ?_|refine j26 ?_|refine jeq ?_|refine jeqq ?_|refine jne ?_|refine jneq ?_|refine jxe ?_|refine jxn ?_|refine jcbq ?_|refine ji1 ?_|refine ji2 ?_|refine ji3 ?_|refine ji4 ?_|refine ji5 ?_|refine ji6 ?_|refine j22 (fun id hid=>?_)|refine jlit ?_|refine jmk ?_|refine jap ?_)|(refine dl ?_;first|refine d7 ?_|refine d8 ?_|refine d10 ?_|refine d11 ?_|refine dtf ?_|refine dbd ?_|refine dbl ?_|refine d1 ?_|refine d2 ?_|refine d3 ?_|refine d3f ?_|refine d4 ?_|refine d9 ?_|refine d14 ?_|refine d14a ?_|refine d15 ?_|refine d16 ?_|refine d18 ?_|refine d19 ?_|refine d20 ?_|refine d21 ?_|refine d25 ?_|refine d17 ?_|refine deq ?_|refine deqq ?_|refine dne ?_|refine dneq ?_|refine dxe ?_|refine dxn ?_|refine dcb ?_|refine dcbq ?_|refine di1 ?_|refine di2 ?_|refine di3 ?_|refine di4 ?_|refine di6 ?_)|(refine al ?_;first|refine a7 ?_|refine a8 ?_|refine a10 ?_|refine a11 ?_|refine abd ?_|refine abl ?_|refine a1 ?_|refine a2 ?_|refine a3 ?_|refine a3f ?_|refine a9 ?_|refine a14 ?_|refine a15 ?_|refine a16 ?_|refine a18 ?_|refine a21 ?_|refine a25 ?_|refine ai1 ?_|refine ai2 ?_|refine ai3 ?_|refine ai4 ?_|refine ai6 ?_|refine alit ?_|refine da_skip ?_|refine da_nil ?_)|(refine bl ?_;first|refine bbd ?_|refine bbl ?_|refine b1 ?_|refine b14 ?_|refine b17t ?_|refine b17 ?_|refine b25 ?_|refine db_nil ?_)|refine al_cons (fun id hid=>?_)|refine al_nil ?_|(refine jc ?_;first|refine c1 ?_|refine c2 ?_|refine c3 ?_|refine c4 ?_|refine c5 ?_|refine c6 ?_|refine c7 ?_|refine c8 ?_|refine cqa ?_|refine cqk ?_|refine cq ?_)|refine n1 ?_|refine n2 ?_|refine n3 ?_|refine n4 ?_|refine n5 ?_|refine n6 ?_|refine n7 ?_|refine n8 ?_|refine n9 ?_|refine n10 ?_|refine n13 ?_|refine n11 ?_|refine n12 ?_|refine n14 ?_|refine n15 ?_|refine n16 ?_)
  exact ge rfl
theorem p_find (nl : Option Bool) (full : Bool) (l : List Cls) (nm : ByteArray) : Pure Tryd.prog 24 [.sl nl full 2 (l.map cc), .v (.string nm)] (.tup [.agg (cc ((findC nm l).getD noC)), .v (.bool (findC nm l).isSome)]) := by
  refine enterW Tryd.func24 rfl rfl rfl rfl (fun σ => ?_)
  repeat (first|(refine jl ?_;first|refine j7 ?_|refine j8 ?_|refine j10 ?_|refine j11 ?_|refine jtf ?_|refine jb ?_|refine jbl ?_|refine j1 ?_|refine j2 ?_|refine j3 ?_|refine j3f ?_|refine j4 ?_|refine j5 ?_|refine j6 ?_|refine j9 ?_|refine j12 (fun id hid=>?_)|refine j13 (fun id hid=>?_)|refine j14 ?_|refine j15 ?_|refine j17t ?_|refine j17 ?_|refine j16 ?_|refine j18 ?_|refine j19 ?_|refine j20 ?_|refine j21 ?_|refine j23 ?_|refine j24 ?_|refine j25 ?_|refine j26 ?_|refine jeq ?_|refine jeqq ?_|refine jne ?_|refine jneq ?_|refine jxe ?_|refine jxn ?_|refine jcbq ?_|refine ji1 ?_|refine ji2 ?_|refine ji3 ?_|refine ji4 ?_|refine ji5 ?_|refine ji6 ?_|refine j22 (fun id hid=>?_)|refine jlit ?_|refine jmk ?_|refine jap ?_)|(refine dl ?_;first|refine d7 ?_|refine d8 ?_|refine d10 ?_|refine d11 ?_|refine dtf ?_|refine dbd ?_|refine dbl ?_|refine d1 ?_|refine d2 ?_|refine d3 ?_|refine d3f ?_|refine d4 ?_|refine d9 ?_|refine d14 ?_|refine d14a ?_|refine d15 ?_|refine d16 ?_|refine d18 ?_|refine d19 ?_|refine d20 ?_|refine d21 ?_|refine d25 ?_|refine d17 ?_|refine deq ?_|refine deqq ?_|refine dne ?_|refine dneq ?_|refine dxe ?_|refine dxn ?_|refine dcb ?_|refine dcbq ?_|refine di1 ?_|refine di2 ?_|refine di3 ?_|refine di4 ?_|refine di6 ?_)|(refine al ?_;first|refine a7 ?_|refine a8 ?_|refine a10 ?_|refine a11 ?_|refine abd ?_|refine abl ?_|refine a1 ?_|refine a2 ?_|refine a3 ?_|refine a3f ?_|refine a9 ?_|refine a14 ?_|refine a15 ?_|refine a16 ?_|refine a18 ?_|refine a21 ?_|refine a25 ?_|refine ai1 ?_|refine ai2 ?_|refine ai3 ?_|refine ai4 ?_|refine ai6 ?_|refine alit ?_|refine da_skip ?_|refine da_nil ?_)|(refine bl ?_;first|refine bbd ?_|refine bbl ?_|refine b1 ?_|refine b14 ?_|refine b17t ?_|refine b17 ?_|refine b25 ?_|refine db_nil ?_)|refine al_cons (fun id hid=>?_)|refine al_nil ?_|(refine jc ?_;first|refine c1 ?_|refine c2 ?_|refine c3 ?_|refine c4 ?_|refine c5 ?_|refine c6 ?_|refine c7 ?_|refine c8 ?_|refine cqa ?_|refine cqk ?_|refine cq ?_)|refine n1 ?_|refine n2 ?_|refine n3 ?_|refine n4 ?_|refine n5 ?_|refine n6 ?_|refine n7 ?_|refine n8 ?_|refine n9 ?_|refine n10 ?_|refine n13 ?_|refine n11 ?_|refine n12 ?_|refine n14 ?_|refine n15 ?_|refine n16 ?_)
  rename_i b hb
  have h5 := idxG_lt (isC nm) l 0
  have h6 := idxG_get (isC nm) l 0
  repeat' (first|(first|(refine jl ?_;first|refine j7 ?_|refine j8 ?_|refine j10 ?_|refine j11 ?_|refine jtf ?_|refine jb ?_|refine jbl ?_|refine j1 ?_|refine j2 ?_|refine j3 ?_|refine j3f ?_|refine j4 ?_|refine j5 ?_|refine j6 ?_|refine j9 ?_|refine j12 (fun id hid=>?_)|refine j13 (fun id hid=>?_)|refine j14 ?_|refine j15 ?_|refine j17t ?_|refine j17 ?_|refine j16 ?_|refine j18 ?_|refine j19 ?_|refine j20 ?_|refine j21 ?_|refine j23 ?_|refine j24 ?_|refine j25 ?_|refine j26 ?_|refine jeq ?_|refine jeqq ?_|refine jne ?_|refine jneq ?_|refine jxe ?_|refine jxn ?_|refine jcbq ?_|refine ji1 ?_|refine ji2 ?_|refine ji3 ?_|refine ji4 ?_|refine ji5 ?_|refine ji6 ?_|refine j22 (fun id hid=>?_)|refine lj_to rfl rfl rfl (q_index_classes (isC nm) rfl nl full l (fun x => q_find1 (St.set_ne2 (St.nn0 hid) (St.set_same _ _ _)) x)) ?_|refine jlit ?_|refine jmk ?_|refine jap ?_)|(refine dl ?_;first|refine d7 ?_|refine d8 ?_|refine d10 ?_|refine d11 ?_|refine dtf ?_|refine dbd ?_|refine dbl ?_|refine d1 ?_|refine d2 ?_|refine d3 ?_|refine d3f ?_|refine d4 ?_|refine d9 ?_|refine d14 ?_|refine d14a ?_|refine d15 ?_|refine d16 ?_|refine d18 ?_|refine d19 ?_|refine d20 ?_|refine d21 ?_|refine d25 ?_|refine d17 ?_|refine deq ?_|refine deqq ?_|refine dne ?_|refine dneq ?_|refine dxe ?_|refine dxn ?_|refine dcb ?_|refine dcbq ?_|refine di1 ?_|refine di2 ?_|refine di3 ?_|refine di4 ?_|refine di6 ?_)|(refine al ?_;first|refine a7 ?_|refine a8 ?_|refine a10 ?_|refine a11 ?_|refine abd ?_|refine abl ?_|refine a1 ?_|refine a2 ?_|refine a3 ?_|refine a3f ?_|refine a9 ?_|refine a14 ?_|refine a15 ?_|refine a16 ?_|refine a18 ?_|refine a21 ?_|refine a25 ?_|refine ai1 ?_|refine ai2 ?_|refine ai3 ?_|refine ai4 ?_|refine ai6 ?_|refine alit ?_|refine da_skip ?_|refine da_nil ?_)|(refine bl ?_;first|refine bbd ?_|refine bbl ?_|refine b1 ?_|refine b14 ?_|refine b17t ?_|refine b17 ?_|refine b25 ?_|refine db_nil ?_)|refine al_cons (fun id hid=>?_)|refine al_nil ?_|(refine jc ?_;first|refine c1 ?_|refine c2 ?_|refine c3 ?_|refine c4 ?_|refine c5 ?_|refine c6 ?_|refine c7 ?_|refine c8 ?_|refine cqa ?_|refine cqk ?_|refine cq ?_)|refine n1 ?_|refine n2 ?_|refine n3 ?_|refine n4 ?_|refine n5 ?_|refine n6 ?_|refine n7 ?_|refine n8 ?_|refine n9 ?_|refine n10 ?_|refine n13 ?_|refine n11 ?_|refine n12 ?_|refine n14 ?_|refine n15 ?_|refine n16 ?_)|(refine c9 (fun h=>?_) (fun h=>?_)<;>(try simp only [Bool.or_eq_true, Bool.and_eq_true, Bool.or_eq_false_iff, Bool.and_eq_false_iff, Bool.not_eq_true', Bool.not_eq_false', decide_eq_true_eq, decide_eq_false_iff_not, Bool.false_eq_true, Bool.true_eq_false, reduceCtorEq] at h)))
  · have : findC nm l = none := by rw [findC, List.find?_eq_none]; intro x hx; simp [h5.1 h x hx]
    rw [this]
    exact gvs (fin_two (.wk (Wk.agg ⟨Wk.refl _, Wk.sl _ _ _ _, trivial⟩)) (Fin.refl _ _ _))
  · obtain ⟨j, x, e1, e2, e3, e4⟩ := h6 (by omega)
    rw [Nat.zero_add] at e1
    have h7 := get_map cc e2
    rw [e1]
    repeat (first|(refine jl ?_;first|refine j7 ?_|refine j8 ?_|refine j10 ?_|refine j11 ?_|refine jtf ?_|refine jb ?_|refine jbl ?_|refine j1 ?_|refine j2 ?_|refine j3 ?_|refine j3f ?_|refine j4 ?_|refine j5 ?_|refine j6 ?_|refine j9 ?_|refine j12 (fun id hid=>?_)|refine j13 (fun id hid=>?_)|refine j14 ?_|refine j15 ?_|refine j17t ?_|refine j17 ?_|refine j16 ?_|refine j18 ?_|refine j19 ?_|refine j20 ?_|refine j21 ?_|refine j23 ?_|refine j24 ?_|refine j25 ?_|refine j26 ?_|refine jeq ?_|refine jeqq ?_|refine jne ?_|refine jneq ?_|refine jxe ?_|refine jxn ?_|refine jcbq ?_|refine ji1 ?_|refine ji2 ?_|refine ji3 ?_|refine ji4 ?_|refine ji5 ?_|refine ji6 ?_|refine j22 (fun id hid=>?_)|refine jlit ?_|refine jmk ?_|refine jap ?_)|(refine dl ?_;first|refine d7 ?_|refine d8 ?_|refine d10 ?_|refine d11 ?_|refine dtf ?_|refine dbd ?_|refine dbl ?_|refine d1 ?_|refine d2 ?_|refine d3 ?_|refine d3f ?_|refine d4 ?_|refine d9 ?_|refine d14 ?_|refine d14a ?_|refine d15 ?_|refine d16 ?_|refine d18 ?_|refine d19 ?_|refine d20 ?_|refine d21 ?_|refine d25 ?_|refine d17 ?_|refine deq ?_|refine deqq ?_|refine dne ?_|refine dneq ?_|refine dxe ?_|refine dxn ?_|refine dcb ?_|refine dcbq ?_|refine di1 ?_|refine di2 ?_|refine di3 ?_|refine di4 ?_|refine di6 ?_)|(refine al ?_;first|refine a7 ?_|refine a8 ?_|refine a10 ?_|refine a11 ?_|refine abd ?_|refine abl ?_|refine a1 ?_|refine a2 ?_|refine a3 ?_|refine a3f ?_|refine a9 ?_|refine a14 ?_|refine a15 ?_|refine a16 ?_|refine a18 ?_|refine a21 ?_|refine a25 ?_|refine ai1 ?_|refine ai2 ?_|refine ai3 ?_|refine ai4 ?_|refine ai6 ?_|refine alit ?_|refine da_skip ?_|refine da_nil ?_)|(refine bl ?_;first|refine bbd ?_|refine bbl ?_|refine b1 ?_|refine b14 ?_|refine b17t ?_|refine b17 ?_|refine b25 ?_|refine db_nil ?_)|refine al_cons (fun id hid=>?_)|refine al_nil ?_|(refine jc ?_;first|refine c1 ?_|refine c2 ?_|refine c3 ?_|refine c4 ?_|refine c5 ?_|refine c6 ?_|refine c7 ?_|refine c8 ?_|refine cqa ?_|refine cqk ?_|refine cq ?_)|refine n1 ?_|refine n2 ?_|refine n3 ?_|refine n4 ?_|refine n5 ?_|refine n6 ?_|refine n7 ?_|refine n8 ?_|refine n9 ?_|refine n10 ?_|refine n13 ?_|refine n11 ?_|refine n12 ?_|refine n14 ?_|refine n15 ?_|refine n16 ?_)
    have : findC nm l = some x := e4
    rw [this]
    exact ge rfl
end Go.Proofs.YtcpokdjppedaoaaDoor.Ab

/- Values: signs of preds, the code points of words. -/
set_option linter.unusedVariables false
set_option linter.unusedSimpArgs false
set_option maxRecDepth 20000
namespace Go.Proofs.YtcpokdjppedaoaaDoor.Ab
open Go
attribute [local irreducible] thn inb endR CJ LJ OpJ DJ

def inP (c : Int) : Prop := 128 ≤ c ∨ (97 ≤ c ∧ c ≤ 122) ∨ (65 ≤ c ∧ c ≤ 90) ∨ (48 ≤ c ∧ c ≤ 57) ∨ c = 95 ∨ c = 45 ∨ c = 63 ∨ c = 33 ∨ c = 43 ∨ c = 42 ∨ c = 46
instance (c : Int) : Decidable (inP c) := by unfold inP; exact inferInstance
theorem in_yes {c : Int} (h : inP c) : Wk (.v (.bool true)) (.v (.bool (decide (inP c)))) := Wk.of_eq (by rw [decide_eq_true h])
theorem in_no {c : Int} (h : ¬ inP c) : Wk (.v (.bool false)) (.v (.bool (decide (inP c)))) := Wk.of_eq (by rw [decide_eq_false h])
end Go.Proofs.YtcpokdjppedaoaaDoor.Ab

/- Values: the code points of words. -/
set_option linter.unusedVariables false
set_option linter.unusedSimpArgs false
set_option maxRecDepth 20000
namespace Go.Proofs.YtcpokdjppedaoaaDoor.Ab
open Go
attribute [local irreducible] thn inb endR CJ LJ OpJ DJ

theorem in_dec {c : Int} {b : Bool} (h : if b then inP c else ¬ inP c) : Wk (.v (.bool b)) (.v (.bool (decide (inP c)))) := by
  cases b with
  | true => exact in_yes (by simpa using h)
  | false => exact in_no (by simpa using h)
theorem p_in (c : Int) : Pure Tryd.prog 92 [.v (.int .i32 c)] (.v (.bool (decide (inP c)))) := by
  refine enterW Tryd.func92 rfl rfl rfl rfl (fun σ => ?_)
  repeat' (first|(first|(refine jl ?_;first|refine j7 ?_|refine j8 ?_|refine j10 ?_|refine j11 ?_|refine jtf ?_|refine jb ?_|refine jbl ?_|refine j1 ?_|refine j2 ?_|refine j3 ?_|refine j3f ?_|refine j4 ?_|refine j5 ?_|refine j6 ?_|refine j9 ?_|refine j12 (fun id hid=>?_)|refine j13 (fun id hid=>?_)|refine j14 ?_|refine j15 ?_|refine j17t ?_|refine j17 ?_|refine j16 ?_|refine j18 ?_|refine j19 ?_|refine j20 ?_|refine j21 ?_|refine j23 ?_|refine j24 ?_|refine j25 ?_|refine j26 ?_|refine jeq ?_|refine jeqq ?_|refine jne ?_|refine jneq ?_|refine jxe ?_|refine jxn ?_|refine jcbq ?_|refine ji1 ?_|refine ji2 ?_|refine ji3 ?_|refine ji4 ?_|refine ji5 ?_|refine ji6 ?_|refine j22 (fun id hid=>?_)|refine jlit ?_|refine jmk ?_|refine jap ?_)|(refine dl ?_;first|refine d7 ?_|refine d8 ?_|refine d10 ?_|refine d11 ?_|refine dtf ?_|refine dbd ?_|refine dbl ?_|refine d1 ?_|refine d2 ?_|refine d3 ?_|refine d3f ?_|refine d4 ?_|refine d9 ?_|refine d14 ?_|refine d14a ?_|refine d15 ?_|refine d16 ?_|refine d18 ?_|refine d19 ?_|refine d20 ?_|refine d21 ?_|refine d25 ?_|refine d17 ?_|refine deq ?_|refine deqq ?_|refine dne ?_|refine dneq ?_|refine dxe ?_|refine dxn ?_|refine dcb ?_|refine dcbq ?_|refine di1 ?_|refine di2 ?_|refine di3 ?_|refine di4 ?_|refine di6 ?_)|(refine al ?_;first|refine a7 ?_|refine a8 ?_|refine a10 ?_|refine a11 ?_|refine abd ?_|refine abl ?_|refine a1 ?_|refine a2 ?_|refine a3 ?_|refine a3f ?_|refine a9 ?_|refine a14 ?_|refine a15 ?_|refine a16 ?_|refine a18 ?_|refine a21 ?_|refine a25 ?_|refine ai1 ?_|refine ai2 ?_|refine ai3 ?_|refine ai4 ?_|refine ai6 ?_|refine alit ?_|refine da_skip ?_|refine da_nil ?_)|(refine bl ?_;first|refine bbd ?_|refine bbl ?_|refine b1 ?_|refine b14 ?_|refine b17t ?_|refine b17 ?_|refine b25 ?_|refine db_nil ?_)|refine al_cons (fun id hid=>?_)|refine al_nil ?_|(refine jc ?_;first|refine c1 ?_|refine c2 ?_|refine c3 ?_|refine c4 ?_|refine c5 ?_|refine c6 ?_|refine c7 ?_|refine c8 ?_|refine cqa ?_|refine cqk ?_|refine cq ?_)|refine n1 ?_|refine n2 ?_|refine n3 ?_|refine n4 ?_|refine n5 ?_|refine n6 ?_|refine n7 ?_|refine n8 ?_|refine n9 ?_|refine n10 ?_|refine n13 ?_|refine n11 ?_|refine n12 ?_|refine n14 ?_|refine n15 ?_|refine n16 ?_)|(refine c9 (fun h=>?_) (fun h=>?_)<;>(try simp only [Bool.or_eq_true, Bool.and_eq_true, Bool.or_eq_false_iff, Bool.and_eq_false_iff, Bool.not_eq_true', Bool.not_eq_false', decide_eq_true_eq, decide_eq_false_iff_not, Bool.false_eq_true, Bool.true_eq_false, reduceCtorEq] at h)))
  all_goals refine gives (St.le_refl _) (fin_one (.wk (in_dec ?_)))
  all_goals simp only [Bool.false_eq_true, if_true, if_false]
  all_goals unfold inP
  all_goals omega
end Go.Proofs.YtcpokdjppedaoaaDoor.Ab

/-
  DERIVED: THE SHELF's CONTRACTS AT THIS DUMP, IN PLAIN WORDS (tools/lay-plain.mjs out of 'YtcpokdjppedaoaaDoorShelf.lean', which tools/lay-shelf.mjs wrote): THE SAME DECLARATIONS UNDER THE SAME YtcpokdjppedaoaaDoorS: 'import', 'namespace', 'open', 'def', 'theorem' AND NOTHING ELSE: no command of the shelf's: FOR A HAND-IN. Each laying: the table of numbers ('.._ren') and one theorem, a field a fact of the dump's own or the kernel's comparison; each contract: ONE APPLICATION.
-/
namespace Go.Proofs
open Go.Shelf
def Tryd.laysValid_ren : Go.Shelf.Ren := ⟨fun | 196 => 91 | 259 => 96 | n => n, fun | 9 => 9 | 4 => 4 | 3 => 3 | 5 => 5 | 12 => 12 | 119 => 134 | 0 => 0 | 46 => 138 | 139 => 137 | 138 => 136 | 53 => 139 | n => n, fun | 3 => 0 | 4 => 1 | n => n⟩
theorem Tryd.laysValid : Go.Proofs.Lays.n196 Tryd.prog Tryd.laysValid_ren := {
  mixed := by kernel_rfl
  f196 := Tryd.func91.trans (congrArg some (by kernel_rfl))
  f259 := Tryd.func96.trans (congrArg some (by kernel_rfl))
  t0 := Tryd.underlying0
  a0 := Tryd.isAgg0
  z0 := Tryd.sizeOf0
  v0 := Tryd.zeroValue0
  t3 := Tryd.underlying3
  a3 := Tryd.isAgg3
  z3 := Tryd.sizeOf3
  v3 := Tryd.zeroValue3
  t4 := Tryd.underlying4
  a4 := Tryd.isAgg4
  z4 := Tryd.sizeOf4
  v4 := Tryd.zeroValue4
  t5 := Tryd.underlying5
  a5 := Tryd.isAgg5
  z5 := Tryd.sizeOf5
  v5 := Tryd.zeroValue5
  t9 := Tryd.underlying9
  a9 := Tryd.isAgg9
  z9 := Tryd.sizeOf9
  v9 := Tryd.zeroValue9
  t12 := Tryd.underlying12
  a12 := Tryd.isAgg12
  z12 := Tryd.sizeOf12
  v12 := Tryd.zeroValue12
  t46 := Tryd.underlying138
  a46 := Tryd.isAgg138
  z46 := Tryd.sizeOf138
  v46 := Tryd.zeroValue138
  t53 := Tryd.underlying139
  a53 := Tryd.isAgg139
  z53 := Tryd.sizeOf139
  v53 := Tryd.zeroValue139
  t119 := Tryd.underlying134
  a119 := Tryd.isAgg134
  z119 := Tryd.sizeOf134
  t138 := Tryd.underlying136
  a138 := Tryd.isAgg136
  z138 := Tryd.sizeOf136
  v138 := Tryd.zeroValue136
  t139 := Tryd.underlying137
  a139 := Tryd.isAgg137
  z139 := Tryd.sizeOf137
  v139 := Tryd.zeroValue137
  g3 := by kernel_rfl
  g4 := by kernel_rfl }
end Go.Proofs

/- Go's own utf8.ValidString, by the shelf's contract. -/
set_option linter.unusedVariables false
set_option linter.unusedSimpArgs false
set_option maxRecDepth 20000
namespace Go.Proofs.YtcpokdjppedaoaaDoor.Ab
open Go Go.RowKit
theorem pure_below {P : Program} {f : FuncId} {args : List AV} {x : Value} (hx : x.oneCell' = true) (h : ∀ (k : Cx) (vs : List Value), Ok k → Reps k args vs → Calls P f vs.toArray k.w (fun e w' => e = .returned x ∧ Below k.w.heap.size k.w w')) : Pure P f args (.v x) := fun σ k vs hσ hk hv =>
  (h k vs hk hv).mono fun e w' ⟨h1, h2⟩ => by
    obtain ⟨hok, hst⟩ := hk.world w' h2.os h2.tape h2.output h2.size h2.block
    subst h1
    exact ⟨{ k with w := w' }, .ret (.v x), rfl, hok, hst, .v hx, rfl, hσ ▸ St.le_refl _⟩
theorem reps_one {k : Cx} {x : Value} {vs : List Value} (h : Reps k [.v x] vs) : vs = [x] := by
  obtain ⟨h1, h2⟩ := h
  match vs, h1 with
  | [v], _ =>
    have := h2 0 (.v x) v rfl rfl
    cases this
    rfl
theorem p_valid (s : ByteArray) (hs : s.size ≤ 9223372036854775807) : Pure Tryd.prog 91 [.v (.string s)] (.v (.bool (Lib.validD s.data.toList))) :=
  pure_below rfl fun k vs hk hv => by
    rw [reps_one hv]
    exact Any.utf8_ValidString Tryd.laysValid s k.w hs hk.gr.1
end Go.Proofs.YtcpokdjppedaoaaDoor.Ab

/- Values: the reference's own code points. -/
set_option linter.unusedVariables false
set_option linter.unusedSimpArgs false
set_option maxRecDepth 20000
namespace Go.Proofs.YtcpokdjppedaoaaDoor.Ab
open Go
attribute [local irreducible] thn inb endR CJ LJ OpJ DJ

/-- The reference's own: a code point and its width, or nothing. -/
def runeN (n b0 b1 b2 b3 : Nat) : Nat × Nat :=
  if b0 < 128 then (b0, 1)
  else if b0 < 194 then (0, 0)
  else if b0 < 224 then (if n < 2 ∨ b1 < 128 ∨ 191 < b1 then (0, 0) else (64 * (b0 - 192) + b1 - 128, 2))
  else if b0 < 240 then (if n < 3 ∨ b1 < 128 ∨ 191 < b1 ∨ b2 < 128 ∨ 191 < b2 ∨ 64 * (64 * (b0 - 224) + b1 - 128) + b2 - 128 < 2048 ∨ (55296 ≤ 64 * (64 * (b0 - 224) + b1 - 128) + b2 - 128 ∧ 64 * (64 * (b0 - 224) + b1 - 128) + b2 - 128 < 57344) then (0, 0) else (64 * (64 * (b0 - 224) + b1 - 128) + b2 - 128, 3))
  else if b0 < 245 then (if n < 4 ∨ b1 < 128 ∨ 191 < b1 ∨ b2 < 128 ∨ 191 < b2 ∨ b3 < 128 ∨ 191 < b3 ∨ 64 * (64 * (64 * (b0 - 240) + b1 - 128) + b2 - 128) + b3 - 128 < 65536 ∨ 1114111 < 64 * (64 * (64 * (b0 - 240) + b1 - 128) + b2 - 128) + b3 - 128 then (0, 0) else (64 * (64 * (64 * (b0 - 240) + b1 - 128) + b2 - 128) + b3 - 128, 4))
  else (0, 0)
theorem runeN_dec (n b0 b1 b2 b3 : Nat) (h0 : b0 < 256) (h1 : b1 < 256) (h2 : b2 < 256) (h3 : b3 < 256) : runeN n b0 b1 b2 b3 = if (Lib.decodeN n b0 b1 b2 b3).1 = 65533 ∧ (Lib.decodeN n b0 b1 b2 b3).2 = 1 then (0, 0) else Lib.decodeN n b0 b1 b2 b3 := by
  unfold runeN Lib.decodeN
  repeat' split
  all_goals try dsimp only at *
  all_goals first | (exfalso; omega) | (refine Prod.ext ?_ ?_ <;> dsimp only <;> omega)
def runeS (s : ByteArray) : Nat × Nat := runeN s.size (bt s 0) (bt s 1) (bt s 2) (bt s 3)
set_option maxHeartbeats 4000000 in
theorem p_rrune (s : ByteArray) (hs : 0 < s.size) : Pure Tryd.prog 93 [.v (.string s)] (.tup [.v (.int .i64 (runeS s).1), .v (.int .i64 (runeS s).2)]) := by
  refine enterW Tryd.func93 rfl rfl rfl rfl (fun σ => ?_)
  have hb0 := bt_lt s 0
  have hb1 := bt_lt s 1
  have hb2 := bt_lt s 2
  have hb3 := bt_lt s 3
  repeat' (first|(first|(refine jl ?_;first|refine j7 ?_|refine j8 ?_|refine j10 ?_|refine j11 ?_|refine jtf ?_|refine jb ?_|refine jbl ?_|refine j1 ?_|refine j2 ?_|refine j3 ?_|refine j3f ?_|refine j4 ?_|refine j5 ?_|refine j6 ?_|refine j9 ?_|refine j12 (fun id hid=>?_)|refine j13 (fun id hid=>?_)|refine j14 ?_|refine j15 ?_|refine j17t ?_|refine j17 ?_|refine j16 ?_|refine j18 ?_|refine j19 ?_|refine j20 ?_|refine j21 ?_|refine j23 ?_|refine j24 ?_|refine j25 ?_|refine j26 ?_|refine jeq ?_|refine jeqq ?_|refine jne ?_|refine jneq ?_|refine jxe ?_|refine jxn ?_|refine jcbq ?_|refine ji1 ?_|refine ji2 ?_|refine ji3 ?_|refine ji4 ?_|refine ji5 ?_|refine ji6 ?_|refine j22 (fun id hid=>?_)|refine jlit ?_|refine jmk ?_|refine jap ?_)|(refine dl ?_;first|refine d7 ?_|refine d8 ?_|refine d10 ?_|refine d11 ?_|refine dtf ?_|refine dbd ?_|refine dbl ?_|refine d1 ?_|refine d2 ?_|refine d3 ?_|refine d3f ?_|refine d4 ?_|refine d9 ?_|refine d14 ?_|refine d14a ?_|refine d15 ?_|refine d16 ?_|refine d18 ?_|refine d19 ?_|refine d20 ?_|refine d21 ?_|refine d25 ?_|refine d17 ?_|refine deq ?_|refine deqq ?_|refine dne ?_|refine dneq ?_|refine dxe ?_|refine dxn ?_|refine dcb ?_|refine dcbq ?_|refine di1 ?_|refine di2 ?_|refine di3 ?_|refine di4 ?_|refine di6 ?_)|(refine al ?_;first|refine a7 ?_|refine a8 ?_|refine a10 ?_|refine a11 ?_|refine abd ?_|refine abl ?_|refine a1 ?_|refine a2 ?_|refine a3 ?_|refine a3f ?_|refine a9 ?_|refine a14 ?_|refine a15 ?_|refine a16 ?_|refine a18 ?_|refine a21 ?_|refine a25 ?_|refine ai1 ?_|refine ai2 ?_|refine ai3 ?_|refine ai4 ?_|refine ai6 ?_|refine alit ?_|refine da_skip ?_|refine da_nil ?_)|(refine bl ?_;first|refine bbd ?_|refine bbl ?_|refine b1 ?_|refine b14 ?_|refine b17t ?_|refine b17 ?_|refine b25 ?_|refine db_nil ?_)|refine al_cons (fun id hid=>?_)|refine al_nil ?_|(refine jc ?_;first|refine c1 ?_|refine c2 ?_|refine c3 ?_|refine c4 ?_|refine c5 ?_|refine c6 ?_|refine c7 ?_|refine c8 ?_|refine cqa ?_|refine cqk ?_|refine cq ?_)|refine n1 ?_|refine n2 ?_|refine n3 ?_|refine n4 ?_|refine n5 ?_|refine n6 ?_|refine n7 ?_|refine n8 ?_|refine n9 ?_|refine n10 ?_|refine n13 ?_|refine n11 ?_|refine n12 ?_|refine n14 ?_|refine n15 ?_|refine n16 ?_)|(refine c9 (fun h=>?_) (fun h=>?_)<;>((try simp only [Bool.or_eq_true, Bool.and_eq_true, Bool.or_eq_false_iff, Bool.and_eq_false_iff, Bool.not_eq_true', Bool.not_eq_false', decide_eq_true_eq, decide_eq_false_iff_not, Bool.false_eq_true, Bool.true_eq_false, reduceCtorEq] at h) <;> (try simp (disch := omega) only [sb_bt, w64, Int.reduceAdd, Int.reduceToNat, Int.toNat_natCast, not_true_eq_false, false_or] at h) <;> (try (exfalso; omega)))))
  all_goals try (refine cj_unroll 3 ?_)
  repeat' (first|(first|(refine jl ?_;first|refine j7 ?_|refine j8 ?_|refine j10 ?_|refine j11 ?_|refine jtf ?_|refine jb ?_|refine jbl ?_|refine j1 ?_|refine j2 ?_|refine j3 ?_|refine j3f ?_|refine j4 ?_|refine j5 ?_|refine j6 ?_|refine j9 ?_|refine j12 (fun id hid=>?_)|refine j13 (fun id hid=>?_)|refine j14 ?_|refine j15 ?_|refine j17t ?_|refine j17 ?_|refine j16 ?_|refine j18 ?_|refine j19 ?_|refine j20 ?_|refine j21 ?_|refine j23 ?_|refine j24 ?_|refine j25 ?_|refine j26 ?_|refine jeq ?_|refine jeqq ?_|refine jne ?_|refine jneq ?_|refine jxe ?_|refine jxn ?_|refine jcbq ?_|refine ji1 ?_|refine ji2 ?_|refine ji3 ?_|refine ji4 ?_|refine ji5 ?_|refine ji6 ?_|refine j22 (fun id hid=>?_)|refine jlit ?_|refine jmk ?_|refine jap ?_)|(refine dl ?_;first|refine d7 ?_|refine d8 ?_|refine d10 ?_|refine d11 ?_|refine dtf ?_|refine dbd ?_|refine dbl ?_|refine d1 ?_|refine d2 ?_|refine d3 ?_|refine d3f ?_|refine d4 ?_|refine d9 ?_|refine d14 ?_|refine d14a ?_|refine d15 ?_|refine d16 ?_|refine d18 ?_|refine d19 ?_|refine d20 ?_|refine d21 ?_|refine d25 ?_|refine d17 ?_|refine deq ?_|refine deqq ?_|refine dne ?_|refine dneq ?_|refine dxe ?_|refine dxn ?_|refine dcb ?_|refine dcbq ?_|refine di1 ?_|refine di2 ?_|refine di3 ?_|refine di4 ?_|refine di6 ?_)|(refine al ?_;first|refine a7 ?_|refine a8 ?_|refine a10 ?_|refine a11 ?_|refine abd ?_|refine abl ?_|refine a1 ?_|refine a2 ?_|refine a3 ?_|refine a3f ?_|refine a9 ?_|refine a14 ?_|refine a15 ?_|refine a16 ?_|refine a18 ?_|refine a21 ?_|refine a25 ?_|refine ai1 ?_|refine ai2 ?_|refine ai3 ?_|refine ai4 ?_|refine ai6 ?_|refine alit ?_|refine da_skip ?_|refine da_nil ?_)|(refine bl ?_;first|refine bbd ?_|refine bbl ?_|refine b1 ?_|refine b14 ?_|refine b17t ?_|refine b17 ?_|refine b25 ?_|refine db_nil ?_)|refine al_cons (fun id hid=>?_)|refine al_nil ?_|(refine jc ?_;first|refine c1 ?_|refine c2 ?_|refine c3 ?_|refine c4 ?_|refine c5 ?_|refine c6 ?_|refine c7 ?_|refine c8 ?_|refine cqa ?_|refine cqk ?_|refine cq ?_)|refine n1 ?_|refine n2 ?_|refine n3 ?_|refine n4 ?_|refine n5 ?_|refine n6 ?_|refine n7 ?_|refine n8 ?_|refine n9 ?_|refine n10 ?_|refine n13 ?_|refine n11 ?_|refine n12 ?_|refine n14 ?_|refine n15 ?_|refine n16 ?_)|(refine c9 (fun h=>?_) (fun h=>?_)<;>((try simp only [Bool.or_eq_true, Bool.and_eq_true, Bool.or_eq_false_iff, Bool.and_eq_false_iff, Bool.not_eq_true', Bool.not_eq_false', decide_eq_true_eq, decide_eq_false_iff_not, Bool.false_eq_true, Bool.true_eq_false, reduceCtorEq] at h) <;> (try simp (disch := omega) only [sb_bt, w64, Int.reduceAdd, Int.reduceToNat, Int.toNat_natCast, not_true_eq_false, false_or] at h) <;> (try (exfalso; omega)))))
  all_goals try (simp (disch := omega) only [sb_bt, w64, Int.reduceAdd, Int.reduceToNat, not_true_eq_false, false_or] at *)
  all_goals refine gives (St.le_refl _) (fin_two (.wk (Wk.of_eq ?_)) (.wk (Wk.of_eq ?_)))
  all_goals simp only [ofLeaf, runeS, runeN, AV.v.injEq, Value.int.injEq, true_and]
  all_goals repeat' split
  all_goals omega
end Go.Proofs.YtcpokdjppedaoaaDoor.Ab

/- Values: words. -/
set_option linter.unusedVariables false
set_option linter.unusedSimpArgs false
set_option maxRecDepth 20000
namespace Go.Proofs.YtcpokdjppedaoaaDoor.Ab
open Go
attribute [local irreducible] thn inb endR CJ LJ OpJ DJ

/-- All code points of a text may stand in a word; each one is right. -/
def wordF : Nat → List UInt8 → Bool
  | 0, _ => true
  | n + 1, l => if l = [] then true else if (Lib.decodeL l).1 = 65533 ∧ (Lib.decodeL l).2 = 1 then false else decide (inP (Lib.decodeL l).1) && wordF n (l.drop (Lib.decodeL l).2)
theorem wordF_nil (n : Nat) : wordF n [] = true := by cases n <;> rfl
theorem wordF_fuel : ∀ (n m : Nat) (l : List UInt8), l.length ≤ n → l.length ≤ m → wordF n l = wordF m l
  | 0, m, l, hn, _ => by
    have : l = [] := List.eq_nil_of_length_eq_zero (by omega)
    subst this
    rw [wordF_nil, wordF_nil]
  | n + 1, 0, l, _, hm => by
    have : l = [] := List.eq_nil_of_length_eq_zero (by omega)
    subst this
    rw [wordF_nil, wordF_nil]
  | n + 1, m + 1, l, hn, hm => by
    unfold wordF
    by_cases hne : l = []
    · simp [hne]
    · have hw := Lib.decodeL_width l
      have hl : 0 < l.length := List.length_pos_iff.2 hne
      rw [if_neg hne, if_neg hne, wordF_fuel n m (l.drop (Lib.decodeL l).2) (by rw [List.length_drop]; omega) (by rw [List.length_drop]; omega)]
def wordL (l : List UInt8) : Bool := wordF l.length l
theorem wordL_nil : wordL [] = true := rfl
theorem wordL_step (l : List UInt8) (hne : l ≠ []) : wordL l = if (Lib.decodeL l).1 = 65533 ∧ (Lib.decodeL l).2 = 1 then false else decide (inP (Lib.decodeL l).1) && wordL (l.drop (Lib.decodeL l).2) := by
  have hl : 0 < l.length := List.length_pos_iff.2 hne
  have hw := Lib.decodeL_width l
  obtain ⟨n, hn⟩ : ∃ n, l.length = n + 1 := ⟨l.length - 1, by omega⟩
  unfold wordL
  rw [hn]
  show (if l = [] then true else _) = _
  rw [if_neg hne, wordF_fuel n (l.drop (Lib.decodeL l).2).length _ (by rw [List.length_drop]; omega) (Nat.le_refl _)]
/-- What the walk over a right text tells. -/
theorem wordL_valid (l : List UInt8) (hne : l ≠ []) (hv : Lib.validD l = true) : wordL l = (decide (inP (Lib.decodeL l).1) && wordL (l.drop (Lib.decodeL l).2)) ∧ Lib.validD (l.drop (Lib.decodeL l).2) = true := by
  rw [Lib.validD_step l hne] at hv
  split at hv
  · cases hv
  · rename_i h
    rw [wordL_step l hne, if_neg h]
    exact ⟨rfl, hv⟩
theorem wordL_bad (n : Nat) : ∀ (l : List UInt8), l.length ≤ n → Lib.validD l = false → wordL l = false := by
  induction n with
  | zero =>
    intro l hl hv
    have : l = [] := List.eq_nil_of_length_eq_zero (by omega)
    subst this
    cases hv
  | succ n ih =>
    intro l hl hv
    by_cases hne : l = []
    · subst hne; cases hv
    · have hw := Lib.decodeL_width l
      have hl0 : 0 < l.length := List.length_pos_iff.2 hne
      rw [wordL_step l hne]
      rw [Lib.validD_step l hne] at hv
      split
      · rfl
      · rename_i h
        rw [if_neg h] at hv
        rw [ih _ (by rw [List.length_drop]; omega) hv, Bool.and_false]
def wordB (s : ByteArray) : Bool := decide (0 < s.size) && (decide (s.size ≤ 24) && wordL s.data.toList)
theorem bl_len (s : ByteArray) : s.data.toList.length = s.size := by rw [Array.length_toList]; rfl
theorem decodeL_rune' (s : ByteArray) (pos : Nat) : Utf8.decode s pos = Lib.decodeL (s.data.toList.drop pos) := (Lib.decodeL_drop s pos).symm
theorem p_word (s : ByteArray) : Pure Tryd.prog 81 [.v (.string s)] (.v (.bool (wordB s))) := by
  refine enterW Tryd.func81 rfl rfl rfl rfl (fun σ => ?_)
  repeat' (first|(first|(refine jl ?_;first|refine j7 ?_|refine j8 ?_|refine j10 ?_|refine j11 ?_|refine jtf ?_|refine jb ?_|refine jbl ?_|refine j1 ?_|refine j2 ?_|refine j3 ?_|refine j3f ?_|refine j4 ?_|refine j5 ?_|refine j6 ?_|refine j9 ?_|refine j12 (fun id hid=>?_)|refine j13 (fun id hid=>?_)|refine j14 ?_|refine j15 ?_|refine j17t ?_|refine j17 ?_|refine j16 ?_|refine j18 ?_|refine j19 ?_|refine j20 ?_|refine j21 ?_|refine j23 ?_|refine j24 ?_|refine j25 ?_|refine j26 ?_|refine jeq ?_|refine jeqq ?_|refine jne ?_|refine jneq ?_|refine jxe ?_|refine jxn ?_|refine jcbq ?_|refine ji1 ?_|refine ji2 ?_|refine ji3 ?_|refine ji4 ?_|refine ji5 ?_|refine ji6 ?_|refine j22 (fun id hid=>?_)|refine jp (p_valid s (by simp only [Bool.and_eq_true, decide_eq_true_eq, Bool.not_eq_true', Bool.or_eq_false_iff, decide_eq_false_iff_not] at hc; omega)) ?_|refine jpy (p_valid s (by simp only [Bool.and_eq_true, decide_eq_true_eq, Bool.not_eq_true', Bool.or_eq_false_iff, decide_eq_false_iff_not] at hc; omega)) ?_|refine jcq (hp:=fun hc=>p_valid s (by simp only [Bool.and_eq_true, decide_eq_true_eq, Bool.not_eq_true', Bool.or_eq_false_iff, decide_eq_false_iff_not] at hc; omega)) ?_|refine jlit ?_|refine jmk ?_|refine jap ?_)|(refine dl ?_;first|refine d7 ?_|refine d8 ?_|refine d10 ?_|refine d11 ?_|refine dtf ?_|refine dbd ?_|refine dbl ?_|refine d1 ?_|refine d2 ?_|refine d3 ?_|refine d3f ?_|refine d4 ?_|refine d9 ?_|refine d14 ?_|refine d14a ?_|refine d15 ?_|refine d16 ?_|refine d18 ?_|refine d19 ?_|refine d20 ?_|refine d21 ?_|refine d25 ?_|refine d17 ?_|refine deq ?_|refine deqq ?_|refine dne ?_|refine dneq ?_|refine dxe ?_|refine dxn ?_|refine dcb ?_|refine dcbq ?_|refine di1 ?_|refine di2 ?_|refine di3 ?_|refine di4 ?_|refine di6 ?_|refine dp (p_valid s (by simp only [Bool.and_eq_true, decide_eq_true_eq, Bool.not_eq_true', Bool.or_eq_false_iff, decide_eq_false_iff_not] at hc; omega)) ?_|refine dpy (p_valid s (by simp only [Bool.and_eq_true, decide_eq_true_eq, Bool.not_eq_true', Bool.or_eq_false_iff, decide_eq_false_iff_not] at hc; omega)) ?_|refine dpq (hp:=fun hc=>p_valid s (by simp only [Bool.and_eq_true, decide_eq_true_eq, Bool.not_eq_true', Bool.or_eq_false_iff, decide_eq_false_iff_not] at hc; omega)) ?_)|(refine al ?_;first|refine a7 ?_|refine a8 ?_|refine a10 ?_|refine a11 ?_|refine abd ?_|refine abl ?_|refine a1 ?_|refine a2 ?_|refine a3 ?_|refine a3f ?_|refine a9 ?_|refine a14 ?_|refine a15 ?_|refine a16 ?_|refine a18 ?_|refine a21 ?_|refine a25 ?_|refine ai1 ?_|refine ai2 ?_|refine ai3 ?_|refine ai4 ?_|refine ai6 ?_|refine alit ?_|refine ap (p_valid s (by simp only [Bool.and_eq_true, decide_eq_true_eq, Bool.not_eq_true', Bool.or_eq_false_iff, decide_eq_false_iff_not] at hc; omega)) ?_|refine apy (p_valid s (by simp only [Bool.and_eq_true, decide_eq_true_eq, Bool.not_eq_true', Bool.or_eq_false_iff, decide_eq_false_iff_not] at hc; omega)) ?_|refine da_skip ?_|refine da_nil ?_)|(refine bl ?_;first|refine bbd ?_|refine bbl ?_|refine b1 ?_|refine b14 ?_|refine b17t ?_|refine b17 ?_|refine b25 ?_|refine db_nil ?_)|refine al_cons (fun id hid=>?_)|refine al_nil ?_|(refine jc ?_;first|refine c1 ?_|refine c2 ?_|refine c3 ?_|refine c4 ?_|refine c5 ?_|refine c6 ?_|refine c7 ?_|refine c8 ?_|refine cqa ?_|refine cqk ?_|refine cq ?_)|refine n1 ?_|refine n2 ?_|refine n3 ?_|refine n4 ?_|refine n5 ?_|refine n6 ?_|refine n7 ?_|refine n8 ?_|refine n9 ?_|refine n10 ?_|refine n13 ?_|refine n11 ?_|refine n12 ?_|refine n14 ?_|refine n15 ?_|refine n16 ?_)|(refine c9 (fun h=>?_) (fun h=>?_)<;>(try simp only [Bool.or_eq_true, Bool.and_eq_true, Bool.or_eq_false_iff, Bool.and_eq_false_iff, Bool.not_eq_true', Bool.not_eq_false', decide_eq_true_eq, decide_eq_false_iff_not, Bool.false_eq_true, Bool.true_eq_false, reduceCtorEq] at h)))
  · refine gives (St.le_refl _) (fin_one (.wk (Wk.of_eq ?_)))
    have hw : wordB s = false := by
      unfold wordB
      rcases h with (h | h) | h
      · rw [decide_eq_false (by omega)]; rfl
      · rw [decide_eq_false (by omega : ¬ s.size ≤ 24)]; simp
      · rw [wordL_bad _ _ (Nat.le_refl _) h]; simp
    rw [hw]
  · obtain ⟨h1, h2⟩ := h
    have hw : wordB s = wordL s.data.toList := by
      unfold wordB
      rw [decide_eq_true (by omega), decide_eq_true (by omega : s.size ≤ 24)]
      rfl
    rw [hw]
    have hlen := bl_len s
    refine cj_head (fun p : Nat => wordL (s.data.toList.drop p) = wordL s.data.toList ∧ Lib.validD (s.data.toList.drop p) = true) (fun p => [(19, .it id)]) (fun p => σ.set id (.siter s p)) (fun p => s.size - p) 0 ⟨rfl, h2⟩ ⟨rfl, trivial⟩ (St.le_refl _) (fun p hp => ?_)
    obtain ⟨hp1, hp2⟩ := hp
    by_cases hlt : p < s.size
    · have hne : s.data.toList.drop p ≠ [] := by
        intro e
        have := congrArg List.length e
        simp at this
        omega
      have hstep := wordL_valid _ hne hp2
      have hdw := Lib.decodeL_width (s.data.toList.drop p)
      rw [List.drop_drop] at hstep
      repeat' (first|(first|(refine jl ?_;first|refine j7 ?_|refine j8 ?_|refine j10 ?_|refine j11 ?_|refine jtf ?_|refine jb ?_|refine jbl ?_|refine j1 ?_|refine j2 ?_|refine j3 ?_|refine j3f ?_|refine j4 ?_|refine j5 ?_|refine j6 ?_|refine j9 ?_|refine j12 (fun id hid=>?_)|refine j13 (fun id hid=>?_)|refine j14 ?_|refine j15 ?_|refine j17t ?_|refine j17 ?_|refine j16 ?_|refine j18 ?_|refine j19 ?_|refine j20 ?_|refine j21 ?_|refine j23 ?_|refine j24 ?_|refine j25 ?_|refine j26 ?_|refine jeq ?_|refine jeqq ?_|refine jne ?_|refine jneq ?_|refine jxe ?_|refine jxn ?_|refine jcbq ?_|refine ji1 ?_|refine ji2 ?_|refine ji3 ?_|refine ji4 ?_|refine ji5 ?_|refine ji6 ?_|refine j22 (fun id hid=>?_)|refine jp (p_in _) ?_|refine jpy (p_in _) ?_|refine jcq (hp:=fun hc=>p_in _) ?_|refine jlit ?_|refine jmk ?_|refine jap ?_)|(refine dl ?_;first|refine d7 ?_|refine d8 ?_|refine d10 ?_|refine d11 ?_|refine dtf ?_|refine dbd ?_|refine dbl ?_|refine d1 ?_|refine d2 ?_|refine d3 ?_|refine d3f ?_|refine d4 ?_|refine d9 ?_|refine d14 ?_|refine d14a ?_|refine d15 ?_|refine d16 ?_|refine d18 ?_|refine d19 ?_|refine d20 ?_|refine d21 ?_|refine d25 ?_|refine d17 ?_|refine deq ?_|refine deqq ?_|refine dne ?_|refine dneq ?_|refine dxe ?_|refine dxn ?_|refine dcb ?_|refine dcbq ?_|refine di1 ?_|refine di2 ?_|refine di3 ?_|refine di4 ?_|refine di6 ?_|refine dp (p_in _) ?_|refine dpy (p_in _) ?_|refine dpq (hp:=fun hc=>p_in _) ?_)|(refine al ?_;first|refine a7 ?_|refine a8 ?_|refine a10 ?_|refine a11 ?_|refine abd ?_|refine abl ?_|refine a1 ?_|refine a2 ?_|refine a3 ?_|refine a3f ?_|refine a9 ?_|refine a14 ?_|refine a15 ?_|refine a16 ?_|refine a18 ?_|refine a21 ?_|refine a25 ?_|refine ai1 ?_|refine ai2 ?_|refine ai3 ?_|refine ai4 ?_|refine ai6 ?_|refine alit ?_|refine ap (p_in _) ?_|refine apy (p_in _) ?_|refine da_skip ?_|refine da_nil ?_)|(refine bl ?_;first|refine bbd ?_|refine bbl ?_|refine b1 ?_|refine b14 ?_|refine b17t ?_|refine b17 ?_|refine b25 ?_|refine db_nil ?_)|refine al_cons (fun id hid=>?_)|refine al_nil ?_|(refine jc ?_;first|refine c1 ?_|refine c2 ?_|refine c3 ?_|refine c4 ?_|refine c5 ?_|refine c6 ?_|refine c7 ?_|refine c8 ?_|refine cqa ?_|refine cqk ?_|refine cq ?_)|refine n1 ?_|refine n2 ?_|refine n3 ?_|refine n4 ?_|refine n5 ?_|refine n6 ?_|refine n7 ?_|refine n8 ?_|refine n9 ?_|refine n10 ?_|refine n13 ?_|refine n11 ?_|refine n12 ?_|refine n14 ?_|refine n15 ?_|refine n16 ?_)|(refine c9 (fun h=>?_) (fun h=>?_)<;>(try simp only [Bool.or_eq_true, Bool.and_eq_true, Bool.or_eq_false_iff, Bool.and_eq_false_iff, Bool.not_eq_true', Bool.not_eq_false', decide_eq_true_eq, decide_eq_false_iff_not, Bool.false_eq_true, Bool.true_eq_false, reduceCtorEq] at h)))
      · rw [decodeL_rune'] at h
        refine gives (by rw [St.set_set]; exact St.le_set _ hid) (fin_one (.wk (Wk.of_eq ?_)))
        rw [← hp1, hstep.1, decide_eq_false h]
        rfl
      · rw [decodeL_rune'] at h
        refine nx_thn ⟨p + (Utf8.decode s p).2, ?_, ?_, ⟨rfl, trivial⟩, by rw [St.set_set]; exact St.le_refl _⟩
        · rw [decodeL_rune']
          refine ⟨?_, hstep.2⟩
          rw [← hp1, hstep.1, decide_eq_true h, Bool.true_and]
        · rw [decodeL_rune']
          omega
    · have hnil : s.data.toList.drop p = [] := List.drop_of_length_le (by omega)
      repeat' (first|(first|(refine jl ?_;first|refine j7 ?_|refine j8 ?_|refine j10 ?_|refine j11 ?_|refine jtf ?_|refine jb ?_|refine jbl ?_|refine j1 ?_|refine j2 ?_|refine j3 ?_|refine j3f ?_|refine j4 ?_|refine j5 ?_|refine j6 ?_|refine j9 ?_|refine j12 (fun id hid=>?_)|refine j13 (fun id hid=>?_)|refine j14 ?_|refine j15 ?_|refine j17t ?_|refine j17 ?_|refine j16 ?_|refine j18 ?_|refine j19 ?_|refine j20 ?_|refine j21 ?_|refine j23 ?_|refine j24 ?_|refine j25 ?_|refine j26 ?_|refine jeq ?_|refine jeqq ?_|refine jne ?_|refine jneq ?_|refine jxe ?_|refine jxn ?_|refine jcbq ?_|refine ji1 ?_|refine ji2 ?_|refine ji3 ?_|refine ji4 ?_|refine ji5 ?_|refine ji6 ?_|refine j22 (fun id hid=>?_)|refine jlit ?_|refine jmk ?_|refine jap ?_)|(refine dl ?_;first|refine d7 ?_|refine d8 ?_|refine d10 ?_|refine d11 ?_|refine dtf ?_|refine dbd ?_|refine dbl ?_|refine d1 ?_|refine d2 ?_|refine d3 ?_|refine d3f ?_|refine d4 ?_|refine d9 ?_|refine d14 ?_|refine d14a ?_|refine d15 ?_|refine d16 ?_|refine d18 ?_|refine d19 ?_|refine d20 ?_|refine d21 ?_|refine d25 ?_|refine d17 ?_|refine deq ?_|refine deqq ?_|refine dne ?_|refine dneq ?_|refine dxe ?_|refine dxn ?_|refine dcb ?_|refine dcbq ?_|refine di1 ?_|refine di2 ?_|refine di3 ?_|refine di4 ?_|refine di6 ?_)|(refine al ?_;first|refine a7 ?_|refine a8 ?_|refine a10 ?_|refine a11 ?_|refine abd ?_|refine abl ?_|refine a1 ?_|refine a2 ?_|refine a3 ?_|refine a3f ?_|refine a9 ?_|refine a14 ?_|refine a15 ?_|refine a16 ?_|refine a18 ?_|refine a21 ?_|refine a25 ?_|refine ai1 ?_|refine ai2 ?_|refine ai3 ?_|refine ai4 ?_|refine ai6 ?_|refine alit ?_|refine da_skip ?_|refine da_nil ?_)|(refine bl ?_;first|refine bbd ?_|refine bbl ?_|refine b1 ?_|refine b14 ?_|refine b17t ?_|refine b17 ?_|refine b25 ?_|refine db_nil ?_)|refine al_cons (fun id hid=>?_)|refine al_nil ?_|(refine jc ?_;first|refine c1 ?_|refine c2 ?_|refine c3 ?_|refine c4 ?_|refine c5 ?_|refine c6 ?_|refine c7 ?_|refine c8 ?_|refine cqa ?_|refine cqk ?_|refine cq ?_)|refine n1 ?_|refine n2 ?_|refine n3 ?_|refine n4 ?_|refine n5 ?_|refine n6 ?_|refine n7 ?_|refine n8 ?_|refine n9 ?_|refine n10 ?_|refine n13 ?_|refine n11 ?_|refine n12 ?_|refine n14 ?_|refine n15 ?_|refine n16 ?_)|(refine c9 (fun h=>?_) (fun h=>?_)<;>(try simp only [Bool.or_eq_true, Bool.and_eq_true, Bool.or_eq_false_iff, Bool.and_eq_false_iff, Bool.not_eq_true', Bool.not_eq_false', decide_eq_true_eq, decide_eq_false_iff_not, Bool.false_eq_true, Bool.true_eq_false, reduceCtorEq] at h)))
      refine gives (St.le_set _ hid) (fin_one (.wk (Wk.of_eq ?_)))
      rw [← hp1, hnil]
      rfl
/-! ### The reference -/
theorem runeS_dec (s : ByteArray) : runeS s = if (Lib.decodeL s.data.toList).1 = 65533 ∧ (Lib.decodeL s.data.toList).2 = 1 then (0, 0) else Lib.decodeL s.data.toList := by
  unfold runeS
  rw [runeN_dec _ _ _ _ _ (bt_lt s 0) (bt_lt s 1) (bt_lt s 2) (bt_lt s 3), Lib.decodeL_N, bl_len]
  rfl
def inSigns : ByteArray := ⟨#[95, 45, 63, 33, 43, 42, 46]⟩
theorem inSigns_has (i : Nat) (h : i < 7) : inP (bt inSigns i : Int) := by
  have : i = 0 ∨ i = 1 ∨ i = 2 ∨ i = 3 ∨ i = 4 ∨ i = 5 ∨ i = 6 := by omega
  rcases this with rfl | rfl | rfl | rfl | rfl | rfl | rfl <;> decide
theorem inSigns_all (c : Int) (h : inP c) (h1 : c < 128 ∧ (¬97 ≤ c ∨ ¬c ≤ 122) ∧ (¬65 ≤ c ∨ ¬c ≤ 90) ∧ (¬48 ≤ c ∨ ¬c ≤ 57)) : ∃ i, i < 7 ∧ (bt inSigns i : Int) = c := by
  unfold inP at h
  have : c = 95 ∨ c = 45 ∨ c = 63 ∨ c = 33 ∨ c = 43 ∨ c = 42 ∨ c = 46 := by omega
  rcases this with rfl | rfl | rfl | rfl | rfl | rfl | rfl
  · exact ⟨0, by omega, rfl⟩
  · exact ⟨1, by omega, rfl⟩
  · exact ⟨2, by omega, rfl⟩
  · exact ⟨3, by omega, rfl⟩
  · exact ⟨4, by omega, rfl⟩
  · exact ⟨5, by omega, rfl⟩
  · exact ⟨6, by omega, rfl⟩
theorem p_rinword (c : Int) : Pure Tryd.prog 94 [.v (.int .i64 c)] (.v (.bool (decide (inP c)))) := by
  refine enterW Tryd.func94 rfl rfl rfl rfl (fun σ => ?_)
  repeat' (first|(first|(refine jl ?_;first|refine j7 ?_|refine j8 ?_|refine j10 ?_|refine j11 ?_|refine jtf ?_|refine jb ?_|refine jbl ?_|refine j1 ?_|refine j2 ?_|refine j3 ?_|refine j3f ?_|refine j4 ?_|refine j5 ?_|refine j6 ?_|refine j9 ?_|refine j12 (fun id hid=>?_)|refine j13 (fun id hid=>?_)|refine j14 ?_|refine j15 ?_|refine j17t ?_|refine j17 ?_|refine j16 ?_|refine j18 ?_|refine j19 ?_|refine j20 ?_|refine j21 ?_|refine j23 ?_|refine j24 ?_|refine j25 ?_|refine j26 ?_|refine jeq ?_|refine jeqq ?_|refine jne ?_|refine jneq ?_|refine jxe ?_|refine jxn ?_|refine jcbq ?_|refine ji1 ?_|refine ji2 ?_|refine ji3 ?_|refine ji4 ?_|refine ji5 ?_|refine ji6 ?_|refine j22 (fun id hid=>?_)|refine jlit ?_|refine jmk ?_|refine jap ?_)|(refine dl ?_;first|refine d7 ?_|refine d8 ?_|refine d10 ?_|refine d11 ?_|refine dtf ?_|refine dbd ?_|refine dbl ?_|refine d1 ?_|refine d2 ?_|refine d3 ?_|refine d3f ?_|refine d4 ?_|refine d9 ?_|refine d14 ?_|refine d14a ?_|refine d15 ?_|refine d16 ?_|refine d18 ?_|refine d19 ?_|refine d20 ?_|refine d21 ?_|refine d25 ?_|refine d17 ?_|refine deq ?_|refine deqq ?_|refine dne ?_|refine dneq ?_|refine dxe ?_|refine dxn ?_|refine dcb ?_|refine dcbq ?_|refine di1 ?_|refine di2 ?_|refine di3 ?_|refine di4 ?_|refine di6 ?_)|(refine al ?_;first|refine a7 ?_|refine a8 ?_|refine a10 ?_|refine a11 ?_|refine abd ?_|refine abl ?_|refine a1 ?_|refine a2 ?_|refine a3 ?_|refine a3f ?_|refine a9 ?_|refine a14 ?_|refine a15 ?_|refine a16 ?_|refine a18 ?_|refine a21 ?_|refine a25 ?_|refine ai1 ?_|refine ai2 ?_|refine ai3 ?_|refine ai4 ?_|refine ai6 ?_|refine alit ?_|refine da_skip ?_|refine da_nil ?_)|(refine bl ?_;first|refine bbd ?_|refine bbl ?_|refine b1 ?_|refine b14 ?_|refine b17t ?_|refine b17 ?_|refine b25 ?_|refine db_nil ?_)|refine al_cons (fun id hid=>?_)|refine al_nil ?_|(refine jc ?_;first|refine c1 ?_|refine c2 ?_|refine c3 ?_|refine c4 ?_|refine c5 ?_|refine c6 ?_|refine c7 ?_|refine c8 ?_|refine cqa ?_|refine cqk ?_|refine cq ?_)|refine n1 ?_|refine n2 ?_|refine n3 ?_|refine n4 ?_|refine n5 ?_|refine n6 ?_|refine n7 ?_|refine n8 ?_|refine n9 ?_|refine n10 ?_|refine n13 ?_|refine n11 ?_|refine n12 ?_|refine n14 ?_|refine n15 ?_|refine n16 ?_)|(refine c9 (fun h=>?_) (fun h=>?_)<;>(try simp only [Bool.or_eq_true, Bool.and_eq_true, Bool.or_eq_false_iff, Bool.and_eq_false_iff, Bool.not_eq_true', Bool.not_eq_false', decide_eq_true_eq, decide_eq_false_iff_not, Bool.false_eq_true, Bool.true_eq_false, reduceCtorEq] at h)))
  · exact gives (St.le_refl _) (fin_one (.wk (in_yes (by unfold inP; omega))))
  · refine cj_head (fun i : Nat => i ≤ 7 ∧ ∀ j, j < i → (bt inSigns j : Int) ≠ c) (fun i => [(3, .v (.string inSigns)), (4, .v (.int .i64 i)), (0, .v (.int .i64 c))]) (fun _ => σ) (fun i => 7 - i) 0 ⟨by omega, fun j h => by omega⟩ ⟨rfl, rfl, rfl, trivial⟩ (St.le_refl _) (fun i hi => ?_)
    obtain ⟨hi1, hi2⟩ := hi
    have hz : inSigns.size = 7 := rfl
    have hb := bt_lt inSigns i
    repeat' (first|(first|(refine jl ?_;first|refine j7 ?_|refine j8 ?_|refine j10 ?_|refine j11 ?_|refine jtf ?_|refine jb ?_|refine jbl ?_|refine j1 ?_|refine j2 ?_|refine j3 ?_|refine j3f ?_|refine j4 ?_|refine j5 ?_|refine j6 ?_|refine j9 ?_|refine j12 (fun id hid=>?_)|refine j13 (fun id hid=>?_)|refine j14 ?_|refine j15 ?_|refine j17t ?_|refine j17 ?_|refine j16 ?_|refine j18 ?_|refine j19 ?_|refine j20 ?_|refine j21 ?_|refine j23 ?_|refine j24 ?_|refine j25 ?_|refine j26 ?_|refine jeq ?_|refine jeqq ?_|refine jne ?_|refine jneq ?_|refine jxe ?_|refine jxn ?_|refine jcbq ?_|refine ji1 ?_|refine ji2 ?_|refine ji3 ?_|refine ji4 ?_|refine ji5 ?_|refine ji6 ?_|refine j22 (fun id hid=>?_)|refine jlit ?_|refine jmk ?_|refine jap ?_)|(refine dl ?_;first|refine d7 ?_|refine d8 ?_|refine d10 ?_|refine d11 ?_|refine dtf ?_|refine dbd ?_|refine dbl ?_|refine d1 ?_|refine d2 ?_|refine d3 ?_|refine d3f ?_|refine d4 ?_|refine d9 ?_|refine d14 ?_|refine d14a ?_|refine d15 ?_|refine d16 ?_|refine d18 ?_|refine d19 ?_|refine d20 ?_|refine d21 ?_|refine d25 ?_|refine d17 ?_|refine deq ?_|refine deqq ?_|refine dne ?_|refine dneq ?_|refine dxe ?_|refine dxn ?_|refine dcb ?_|refine dcbq ?_|refine di1 ?_|refine di2 ?_|refine di3 ?_|refine di4 ?_|refine di6 ?_)|(refine al ?_;first|refine a7 ?_|refine a8 ?_|refine a10 ?_|refine a11 ?_|refine abd ?_|refine abl ?_|refine a1 ?_|refine a2 ?_|refine a3 ?_|refine a3f ?_|refine a9 ?_|refine a14 ?_|refine a15 ?_|refine a16 ?_|refine a18 ?_|refine a21 ?_|refine a25 ?_|refine ai1 ?_|refine ai2 ?_|refine ai3 ?_|refine ai4 ?_|refine ai6 ?_|refine alit ?_|refine da_skip ?_|refine da_nil ?_)|(refine bl ?_;first|refine bbd ?_|refine bbl ?_|refine b1 ?_|refine b14 ?_|refine b17t ?_|refine b17 ?_|refine b25 ?_|refine db_nil ?_)|refine al_cons (fun id hid=>?_)|refine al_nil ?_|(refine jc ?_;first|refine c1 ?_|refine c2 ?_|refine c3 ?_|refine c4 ?_|refine c5 ?_|refine c6 ?_|refine c7 ?_|refine c8 ?_|refine cqa ?_|refine cqk ?_|refine cq ?_)|refine n1 ?_|refine n2 ?_|refine n3 ?_|refine n4 ?_|refine n5 ?_|refine n6 ?_|refine n7 ?_|refine n8 ?_|refine n9 ?_|refine n10 ?_|refine n13 ?_|refine n11 ?_|refine n12 ?_|refine n14 ?_|refine n15 ?_|refine n16 ?_)|(refine c9 (fun h=>?_) (fun h=>?_)<;>((try simp only [Bool.or_eq_true, Bool.and_eq_true, Bool.or_eq_false_iff, Bool.and_eq_false_iff, Bool.not_eq_true', Bool.not_eq_false', decide_eq_true_eq, decide_eq_false_iff_not, Bool.false_eq_true, Bool.true_eq_false, reduceCtorEq] at h) <;> (try simp (disch := omega) only [sb_bt, w64, Int.reduceAdd, Int.reduceToNat, Int.toNat_natCast, not_true_eq_false, false_or] at h) <;> (try (exfalso; omega)))))
    · refine gives (St.le_refl _) (fin_one (.wk (in_yes ?_)))
      rw [← h]
      exact inSigns_has i (by omega)
    · exact nx_thn ⟨i + 1, ⟨by omega, fun j hj => by
        by_cases e : j = i
        · rw [e]; exact h
        · exact hi2 j (by omega)⟩, by omega, ⟨rfl, by show some (AV.v (.int .i64 (IntKind.i64.wrap ((i : Int) + 1)))) = _; rw [w64 (by omega) (by omega)]; rfl, rfl, trivial⟩, St.le_refl _⟩
    · rename_i h1
      refine gives (St.le_refl _) (fin_one (.wk (in_no fun hp => ?_)))
      obtain ⟨j, hj, he⟩ := inSigns_all c hp ⟨by omega, by omega, by omega, by omega⟩
      exact hi2 j (by omega) he
theorem wordL_ext (s : ByteArray) (hs : 0 < s.size) : wordL s.data.toList = if (runeS s).2 = 0 then false else decide (inP (runeS s).1) && wordL (s.extract (runeS s).2 s.size).data.toList := by
  have hne : s.data.toList ≠ [] := fun e => by
    have := bl_len s
    rw [e] at this
    exact absurd this (by simp; omega)
  have hw := Lib.decodeL_width s.data.toList
  rw [wordL_step _ hne, runeS_dec]
  split
  · rfl
  · rw [if_neg (by omega), Lib.ext_list]
theorem runeS_le (s : ByteArray) (hs : 0 < s.size) : (runeS s).2 ≤ s.size := by
  have hne : s.data.toList ≠ [] := fun e => by
    have := bl_len s
    rw [e] at this
    exact absurd this (by simp; omega)
  have := Lib.decodeL_le s.data.toList hne
  rw [bl_len] at this
  rw [runeS_dec]
  split
  · exact Nat.zero_le _
  · exact this
theorem p_rword (s : ByteArray) : Pure Tryd.prog 82 [.v (.string s)] (.v (.bool (wordB s))) := by
  refine enterW Tryd.func82 rfl rfl rfl rfl (fun σ => ?_)
  repeat' (first|(first|(refine jl ?_;first|refine j7 ?_|refine j8 ?_|refine j10 ?_|refine j11 ?_|refine jtf ?_|refine jb ?_|refine jbl ?_|refine j1 ?_|refine j2 ?_|refine j3 ?_|refine j3f ?_|refine j4 ?_|refine j5 ?_|refine j6 ?_|refine j9 ?_|refine j12 (fun id hid=>?_)|refine j13 (fun id hid=>?_)|refine j14 ?_|refine j15 ?_|refine j17t ?_|refine j17 ?_|refine j16 ?_|refine j18 ?_|refine j19 ?_|refine j20 ?_|refine j21 ?_|refine j23 ?_|refine j24 ?_|refine j25 ?_|refine j26 ?_|refine jeq ?_|refine jeqq ?_|refine jne ?_|refine jneq ?_|refine jxe ?_|refine jxn ?_|refine jcbq ?_|refine ji1 ?_|refine ji2 ?_|refine ji3 ?_|refine ji4 ?_|refine ji5 ?_|refine ji6 ?_|refine j22 (fun id hid=>?_)|refine jlit ?_|refine jmk ?_|refine jap ?_)|(refine dl ?_;first|refine d7 ?_|refine d8 ?_|refine d10 ?_|refine d11 ?_|refine dtf ?_|refine dbd ?_|refine dbl ?_|refine d1 ?_|refine d2 ?_|refine d3 ?_|refine d3f ?_|refine d4 ?_|refine d9 ?_|refine d14 ?_|refine d14a ?_|refine d15 ?_|refine d16 ?_|refine d18 ?_|refine d19 ?_|refine d20 ?_|refine d21 ?_|refine d25 ?_|refine d17 ?_|refine deq ?_|refine deqq ?_|refine dne ?_|refine dneq ?_|refine dxe ?_|refine dxn ?_|refine dcb ?_|refine dcbq ?_|refine di1 ?_|refine di2 ?_|refine di3 ?_|refine di4 ?_|refine di6 ?_)|(refine al ?_;first|refine a7 ?_|refine a8 ?_|refine a10 ?_|refine a11 ?_|refine abd ?_|refine abl ?_|refine a1 ?_|refine a2 ?_|refine a3 ?_|refine a3f ?_|refine a9 ?_|refine a14 ?_|refine a15 ?_|refine a16 ?_|refine a18 ?_|refine a21 ?_|refine a25 ?_|refine ai1 ?_|refine ai2 ?_|refine ai3 ?_|refine ai4 ?_|refine ai6 ?_|refine alit ?_|refine da_skip ?_|refine da_nil ?_)|(refine bl ?_;first|refine bbd ?_|refine bbl ?_|refine b1 ?_|refine b14 ?_|refine b17t ?_|refine b17 ?_|refine b25 ?_|refine db_nil ?_)|refine al_cons (fun id hid=>?_)|refine al_nil ?_|(refine jc ?_;first|refine c1 ?_|refine c2 ?_|refine c3 ?_|refine c4 ?_|refine c5 ?_|refine c6 ?_|refine c7 ?_|refine c8 ?_|refine cqa ?_|refine cqk ?_|refine cq ?_)|refine n1 ?_|refine n2 ?_|refine n3 ?_|refine n4 ?_|refine n5 ?_|refine n6 ?_|refine n7 ?_|refine n8 ?_|refine n9 ?_|refine n10 ?_|refine n13 ?_|refine n11 ?_|refine n12 ?_|refine n14 ?_|refine n15 ?_|refine n16 ?_)|(refine c9 (fun h=>?_) (fun h=>?_)<;>(try simp only [Bool.or_eq_true, Bool.and_eq_true, Bool.or_eq_false_iff, Bool.and_eq_false_iff, Bool.not_eq_true', Bool.not_eq_false', decide_eq_true_eq, decide_eq_false_iff_not, Bool.false_eq_true, Bool.true_eq_false, reduceCtorEq] at h)))
  · refine gives (St.le_refl _) (fin_one (.wk (Wk.of_eq ?_)))
    have hw : wordB s = false := by
      unfold wordB
      rcases h with h | h
      · rw [decide_eq_false (by omega)]; rfl
      · rw [decide_eq_false (by omega : ¬ s.size ≤ 24)]; simp
    rw [hw]
  · have hw : wordB s = wordL s.data.toList := by
      unfold wordB
      rw [decide_eq_true (by omega), decide_eq_true (by omega : s.size ≤ 24)]
      rfl
    rw [hw]
    refine cj_head (fun t : ByteArray => wordL t.data.toList = wordL s.data.toList ∧ t.size ≤ 24) (fun t => [(0, .v (.string t))]) (fun _ => σ) (fun t => t.size) s ⟨rfl, by omega⟩ ⟨rfl, trivial⟩ (St.le_refl _) (fun t ht => ?_)
    obtain ⟨ht1, ht2⟩ := ht
    by_cases h0 : 0 < t.size
    · have hst := wordL_ext t h0
      have hle := runeS_le t h0
      repeat' (first|(first|(refine jl ?_;first|refine j7 ?_|refine j8 ?_|refine j10 ?_|refine j11 ?_|refine jtf ?_|refine jb ?_|refine jbl ?_|refine j1 ?_|refine j2 ?_|refine j3 ?_|refine j3f ?_|refine j4 ?_|refine j5 ?_|refine j6 ?_|refine j9 ?_|refine j12 (fun id hid=>?_)|refine j13 (fun id hid=>?_)|refine j14 ?_|refine j15 ?_|refine j17t ?_|refine j17 ?_|refine j16 ?_|refine j18 ?_|refine j19 ?_|refine j20 ?_|refine j21 ?_|refine j23 ?_|refine j24 ?_|refine j25 ?_|refine j26 ?_|refine jeq ?_|refine jeqq ?_|refine jne ?_|refine jneq ?_|refine jxe ?_|refine jxn ?_|refine jcbq ?_|refine ji1 ?_|refine ji2 ?_|refine ji3 ?_|refine ji4 ?_|refine ji5 ?_|refine ji6 ?_|refine j22 (fun id hid=>?_)|refine jp (p_rrune t h0) ?_|refine jpy (p_rrune t h0) ?_|refine jcq (hp:=fun hc=>p_rrune t h0) ?_|refine jp (p_rinword _) ?_|refine jpy (p_rinword _) ?_|refine jcq (hp:=fun hc=>p_rinword _) ?_|refine jlit ?_|refine jmk ?_|refine jap ?_)|(refine dl ?_;first|refine d7 ?_|refine d8 ?_|refine d10 ?_|refine d11 ?_|refine dtf ?_|refine dbd ?_|refine dbl ?_|refine d1 ?_|refine d2 ?_|refine d3 ?_|refine d3f ?_|refine d4 ?_|refine d9 ?_|refine d14 ?_|refine d14a ?_|refine d15 ?_|refine d16 ?_|refine d18 ?_|refine d19 ?_|refine d20 ?_|refine d21 ?_|refine d25 ?_|refine d17 ?_|refine deq ?_|refine deqq ?_|refine dne ?_|refine dneq ?_|refine dxe ?_|refine dxn ?_|refine dcb ?_|refine dcbq ?_|refine di1 ?_|refine di2 ?_|refine di3 ?_|refine di4 ?_|refine di6 ?_|refine dp (p_rrune t h0) ?_|refine dpy (p_rrune t h0) ?_|refine dpq (hp:=fun hc=>p_rrune t h0) ?_|refine dp (p_rinword _) ?_|refine dpy (p_rinword _) ?_|refine dpq (hp:=fun hc=>p_rinword _) ?_)|(refine al ?_;first|refine a7 ?_|refine a8 ?_|refine a10 ?_|refine a11 ?_|refine abd ?_|refine abl ?_|refine a1 ?_|refine a2 ?_|refine a3 ?_|refine a3f ?_|refine a9 ?_|refine a14 ?_|refine a15 ?_|refine a16 ?_|refine a18 ?_|refine a21 ?_|refine a25 ?_|refine ai1 ?_|refine ai2 ?_|refine ai3 ?_|refine ai4 ?_|refine ai6 ?_|refine alit ?_|refine ap (p_rrune t h0) ?_|refine apy (p_rrune t h0) ?_|refine ap (p_rinword _) ?_|refine apy (p_rinword _) ?_|refine da_skip ?_|refine da_nil ?_)|(refine bl ?_;first|refine bbd ?_|refine bbl ?_|refine b1 ?_|refine b14 ?_|refine b17t ?_|refine b17 ?_|refine b25 ?_|refine db_nil ?_)|refine al_cons (fun id hid=>?_)|refine al_nil ?_|(refine jc ?_;first|refine c1 ?_|refine c2 ?_|refine c3 ?_|refine c4 ?_|refine c5 ?_|refine c6 ?_|refine c7 ?_|refine c8 ?_|refine cqa ?_|refine cqk ?_|refine cq ?_)|refine n1 ?_|refine n2 ?_|refine n3 ?_|refine n4 ?_|refine n5 ?_|refine n6 ?_|refine n7 ?_|refine n8 ?_|refine n9 ?_|refine n10 ?_|refine n13 ?_|refine n11 ?_|refine n12 ?_|refine n14 ?_|refine n15 ?_|refine n16 ?_)|(refine c9 (fun h=>?_) (fun h=>?_)<;>((try simp only [Bool.or_eq_true, Bool.and_eq_true, Bool.or_eq_false_iff, Bool.and_eq_false_iff, Bool.not_eq_true', Bool.not_eq_false', decide_eq_true_eq, decide_eq_false_iff_not, Bool.false_eq_true, Bool.true_eq_false, reduceCtorEq] at h) <;> (try simp (disch := omega) only [sb_bt, w64, Int.reduceAdd, Int.reduceToNat, Int.toNat_natCast, not_true_eq_false, false_or] at h) <;> (try (exfalso; omega)))))
      · refine gives (St.le_refl _) (fin_one (.wk (Wk.of_eq ?_)))
        rw [← ht1, hst]
        split
        · rfl
        · rename_i hn
          have : ¬ inP ((runeS t).1 : Int) := by
            rcases h with h | h
            · omega
            · exact h
          rw [decide_eq_false this]
          rfl
      · rw [if_neg (by omega), decide_eq_true h.2, Bool.true_and] at hst
        refine nx_thn ⟨t.extract (runeS t).2 t.size, ⟨by rw [← ht1, hst], by rw [Lib.ext_size]; omega⟩, by rw [Lib.ext_size]; omega, ⟨rfl, trivial⟩, St.le_refl _⟩
    · have hnil : t.data.toList = [] := List.eq_nil_of_length_eq_zero (by rw [bl_len]; omega)
      repeat' (first|(first|(refine jl ?_;first|refine j7 ?_|refine j8 ?_|refine j10 ?_|refine j11 ?_|refine jtf ?_|refine jb ?_|refine jbl ?_|refine j1 ?_|refine j2 ?_|refine j3 ?_|refine j3f ?_|refine j4 ?_|refine j5 ?_|refine j6 ?_|refine j9 ?_|refine j12 (fun id hid=>?_)|refine j13 (fun id hid=>?_)|refine j14 ?_|refine j15 ?_|refine j17t ?_|refine j17 ?_|refine j16 ?_|refine j18 ?_|refine j19 ?_|refine j20 ?_|refine j21 ?_|refine j23 ?_|refine j24 ?_|refine j25 ?_|refine j26 ?_|refine jeq ?_|refine jeqq ?_|refine jne ?_|refine jneq ?_|refine jxe ?_|refine jxn ?_|refine jcbq ?_|refine ji1 ?_|refine ji2 ?_|refine ji3 ?_|refine ji4 ?_|refine ji5 ?_|refine ji6 ?_|refine j22 (fun id hid=>?_)|refine jlit ?_|refine jmk ?_|refine jap ?_)|(refine dl ?_;first|refine d7 ?_|refine d8 ?_|refine d10 ?_|refine d11 ?_|refine dtf ?_|refine dbd ?_|refine dbl ?_|refine d1 ?_|refine d2 ?_|refine d3 ?_|refine d3f ?_|refine d4 ?_|refine d9 ?_|refine d14 ?_|refine d14a ?_|refine d15 ?_|refine d16 ?_|refine d18 ?_|refine d19 ?_|refine d20 ?_|refine d21 ?_|refine d25 ?_|refine d17 ?_|refine deq ?_|refine deqq ?_|refine dne ?_|refine dneq ?_|refine dxe ?_|refine dxn ?_|refine dcb ?_|refine dcbq ?_|refine di1 ?_|refine di2 ?_|refine di3 ?_|refine di4 ?_|refine di6 ?_)|(refine al ?_;first|refine a7 ?_|refine a8 ?_|refine a10 ?_|refine a11 ?_|refine abd ?_|refine abl ?_|refine a1 ?_|refine a2 ?_|refine a3 ?_|refine a3f ?_|refine a9 ?_|refine a14 ?_|refine a15 ?_|refine a16 ?_|refine a18 ?_|refine a21 ?_|refine a25 ?_|refine ai1 ?_|refine ai2 ?_|refine ai3 ?_|refine ai4 ?_|refine ai6 ?_|refine alit ?_|refine da_skip ?_|refine da_nil ?_)|(refine bl ?_;first|refine bbd ?_|refine bbl ?_|refine b1 ?_|refine b14 ?_|refine b17t ?_|refine b17 ?_|refine b25 ?_|refine db_nil ?_)|refine al_cons (fun id hid=>?_)|refine al_nil ?_|(refine jc ?_;first|refine c1 ?_|refine c2 ?_|refine c3 ?_|refine c4 ?_|refine c5 ?_|refine c6 ?_|refine c7 ?_|refine c8 ?_|refine cqa ?_|refine cqk ?_|refine cq ?_)|refine n1 ?_|refine n2 ?_|refine n3 ?_|refine n4 ?_|refine n5 ?_|refine n6 ?_|refine n7 ?_|refine n8 ?_|refine n9 ?_|refine n10 ?_|refine n13 ?_|refine n11 ?_|refine n12 ?_|refine n14 ?_|refine n15 ?_|refine n16 ?_)|(refine c9 (fun h=>?_) (fun h=>?_)<;>((try simp only [Bool.or_eq_true, Bool.and_eq_true, Bool.or_eq_false_iff, Bool.and_eq_false_iff, Bool.not_eq_true', Bool.not_eq_false', decide_eq_true_eq, decide_eq_false_iff_not, Bool.false_eq_true, Bool.true_eq_false, reduceCtorEq] at h) <;> (try simp (disch := omega) only [sb_bt, w64, Int.reduceAdd, Int.reduceToNat, Int.toNat_natCast, not_true_eq_false, false_or] at h) <;> (try (exfalso; omega)))))
      refine gives (St.le_refl _) (fin_one (.wk (Wk.of_eq ?_)))
      rw [← ht1, hnil]
      rfl
end Go.Proofs.YtcpokdjppedaoaaDoor.Ab

/- Values: words that are numbers. -/
set_option linter.unusedVariables false
set_option linter.unusedSimpArgs false
set_option maxRecDepth 20000
namespace Go.Proofs.YtcpokdjppedaoaaDoor.Ab
open Go
attribute [local irreducible] thn inb endR CJ LJ OpJ DJ

abbrev dig (n : Nat) : Prop := 48 ≤ n ∧ n ≤ 57
/-- All bytes are digits. -/
def digB : List UInt8 → Bool
  | [] => true
  | b :: l => decide (dig b.toNat) && digB l
/-- A sign stands ahead. -/
def sgnB (s : ByteArray) : Bool := decide (0 < s.size) && (decide (bt s 0 = 45) || decide (bt s 0 = 43))
def bodyS (s : ByteArray) : ByteArray := if sgnB s then s.extract 1 s.size else s
def minusB (s : ByteArray) : Bool := sgnB s && decide (bt s 0 = 45)
def allD (s : ByteArray) : Bool := digB (bodyS s).data.toList
def isNumB (s : ByteArray) : Bool := allD s && decide (0 < (bodyS s).size)
theorem sgnB_iff (s : ByteArray) : sgnB s = true ↔ 0 < s.size ∧ (bt s 0 = 45 ∨ bt s 0 = 43) := by simp [sgnB]
theorem sb0 (s : ByteArray) : sb s 0 = (bt s 0 : Int) := rfl
theorem decodeL_high (b : UInt8) (t : List UInt8) (h : 128 ≤ b.toNat) : 128 ≤ (Lib.decodeL (b :: t)).1 := by
  have hb : b.toNat < 256 := b.toNat_lt
  rw [Lib.decodeL_N]
  unfold Lib.decodeN
  have e : ((b :: t).getD 0 0).toNat = b.toNat := rfl
  rw [e]
  repeat' split
  all_goals dsimp only
  all_goals omega
/-- One step of a walk by code points, as to digits. -/
theorem digB_step (l : List UInt8) (hne : l ≠ []) : digB l = (decide (dig (Lib.decodeL l).1) && digB (l.drop (Lib.decodeL l).2)) := by
  cases l with
  | nil => exact absurd rfl hne
  | cons b t =>
    by_cases hb : b.toNat < 128
    · rw [Lib.decodeL_ascii b t hb]; rfl
    · have := decodeL_high b t (by omega)
      rw [decide_eq_false (by omega : ¬ dig (Lib.decodeL (b :: t)).1), Bool.false_and]
      unfold digB
      rw [decide_eq_false (by omega : ¬ dig b.toNat), Bool.false_and]
theorem ne_empty (s : ByteArray) : (!decide (s = ⟨#[]⟩)) = decide (0 < s.size) := by
  by_cases h : s = ⟨#[]⟩
  · subst h; rfl
  · rw [decide_eq_false h, decide_eq_true]
    · rfl
    · rcases Nat.eq_zero_or_pos s.size with h0 | h0
      · exact absurd (ByteArray.ext (Array.eq_empty_of_size_eq_zero h0)) h
      · exact h0
theorem drop_bt (s : ByteArray) (i : Nat) (h : i < s.size) : s.data.toList.drop i = s.data.toList[i]'(by rw [bl_len]; exact h) :: s.data.toList.drop (i + 1) ∧ (s.data.toList[i]'(by rw [bl_len]; exact h)).toNat = bt s i := by
  have hl : i < s.data.toList.length := by rw [bl_len]; exact h
  refine ⟨(List.drop_eq_getElem_cons hl), ?_⟩
  unfold bt
  rw [List.getD_eq_getElem?_getD, List.getElem?_eq_getElem hl]
  rfl
theorem p_digits (s : ByteArray) : Pure Tryd.prog 80 [.v (.string s)] (.tup [.v (.string (if allD s then bodyS s else ⟨#[]⟩)), .v (.bool (allD s && minusB s)), .v (.bool (isNumB s))]) := by
  refine enterW Tryd.func80 rfl rfl rfl rfl (fun σ => ?_)
  repeat' (first|(first|(refine jl ?_;first|refine j7 ?_|refine j8 ?_|refine j10 ?_|refine j11 ?_|refine jtf ?_|refine jb ?_|refine jbl ?_|refine j1 ?_|refine j2 ?_|refine j3 ?_|refine j3f ?_|refine j4 ?_|refine j5 ?_|refine j6 ?_|refine j9 ?_|refine j12 (fun id hid=>?_)|refine j13 (fun id hid=>?_)|refine j14 ?_|refine j15 ?_|refine j17t ?_|refine j17 ?_|refine j16 ?_|refine j18 ?_|refine j19 ?_|refine j20 ?_|refine j21 ?_|refine j23 ?_|refine j24 ?_|refine j25 ?_|refine j26 ?_|refine jeq ?_|refine jeqq ?_|refine jne ?_|refine jneq ?_|refine jxe ?_|refine jxn ?_|refine jcbq ?_|refine ji1 ?_|refine ji2 ?_|refine ji3 ?_|refine ji4 ?_|refine ji5 ?_|refine ji6 ?_|refine j22 (fun id hid=>?_)|refine jlit ?_|refine jmk ?_|refine jap ?_)|(refine dl ?_;first|refine d7 ?_|refine d8 ?_|refine d10 ?_|refine d11 ?_|refine dtf ?_|refine dbd ?_|refine dbl ?_|refine d1 ?_|refine d2 ?_|refine d3 ?_|refine d3f ?_|refine d4 ?_|refine d9 ?_|refine d14 ?_|refine d14a ?_|refine d15 ?_|refine d16 ?_|refine d18 ?_|refine d19 ?_|refine d20 ?_|refine d21 ?_|refine d25 ?_|refine d17 ?_|refine deq ?_|refine deqq ?_|refine dne ?_|refine dneq ?_|refine dxe ?_|refine dxn ?_|refine dcb ?_|refine dcbq ?_|refine di1 ?_|refine di2 ?_|refine di3 ?_|refine di4 ?_|refine di6 ?_)|(refine al ?_;first|refine a7 ?_|refine a8 ?_|refine a10 ?_|refine a11 ?_|refine abd ?_|refine abl ?_|refine a1 ?_|refine a2 ?_|refine a3 ?_|refine a3f ?_|refine a9 ?_|refine a14 ?_|refine a15 ?_|refine a16 ?_|refine a18 ?_|refine a21 ?_|refine a25 ?_|refine ai1 ?_|refine ai2 ?_|refine ai3 ?_|refine ai4 ?_|refine ai6 ?_|refine alit ?_|refine da_skip ?_|refine da_nil ?_)|(refine bl ?_;first|refine bbd ?_|refine bbl ?_|refine b1 ?_|refine b14 ?_|refine b17t ?_|refine b17 ?_|refine b25 ?_|refine db_nil ?_)|refine al_cons (fun id hid=>?_)|refine al_nil ?_|(refine jc ?_;first|refine c1 ?_|refine c2 ?_|refine c3 ?_|refine c4 ?_|refine c5 ?_|refine c6 ?_|refine c7 ?_|refine c8 ?_|refine cqa ?_|refine cqk ?_|refine cq ?_)|refine n1 ?_|refine n2 ?_|refine n3 ?_|refine n4 ?_|refine n5 ?_|refine n6 ?_|refine n7 ?_|refine n8 ?_|refine n9 ?_|refine n10 ?_|refine n13 ?_|refine n11 ?_|refine n12 ?_|refine n14 ?_|refine n15 ?_|refine n16 ?_)|(refine c9 (fun h=>?_) (fun h=>?_)<;>(try simp only [Bool.or_eq_true, Bool.and_eq_true, Bool.or_eq_false_iff, Bool.and_eq_false_iff, Bool.not_eq_true', Bool.not_eq_false', decide_eq_true_eq, decide_eq_false_iff_not, Bool.false_eq_true, Bool.true_eq_false, reduceCtorEq] at h)))
  case' refine_1 =>
    rw [sb0] at h
    have hs : sgnB s = true := (sgnB_iff s).2 (by omega)
    have hb : bodyS s = s.extract 1 s.size := by rw [bodyS, if_pos hs]
    have hm : minusB s = decide (sb s 0 = 45) := by rw [minusB, hs, Bool.true_and, sb0]; exact decide_eq_decide.2 (by omega)
    refine cj_head (fun p : Nat => digB ((bodyS s).data.toList.drop p) = allD s) (fun p => [(27, .it id), (2, .v (.string (bodyS s))), (3, .v (.bool (minusB s)))]) (fun p => σ.set id (.siter (bodyS s) p)) (fun p => (bodyS s).size - p) 0 rfl ⟨rfl, by rw [hb]; rfl, by rw [hm]; rfl, trivial⟩ (by rw [hb]; exact St.le_refl _) (fun p hp => ?_)
  case' refine_2 =>
    rw [sb0] at h
    have hs : sgnB s = false := Bool.eq_false_iff.2 fun e => by have := (sgnB_iff s).1 e; omega
    have hb : bodyS s = s := by rw [bodyS, hs]; rfl
    have hm : minusB s = false := by rw [minusB, hs]; rfl
    refine cj_head (fun p : Nat => digB ((bodyS s).data.toList.drop p) = allD s) (fun p => [(27, .it id), (2, .v (.string (bodyS s))), (3, .v (.bool (minusB s)))]) (fun p => σ.set id (.siter (bodyS s) p)) (fun p => (bodyS s).size - p) 0 rfl ⟨rfl, by rw [hb]; rfl, by rw [hm]; rfl, trivial⟩ (by rw [hb]; exact St.le_refl _) (fun p hp => ?_)
  all_goals
    have hlen := bl_len (bodyS s)
    by_cases hlt : p < (bodyS s).size
  all_goals try rw [List.drop_of_length_le (by omega)] at hp
  all_goals try
    have hne : (bodyS s).data.toList.drop p ≠ [] := fun e => by
      have := congrArg List.length e
      rw [List.length_drop] at this
      simp at this
      omega
    have hstep := digB_step _ hne
    have hdw := Lib.decodeL_width ((bodyS s).data.toList.drop p)
    rw [List.drop_drop, hp] at hstep
  repeat' (first|(first|(refine jl ?_;first|refine j7 ?_|refine j8 ?_|refine j10 ?_|refine j11 ?_|refine jtf ?_|refine jb ?_|refine jbl ?_|refine j1 ?_|refine j2 ?_|refine j3 ?_|refine j3f ?_|refine j4 ?_|refine j5 ?_|refine j6 ?_|refine j9 ?_|refine j12 (fun id hid=>?_)|refine j13 (fun id hid=>?_)|refine j14 ?_|refine j15 ?_|refine j17t ?_|refine j17 ?_|refine j16 ?_|refine j18 ?_|refine j19 ?_|refine j20 ?_|refine j21 ?_|refine j23 ?_|refine j24 ?_|refine j25 ?_|refine j26 ?_|refine jeq ?_|refine jeqq ?_|refine jne ?_|refine jneq ?_|refine jxe ?_|refine jxn ?_|refine jcbq ?_|refine ji1 ?_|refine ji2 ?_|refine ji3 ?_|refine ji4 ?_|refine ji5 ?_|refine ji6 ?_|refine j22 (fun id hid=>?_)|refine jlit ?_|refine jmk ?_|refine jap ?_)|(refine dl ?_;first|refine d7 ?_|refine d8 ?_|refine d10 ?_|refine d11 ?_|refine dtf ?_|refine dbd ?_|refine dbl ?_|refine d1 ?_|refine d2 ?_|refine d3 ?_|refine d3f ?_|refine d4 ?_|refine d9 ?_|refine d14 ?_|refine d14a ?_|refine d15 ?_|refine d16 ?_|refine d18 ?_|refine d19 ?_|refine d20 ?_|refine d21 ?_|refine d25 ?_|refine d17 ?_|refine deq ?_|refine deqq ?_|refine dne ?_|refine dneq ?_|refine dxe ?_|refine dxn ?_|refine dcb ?_|refine dcbq ?_|refine di1 ?_|refine di2 ?_|refine di3 ?_|refine di4 ?_|refine di6 ?_)|(refine al ?_;first|refine a7 ?_|refine a8 ?_|refine a10 ?_|refine a11 ?_|refine abd ?_|refine abl ?_|refine a1 ?_|refine a2 ?_|refine a3 ?_|refine a3f ?_|refine a9 ?_|refine a14 ?_|refine a15 ?_|refine a16 ?_|refine a18 ?_|refine a21 ?_|refine a25 ?_|refine ai1 ?_|refine ai2 ?_|refine ai3 ?_|refine ai4 ?_|refine ai6 ?_|refine alit ?_|refine da_skip ?_|refine da_nil ?_)|(refine bl ?_;first|refine bbd ?_|refine bbl ?_|refine b1 ?_|refine b14 ?_|refine b17t ?_|refine b17 ?_|refine b25 ?_|refine db_nil ?_)|refine al_cons (fun id hid=>?_)|refine al_nil ?_|(refine jc ?_;first|refine c1 ?_|refine c2 ?_|refine c3 ?_|refine c4 ?_|refine c5 ?_|refine c6 ?_|refine c7 ?_|refine c8 ?_|refine cqa ?_|refine cqk ?_|refine cq ?_)|refine n1 ?_|refine n2 ?_|refine n3 ?_|refine n4 ?_|refine n5 ?_|refine n6 ?_|refine n7 ?_|refine n8 ?_|refine n9 ?_|refine n10 ?_|refine n13 ?_|refine n11 ?_|refine n12 ?_|refine n14 ?_|refine n15 ?_|refine n16 ?_)|(refine c9 (fun h=>?_) (fun h=>?_)<;>(try simp only [Bool.or_eq_true, Bool.and_eq_true, Bool.or_eq_false_iff, Bool.and_eq_false_iff, Bool.not_eq_true', Bool.not_eq_false', decide_eq_true_eq, decide_eq_false_iff_not, Bool.false_eq_true, Bool.true_eq_false, reduceCtorEq] at h)))
  all_goals try rw [decodeL_rune'] at h
  all_goals first
    | (have ha : allD s = false := by rw [hstep, decide_eq_false (by omega), Bool.false_and]
       exact gives (by rw [St.set_set]; exact St.le_set _ hid) (fin_three (.wk (Wk.of_eq (by rw [ha]; rfl))) (.wk (Wk.of_eq (by rw [ha]; rfl))) (.wk (Wk.of_eq (by rw [isNumB, ha]; rfl)))))
    | (rw [decide_eq_true (by omega), Bool.true_and] at hstep
       exact nx_thn ⟨p + (Utf8.decode (bodyS s) p).2, by rw [decodeL_rune']; exact hstep.symm, by rw [decodeL_rune']; omega, ⟨rfl, rfl, rfl, trivial⟩, by rw [St.set_set]; exact St.le_refl _⟩)
    | (have ha : allD s = true := hp.symm
       refine gives (St.le_set _ hid) (fin_three (.wk (Wk.of_eq (by rw [ha, if_pos rfl]))) (.wk (Wk.of_eq (by rw [ha, Bool.true_and]))) (.wk (Wk.of_eq ?_)))
       rw [isNumB, ha, Bool.true_and, ne_empty])
theorem p_risnum (s : ByteArray) (hz : s.size ≤ 9223372036854775807) : Pure Tryd.prog 83 [.v (.string s)] (.v (.bool (isNumB s))) := by
  refine enterW Tryd.func83 rfl rfl rfl rfl (fun σ => ?_)
  repeat' (first|(first|(refine jl ?_;first|refine j7 ?_|refine j8 ?_|refine j10 ?_|refine j11 ?_|refine jtf ?_|refine jb ?_|refine jbl ?_|refine j1 ?_|refine j2 ?_|refine j3 ?_|refine j3f ?_|refine j4 ?_|refine j5 ?_|refine j6 ?_|refine j9 ?_|refine j12 (fun id hid=>?_)|refine j13 (fun id hid=>?_)|refine j14 ?_|refine j15 ?_|refine j17t ?_|refine j17 ?_|refine j16 ?_|refine j18 ?_|refine j19 ?_|refine j20 ?_|refine j21 ?_|refine j23 ?_|refine j24 ?_|refine j25 ?_|refine j26 ?_|refine jeq ?_|refine jeqq ?_|refine jne ?_|refine jneq ?_|refine jxe ?_|refine jxn ?_|refine jcbq ?_|refine ji1 ?_|refine ji2 ?_|refine ji3 ?_|refine ji4 ?_|refine ji5 ?_|refine ji6 ?_|refine j22 (fun id hid=>?_)|refine jlit ?_|refine jmk ?_|refine jap ?_)|(refine dl ?_;first|refine d7 ?_|refine d8 ?_|refine d10 ?_|refine d11 ?_|refine dtf ?_|refine dbd ?_|refine dbl ?_|refine d1 ?_|refine d2 ?_|refine d3 ?_|refine d3f ?_|refine d4 ?_|refine d9 ?_|refine d14 ?_|refine d14a ?_|refine d15 ?_|refine d16 ?_|refine d18 ?_|refine d19 ?_|refine d20 ?_|refine d21 ?_|refine d25 ?_|refine d17 ?_|refine deq ?_|refine deqq ?_|refine dne ?_|refine dneq ?_|refine dxe ?_|refine dxn ?_|refine dcb ?_|refine dcbq ?_|refine di1 ?_|refine di2 ?_|refine di3 ?_|refine di4 ?_|refine di6 ?_)|(refine al ?_;first|refine a7 ?_|refine a8 ?_|refine a10 ?_|refine a11 ?_|refine abd ?_|refine abl ?_|refine a1 ?_|refine a2 ?_|refine a3 ?_|refine a3f ?_|refine a9 ?_|refine a14 ?_|refine a15 ?_|refine a16 ?_|refine a18 ?_|refine a21 ?_|refine a25 ?_|refine ai1 ?_|refine ai2 ?_|refine ai3 ?_|refine ai4 ?_|refine ai6 ?_|refine alit ?_|refine da_skip ?_|refine da_nil ?_)|(refine bl ?_;first|refine bbd ?_|refine bbl ?_|refine b1 ?_|refine b14 ?_|refine b17t ?_|refine b17 ?_|refine b25 ?_|refine db_nil ?_)|refine al_cons (fun id hid=>?_)|refine al_nil ?_|(refine jc ?_;first|refine c1 ?_|refine c2 ?_|refine c3 ?_|refine c4 ?_|refine c5 ?_|refine c6 ?_|refine c7 ?_|refine c8 ?_|refine cqa ?_|refine cqk ?_|refine cq ?_)|refine n1 ?_|refine n2 ?_|refine n3 ?_|refine n4 ?_|refine n5 ?_|refine n6 ?_|refine n7 ?_|refine n8 ?_|refine n9 ?_|refine n10 ?_|refine n13 ?_|refine n11 ?_|refine n12 ?_|refine n14 ?_|refine n15 ?_|refine n16 ?_)|(refine c9 (fun h=>?_) (fun h=>?_)<;>(try simp only [Bool.or_eq_true, Bool.and_eq_true, Bool.or_eq_false_iff, Bool.and_eq_false_iff, Bool.not_eq_true', Bool.not_eq_false', decide_eq_true_eq, decide_eq_false_iff_not, Bool.false_eq_true, Bool.true_eq_false, reduceCtorEq] at h)))
  case' refine_1 =>
    rw [sb0] at h
    have hs : sgnB s = true := (sgnB_iff s).2 (by omega)
    have hb : bodyS s = s.extract 1 s.size := by rw [bodyS, if_pos hs]
    have hlz : (bodyS s).size ≤ s.size := by rw [hb, Lib.ext_size]; omega
    refine cj_head (fun i : Nat => digB ((bodyS s).data.toList.drop i) = allD s ∧ i ≤ (bodyS s).size) (fun i => [(0, .v (.string (bodyS s))), (3, .v (.int .i64 i))]) (fun _ => σ) (fun i => (bodyS s).size - i) 0 ⟨rfl, Nat.zero_le _⟩ ⟨by rw [hb]; rfl, rfl, trivial⟩ (St.le_refl _) (fun i hi => ?_)
  case' refine_2 =>
    rw [sb0] at h
    have hs : sgnB s = false := Bool.eq_false_iff.2 fun e => by have := (sgnB_iff s).1 e; omega
    have hb : bodyS s = s := by rw [bodyS, hs]; rfl
    have hlz : (bodyS s).size ≤ s.size := by rw [hb]; exact Nat.le_refl _
    refine cj_head (fun i : Nat => digB ((bodyS s).data.toList.drop i) = allD s ∧ i ≤ (bodyS s).size) (fun i => [(0, .v (.string (bodyS s))), (3, .v (.int .i64 i))]) (fun _ => σ) (fun i => (bodyS s).size - i) 0 ⟨rfl, Nat.zero_le _⟩ ⟨by rw [hb]; rfl, rfl, trivial⟩ (St.le_refl _) (fun i hi => ?_)
  all_goals
    obtain ⟨hi1, hi2⟩ := hi
    have hlen := bl_len (bodyS s)
  repeat' (first|(first|(refine jl ?_;first|refine j7 ?_|refine j8 ?_|refine j10 ?_|refine j11 ?_|refine jtf ?_|refine jb ?_|refine jbl ?_|refine j1 ?_|refine j2 ?_|refine j3 ?_|refine j3f ?_|refine j4 ?_|refine j5 ?_|refine j6 ?_|refine j9 ?_|refine j12 (fun id hid=>?_)|refine j13 (fun id hid=>?_)|refine j14 ?_|refine j15 ?_|refine j17t ?_|refine j17 ?_|refine j16 ?_|refine j18 ?_|refine j19 ?_|refine j20 ?_|refine j21 ?_|refine j23 ?_|refine j24 ?_|refine j25 ?_|refine j26 ?_|refine jeq ?_|refine jeqq ?_|refine jne ?_|refine jneq ?_|refine jxe ?_|refine jxn ?_|refine jcbq ?_|refine ji1 ?_|refine ji2 ?_|refine ji3 ?_|refine ji4 ?_|refine ji5 ?_|refine ji6 ?_|refine j22 (fun id hid=>?_)|refine jlit ?_|refine jmk ?_|refine jap ?_)|(refine dl ?_;first|refine d7 ?_|refine d8 ?_|refine d10 ?_|refine d11 ?_|refine dtf ?_|refine dbd ?_|refine dbl ?_|refine d1 ?_|refine d2 ?_|refine d3 ?_|refine d3f ?_|refine d4 ?_|refine d9 ?_|refine d14 ?_|refine d14a ?_|refine d15 ?_|refine d16 ?_|refine d18 ?_|refine d19 ?_|refine d20 ?_|refine d21 ?_|refine d25 ?_|refine d17 ?_|refine deq ?_|refine deqq ?_|refine dne ?_|refine dneq ?_|refine dxe ?_|refine dxn ?_|refine dcb ?_|refine dcbq ?_|refine di1 ?_|refine di2 ?_|refine di3 ?_|refine di4 ?_|refine di6 ?_)|(refine al ?_;first|refine a7 ?_|refine a8 ?_|refine a10 ?_|refine a11 ?_|refine abd ?_|refine abl ?_|refine a1 ?_|refine a2 ?_|refine a3 ?_|refine a3f ?_|refine a9 ?_|refine a14 ?_|refine a15 ?_|refine a16 ?_|refine a18 ?_|refine a21 ?_|refine a25 ?_|refine ai1 ?_|refine ai2 ?_|refine ai3 ?_|refine ai4 ?_|refine ai6 ?_|refine alit ?_|refine da_skip ?_|refine da_nil ?_)|(refine bl ?_;first|refine bbd ?_|refine bbl ?_|refine b1 ?_|refine b14 ?_|refine b17t ?_|refine b17 ?_|refine b25 ?_|refine db_nil ?_)|refine al_cons (fun id hid=>?_)|refine al_nil ?_|(refine jc ?_;first|refine c1 ?_|refine c2 ?_|refine c3 ?_|refine c4 ?_|refine c5 ?_|refine c6 ?_|refine c7 ?_|refine c8 ?_|refine cqa ?_|refine cqk ?_|refine cq ?_)|refine n1 ?_|refine n2 ?_|refine n3 ?_|refine n4 ?_|refine n5 ?_|refine n6 ?_|refine n7 ?_|refine n8 ?_|refine n9 ?_|refine n10 ?_|refine n13 ?_|refine n11 ?_|refine n12 ?_|refine n14 ?_|refine n15 ?_|refine n16 ?_)|(refine c9 (fun h=>?_) (fun h=>?_)<;>((try simp only [Bool.or_eq_true, Bool.and_eq_true, Bool.or_eq_false_iff, Bool.and_eq_false_iff, Bool.not_eq_true', Bool.not_eq_false', decide_eq_true_eq, decide_eq_false_iff_not, Bool.false_eq_true, Bool.true_eq_false, reduceCtorEq] at h) <;> (try simp (disch := omega) only [sb_bt, w64, Int.reduceAdd, Int.reduceToNat, Int.toNat_natCast, not_true_eq_false, false_or] at h) <;> (try (exfalso; omega)))))
  all_goals first
    | (obtain ⟨e1, e2⟩ := drop_bt (bodyS s) i (by omega)
       have ha : allD s = false := by
         rw [← hi1, e1]
         unfold digB
         rw [e2, decide_eq_false (by omega), Bool.false_and]
       exact gives (St.le_refl _) (fin_one (.wk (Wk.of_eq (by rw [isNumB, ha]; rfl)))))
    | (obtain ⟨e1, e2⟩ := drop_bt (bodyS s) i (by omega)
       have ha : digB ((bodyS s).data.toList.drop (i + 1)) = allD s := by
         rw [← hi1, e1, digB, e2, decide_eq_true (by omega), Bool.true_and]
       exact nx_thn ⟨i + 1, ⟨ha, by omega⟩, by omega, ⟨rfl, by show some (AV.v (.int .i64 (IntKind.i64.wrap ((i : Int) + 1)))) = _; rw [w64 (by omega) (by omega)]; rfl, trivial⟩, St.le_refl _⟩)
    | (have ha : allD s = true := by rw [← hi1, List.drop_of_length_le (by omega)]; rfl
       exact gives (St.le_refl _) (fin_one (.wk (Wk.of_eq (by rw [isNumB, ha, Bool.true_and]; congr 3; exact propext (by omega))))))
/-- The number that digits tell. -/
def valN (a : Nat) (l : List UInt8) : Nat := l.foldl (fun n b => 10 * n + (b.toNat - 48)) a
theorem valN_nil (a : Nat) : valN a [] = a := by unfold valN; exact List.foldl_nil
theorem valN_cons (a : Nat) (b : UInt8) (l : List UInt8) : valN a (b :: l) = valN (10 * a + (b.toNat - 48)) l := by unfold valN; exact List.foldl_cons ..
theorem valN_le : ∀ (l : List UInt8) (a : Nat), a ≤ valN a l
  | [], a => by rw [valN_nil]; exact Nat.le_refl _
  | b :: l, a => by
    have := valN_le l (10 * a + (b.toNat - 48))
    rw [valN_cons]
    omega
theorem valN_cap (m : Nat) : ∀ (l : List UInt8) (a : Nat), min (valN (min a m) l) m = min (valN a l) m
  | [], a => by rw [valN_nil, valN_nil, Nat.min_assoc, Nat.min_self]
  | b :: l, a => by
    rw [valN_cons, valN_cons]
    by_cases h : a ≤ m
    · rw [Nat.min_eq_left h]
    · rw [Nat.min_eq_right (show m ≤ a by omega)]
      have h1 := valN_le l (10 * m + (b.toNat - 48))
      have h2 := valN_le l (10 * a + (b.toNat - 48))
      rw [Nat.min_eq_right (show m ≤ valN (10 * m + (b.toNat - 48)) l by omega), Nat.min_eq_right (show m ≤ valN (10 * a + (b.toNat - 48)) l by omega)]
theorem digB_get (s : ByteArray) (i k : Nat) (h : digB (s.data.toList.drop k) = true) (h1 : k ≤ i) (h2 : i < s.size) : dig (bt s i) := by
  have key : ∀ (n k : Nat), digB (s.data.toList.drop k) = true → k + n < s.size → dig (bt s (k + n)) := by
    intro n
    induction n with
    | zero =>
      intro k h hlt
      obtain ⟨e1, e2⟩ := drop_bt s k (by omega)
      rw [e1, digB, e2] at h
      simp only [Bool.and_eq_true, decide_eq_true_eq] at h
      exact h.1
    | succ n ih =>
      intro k h hlt
      obtain ⟨e1, e2⟩ := drop_bt s k (by omega)
      rw [e1, digB] at h
      simp only [Bool.and_eq_true] at h
      have := ih (k + 1) h.2 (by omega)
      rwa [show k + 1 + n = k + (n + 1) by omega] at this
  have := key (i - k) k h (by omega)
  rwa [show k + (i - k) = i by omega] at this
def numOf (s : ByteArray) : Nat := valN 0 (bodyS s).data.toList
end Go.Proofs.YtcpokdjppedaoaaDoor.Ab

/- Values: numbers read; what may be. -/
set_option linter.unusedVariables false
set_option linter.unusedSimpArgs false
set_option maxRecDepth 20000
namespace Go.Proofs.YtcpokdjppedaoaaDoor.Ab
open Go
attribute [local irreducible] thn inb endR CJ LJ OpJ DJ

/-! ### The reference's number -/
def capN : Nat := 1099511627777
/-! ### Check -/
def nilS : ByteArray := ⟨#[110, 105, 108]⟩
def checkE (k n : Int) (s : ByteArray) : Int :=
  if 2 < k then 9 else if (¬ k = 1 ∧ ¬ n = 0) ∨ (¬ k = 2 ∧ ¬ s = ⟨#[]⟩) then 4 else if n < -1099511627776 ∨ 1099511627776 < n then 12 else if k = 2 ∧ (isNumB s = true ∨ wordB s = false ∨ s = nilS) then 6 else 0
theorem St.le_new {σ : St} {a : Nat} {x : AObj} (ha : σ a = none) : σ.le (σ.set a x) := St.le_set _ ha
theorem p_check (k n : Int) (s : ByteArray) : Pure Tryd.prog 50 [vv k n s] (.v (.int .i64 (checkE k n s))) := by
  refine enterW Tryd.func50 rfl rfl rfl rfl (fun σ => ?_)
  repeat' (first|(first|(refine jl ?_;first|refine j7 ?_|refine j8 ?_|refine j10 ?_|refine j11 ?_|refine jtf ?_|refine jb ?_|refine jbl ?_|refine j1 ?_|refine j2 ?_|refine j3 ?_|refine j3f ?_|refine j4 ?_|refine j5 ?_|refine j6 ?_|refine j9 ?_|refine j12 (fun id hid=>?_)|refine j13 (fun id hid=>?_)|refine j14 ?_|refine j15 ?_|refine j17t ?_|refine j17 ?_|refine j16 ?_|refine j18 ?_|refine j19 ?_|refine j20 ?_|refine j21 ?_|refine j23 ?_|refine j24 ?_|refine j25 ?_|refine j26 ?_|refine jeq ?_|refine jeqq ?_|refine jne ?_|refine jneq ?_|refine jxe ?_|refine jxn ?_|refine jcbq ?_|refine ji1 ?_|refine ji2 ?_|refine ji3 ?_|refine ji4 ?_|refine ji5 ?_|refine ji6 ?_|refine j22 (fun id hid=>?_)|refine jp (p_digits _) ?_|refine jpy (p_digits _) ?_|refine jcq (hp:=fun hc=>p_digits _) ?_|refine jp (p_word _) ?_|refine jpy (p_word _) ?_|refine jcq (hp:=fun hc=>p_word _) ?_|refine jlit ?_|refine jmk ?_|refine jap ?_)|(refine dl ?_;first|refine d7 ?_|refine d8 ?_|refine d10 ?_|refine d11 ?_|refine dtf ?_|refine dbd ?_|refine dbl ?_|refine d1 ?_|refine d2 ?_|refine d3 ?_|refine d3f ?_|refine d4 ?_|refine d9 ?_|refine d14 ?_|refine d14a ?_|refine d15 ?_|refine d16 ?_|refine d18 ?_|refine d19 ?_|refine d20 ?_|refine d21 ?_|refine d25 ?_|refine d17 ?_|refine deq ?_|refine deqq ?_|refine dne ?_|refine dneq ?_|refine dxe ?_|refine dxn ?_|refine dcb ?_|refine dcbq ?_|refine di1 ?_|refine di2 ?_|refine di3 ?_|refine di4 ?_|refine di6 ?_|refine dp (p_digits _) ?_|refine dpy (p_digits _) ?_|refine dpq (hp:=fun hc=>p_digits _) ?_|refine dp (p_word _) ?_|refine dpy (p_word _) ?_|refine dpq (hp:=fun hc=>p_word _) ?_)|(refine al ?_;first|refine a7 ?_|refine a8 ?_|refine a10 ?_|refine a11 ?_|refine abd ?_|refine abl ?_|refine a1 ?_|refine a2 ?_|refine a3 ?_|refine a3f ?_|refine a9 ?_|refine a14 ?_|refine a15 ?_|refine a16 ?_|refine a18 ?_|refine a21 ?_|refine a25 ?_|refine ai1 ?_|refine ai2 ?_|refine ai3 ?_|refine ai4 ?_|refine ai6 ?_|refine alit ?_|refine ap (p_digits _) ?_|refine apy (p_digits _) ?_|refine ap (p_word _) ?_|refine apy (p_word _) ?_|refine da_skip ?_|refine da_nil ?_)|(refine bl ?_;first|refine bbd ?_|refine bbl ?_|refine b1 ?_|refine b14 ?_|refine b17t ?_|refine b17 ?_|refine b25 ?_|refine db_nil ?_)|refine al_cons (fun id hid=>?_)|refine al_nil ?_|(refine jc ?_;first|refine c1 ?_|refine c2 ?_|refine c3 ?_|refine c4 ?_|refine c5 ?_|refine c6 ?_|refine c7 ?_|refine c8 ?_|refine cqa ?_|refine cqk ?_|refine cq ?_)|refine n1 ?_|refine n2 ?_|refine n3 ?_|refine n4 ?_|refine n5 ?_|refine n6 ?_|refine n7 ?_|refine n8 ?_|refine n9 ?_|refine n10 ?_|refine n13 ?_|refine n11 ?_|refine n12 ?_|refine n14 ?_|refine n15 ?_|refine n16 ?_)|(refine c9 (fun h=>?_) (fun h=>?_)<;>(try simp only [Bool.or_eq_true, Bool.and_eq_true, Bool.or_eq_false_iff, Bool.and_eq_false_iff, Bool.not_eq_true', Bool.not_eq_false', decide_eq_true_eq, decide_eq_false_iff_not, Bool.false_eq_true, Bool.true_eq_false, reduceCtorEq] at h)))
  all_goals refine gives (St.le_set _ hid) (fin_one (.wk (Wk.of_eq ?_)))
  all_goals simp only [ofLeaf, AV.v.injEq, Value.int.injEq, true_and]
  all_goals unfold checkE nilS
  all_goals grind
theorem p_rcheck (k n : Int) (s : ByteArray) (hz : s.size ≤ 9223372036854775807) : Pure Tryd.prog 52 [vv k n s] (.v (.int .i64 (checkE k n s))) := by
  refine enterW Tryd.func52 rfl rfl rfl rfl (fun σ => ?_)
  repeat' (first|(first|(refine jl ?_;first|refine j7 ?_|refine j8 ?_|refine j10 ?_|refine j11 ?_|refine jtf ?_|refine jb ?_|refine jbl ?_|refine j1 ?_|refine j2 ?_|refine j3 ?_|refine j3f ?_|refine j4 ?_|refine j5 ?_|refine j6 ?_|refine j9 ?_|refine j12 (fun id hid=>?_)|refine j13 (fun id hid=>?_)|refine j14 ?_|refine j15 ?_|refine j17t ?_|refine j17 ?_|refine j16 ?_|refine j18 ?_|refine j19 ?_|refine j20 ?_|refine j21 ?_|refine j23 ?_|refine j24 ?_|refine j25 ?_|refine j26 ?_|refine jeq ?_|refine jeqq ?_|refine jne ?_|refine jneq ?_|refine jxe ?_|refine jxn ?_|refine jcbq ?_|refine ji1 ?_|refine ji2 ?_|refine ji3 ?_|refine ji4 ?_|refine ji5 ?_|refine ji6 ?_|refine j22 (fun id hid=>?_)|refine jp (p_risnum _ hz) ?_|refine jpy (p_risnum _ hz) ?_|refine jcq (hp:=fun hc=>p_risnum _ hz) ?_|refine jp (p_rword _) ?_|refine jpy (p_rword _) ?_|refine jcq (hp:=fun hc=>p_rword _) ?_|refine jlit ?_|refine jmk ?_|refine jap ?_)|(refine dl ?_;first|refine d7 ?_|refine d8 ?_|refine d10 ?_|refine d11 ?_|refine dtf ?_|refine dbd ?_|refine dbl ?_|refine d1 ?_|refine d2 ?_|refine d3 ?_|refine d3f ?_|refine d4 ?_|refine d9 ?_|refine d14 ?_|refine d14a ?_|refine d15 ?_|refine d16 ?_|refine d18 ?_|refine d19 ?_|refine d20 ?_|refine d21 ?_|refine d25 ?_|refine d17 ?_|refine deq ?_|refine deqq ?_|refine dne ?_|refine dneq ?_|refine dxe ?_|refine dxn ?_|refine dcb ?_|refine dcbq ?_|refine di1 ?_|refine di2 ?_|refine di3 ?_|refine di4 ?_|refine di6 ?_|refine dp (p_risnum _ hz) ?_|refine dpy (p_risnum _ hz) ?_|refine dpq (hp:=fun hc=>p_risnum _ hz) ?_|refine dp (p_rword _) ?_|refine dpy (p_rword _) ?_|refine dpq (hp:=fun hc=>p_rword _) ?_)|(refine al ?_;first|refine a7 ?_|refine a8 ?_|refine a10 ?_|refine a11 ?_|refine abd ?_|refine abl ?_|refine a1 ?_|refine a2 ?_|refine a3 ?_|refine a3f ?_|refine a9 ?_|refine a14 ?_|refine a15 ?_|refine a16 ?_|refine a18 ?_|refine a21 ?_|refine a25 ?_|refine ai1 ?_|refine ai2 ?_|refine ai3 ?_|refine ai4 ?_|refine ai6 ?_|refine alit ?_|refine ap (p_risnum _ hz) ?_|refine apy (p_risnum _ hz) ?_|refine ap (p_rword _) ?_|refine apy (p_rword _) ?_|refine da_skip ?_|refine da_nil ?_)|(refine bl ?_;first|refine bbd ?_|refine bbl ?_|refine b1 ?_|refine b14 ?_|refine b17t ?_|refine b17 ?_|refine b25 ?_|refine db_nil ?_)|refine al_cons (fun id hid=>?_)|refine al_nil ?_|(refine jc ?_;first|refine c1 ?_|refine c2 ?_|refine c3 ?_|refine c4 ?_|refine c5 ?_|refine c6 ?_|refine c7 ?_|refine c8 ?_|refine cqa ?_|refine cqk ?_|refine cq ?_)|refine n1 ?_|refine n2 ?_|refine n3 ?_|refine n4 ?_|refine n5 ?_|refine n6 ?_|refine n7 ?_|refine n8 ?_|refine n9 ?_|refine n10 ?_|refine n13 ?_|refine n11 ?_|refine n12 ?_|refine n14 ?_|refine n15 ?_|refine n16 ?_)|(refine c9 (fun h=>?_) (fun h=>?_)<;>(try simp only [Bool.or_eq_true, Bool.and_eq_true, Bool.or_eq_false_iff, Bool.and_eq_false_iff, Bool.not_eq_true', Bool.not_eq_false', decide_eq_true_eq, decide_eq_false_iff_not, Bool.false_eq_true, Bool.true_eq_false, reduceCtorEq] at h)))
  all_goals refine gives (St.le_set _ hid) (fin_one (.wk (Wk.of_eq ?_)))
  all_goals simp only [ofLeaf, AV.v.injEq, Value.int.injEq, true_and]
  all_goals unfold checkE nilS
  all_goals grind
end Go.Proofs.YtcpokdjppedaoaaDoor.Ab

/- Values: a number's text. -/
set_option linter.unusedVariables false
set_option linter.unusedSimpArgs false
set_option maxRecDepth 20000
namespace Go.Proofs.YtcpokdjppedaoaaDoor.Ab
open Go
attribute [local irreducible] thn inb endR CJ LJ OpJ DJ

def dch (n : Nat) : UInt8 := UInt8.ofNat (48 + n % 10)
theorem dch_toNat (n : Nat) : (dch n).toNat = 48 + n % 10 := by
  unfold dch
  rw [UInt8.toNat_ofNat']
  omega
/-- A number's digits. -/
def decF : Nat → Nat → List UInt8
  | 0, _ => []
  | f + 1, n => if n < 10 then [dch n] else decF f (n / 10) ++ [dch n]
theorem decF_fuel : ∀ (f g n : Nat), n < 10 ^ f → n < 10 ^ g → 0 < f → 0 < g → decF f n = decF g n
  | 0, _, _, _, _, h, _ => absurd h (by omega)
  | _, 0, _, _, _, _, h => absurd h (by omega)
  | f + 1, g + 1, n, h1, h2, _, _ => by
    unfold decF
    by_cases h : n < 10
    · rw [if_pos h, if_pos h]
    · rw [if_neg h, if_neg h]
      have hf : 0 < f := by
        rcases Nat.eq_zero_or_pos f with h0 | h0
        · subst h0; simp at h1; omega
        · exact h0
      have hg : 0 < g := by
        rcases Nat.eq_zero_or_pos g with h0 | h0
        · subst h0; simp at h2; omega
        · exact h0
      rw [decF_fuel f g (n / 10) (by rw [Nat.pow_succ] at h1; omega) (by rw [Nat.pow_succ] at h2; omega) hf hg]
def dec (n : Nat) : List UInt8 := decF 19 n
theorem dec_small (n : Nat) (h : n < 10) : dec n = [dch n] := by
  show (if n < 10 then _ else _) = _
  rw [if_pos h]
theorem dec_step (n : Nat) (h : 10 ≤ n) (h' : n < 10000000000000000000) : dec n = dec (n / 10) ++ [dch n] := by
  show (if n < 10 then _ else _) = _
  rw [if_neg (by omega), decF_fuel 18 19 (n / 10) (by simp only [Nat.reducePow]; omega) (by simp only [Nat.reducePow]; omega) (by omega) (by omega)]
  rfl
theorem decF_len : ∀ (f n : Nat), (decF f n).length ≤ f
  | 0, _ => Nat.le_refl _
  | f + 1, n => by
    unfold decF
    split
    · simp
    · have := decF_len f (n / 10)
      simp only [List.length_append, List.length_cons, List.length_nil]
      omega
theorem dec_len (n : Nat) : (dec n).length ≤ 19 := decF_len 19 n
/-- What the loop still lays ahead. -/
def outD (m : Nat) (acc : List UInt8) : List UInt8 := if m = 0 ∧ acc ≠ [] then acc else dec m ++ acc
theorem outD_step (m : Nat) (acc : List UInt8) (h : 0 < m ∨ acc = []) (hm : m < 10000000000000000000) : outD (m / 10) (dch m :: acc) = outD m acc := by
  unfold outD
  rw [if_neg (c := m = 0 ∧ acc ≠ []) (by rintro ⟨h1, h2⟩; rcases h with h | h; omega; exact h2 h)]
  by_cases h10 : m < 10
  · rw [if_pos ⟨by omega, by simp⟩, dec_small m h10]; rfl
  · rw [if_neg (by rintro ⟨h1, _⟩; omega), dec_step m (by omega) hm]
    simp
theorem outD_end (acc : List UInt8) (h : acc ≠ []) : outD 0 acc = acc := by rw [outD, if_pos ⟨rfl, h⟩]
theorem outD_nil (m : Nat) : outD m [] = dec m := by
  rw [outD, if_neg (by simp), List.append_nil]
theorem outD_len (m : Nat) (acc : List UInt8) : acc.length ≤ (outD m acc).length := by
  unfold outD
  split
  · exact Nat.le_refl _
  · simp
def toldS (n : Int) : ByteArray := if n < 0 then ⟨(45 :: dec (-n).toNat).toArray⟩ else ⟨(dec n.toNat).toArray⟩
theorem u8_add (m : Nat) : IntKind.u8.wrap (IntKind.i64.wrap (48 + (m : Int).tmod 10)) = ((dch m).toNat : Int) := by
  have h1 : (m : Int).tmod 10 = ((m % 10 : Nat) : Int) := by rw [Int.tmod_eq_emod_of_nonneg (by omega)]; rfl
  rw [h1, w64 (by omega) (by omega), wu8 (by omega) (by omega), dch_toNat]
  omega
theorem p_told (n : Int) (hn : -1099511627776 ≤ n ∧ n ≤ 1099511627776) : Pure Tryd.prog 85 [.v (.int .i64 n)] (.v (.string (toldS n))) := by
  refine enterW Tryd.func85 rfl rfl rfl rfl (fun σ => ?_)
  obtain ⟨m0, mi, hm0, hmi, hlt⟩ : ∃ (m0 : Nat) (mi : Bool), (if mi then (IntKind.i64.wrap (0 - n)) else n) = (m0 : Int) ∧ decide (n < 0) = mi ∧ m0 ≤ 1099511627776 ∧ toldS n = (if mi then ⟨(45 :: dec m0).toArray⟩ else ⟨(dec m0).toArray⟩) := by
    by_cases h : n < 0
    · refine ⟨(-n).toNat, true, ?_, decide_eq_true h, by omega, ?_⟩
      · rw [if_pos rfl, w64 (by omega) (by omega)]; omega
      · rw [toldS, if_pos h, if_pos rfl]
    · refine ⟨n.toNat, false, ?_, decide_eq_false h, by omega, ?_⟩
      · rw [if_neg (by simp)]; omega
      · rw [toldS, if_neg h, if_neg (by simp)]
  obtain ⟨hm1, hm2⟩ := hlt
  rw [hm2]
  repeat (first|(refine jl ?_;first|refine j7 ?_|refine j8 ?_|refine j10 ?_|refine j11 ?_|refine jtf ?_|refine jb ?_|refine jbl ?_|refine j1 ?_|refine j2 ?_|refine j3 ?_|refine j3f ?_|refine j4 ?_|refine j5 ?_|refine j6 ?_|refine j9 ?_|refine j12 (fun id hid=>?_)|refine j13 (fun id hid=>?_)|refine j14 ?_|refine j15 ?_|refine j17t ?_|refine j17 ?_|refine j16 ?_|refine j18 ?_|refine j19 ?_|refine j20 ?_|refine j21 ?_|refine j23 ?_|refine j24 ?_|refine j25 ?_|refine j26 ?_|refine jeq ?_|refine jeqq ?_|refine jne ?_|refine jneq ?_|refine jxe ?_|refine jxn ?_|refine jcbq ?_|refine ji1 ?_|refine ji2 ?_|refine ji3 ?_|refine ji4 ?_|refine ji5 ?_|refine ji6 ?_|refine j22 (fun id hid=>?_)|refine jlit ?_|refine jmk ?_|refine jap ?_)|(refine dl ?_;first|refine d7 ?_|refine d8 ?_|refine d10 ?_|refine d11 ?_|refine dtf ?_|refine dbd ?_|refine dbl ?_|refine d1 ?_|refine d2 ?_|refine d3 ?_|refine d3f ?_|refine d4 ?_|refine d9 ?_|refine d14 ?_|refine d14a ?_|refine d15 ?_|refine d16 ?_|refine d18 ?_|refine d19 ?_|refine d20 ?_|refine d21 ?_|refine d25 ?_|refine d17 ?_|refine deq ?_|refine deqq ?_|refine dne ?_|refine dneq ?_|refine dxe ?_|refine dxn ?_|refine dcb ?_|refine dcbq ?_|refine di1 ?_|refine di2 ?_|refine di3 ?_|refine di4 ?_|refine di6 ?_)|(refine al ?_;first|refine a7 ?_|refine a8 ?_|refine a10 ?_|refine a11 ?_|refine abd ?_|refine abl ?_|refine a1 ?_|refine a2 ?_|refine a3 ?_|refine a3f ?_|refine a9 ?_|refine a14 ?_|refine a15 ?_|refine a16 ?_|refine a18 ?_|refine a21 ?_|refine a25 ?_|refine ai1 ?_|refine ai2 ?_|refine ai3 ?_|refine ai4 ?_|refine ai6 ?_|refine alit ?_|refine da_skip ?_|refine da_nil ?_)|(refine bl ?_;first|refine bbd ?_|refine bbl ?_|refine b1 ?_|refine b14 ?_|refine b17t ?_|refine b17 ?_|refine b25 ?_|refine db_nil ?_)|refine al_cons (fun id hid=>?_)|refine al_nil ?_|(refine jc ?_;first|refine c1 ?_|refine c2 ?_|refine c3 ?_|refine c4 ?_|refine c5 ?_|refine c6 ?_|refine c7 ?_|refine c8 ?_|refine cqa ?_|refine cqk ?_|refine cq ?_)|refine n1 ?_|refine n2 ?_|refine n3 ?_|refine n4 ?_|refine n5 ?_|refine n6 ?_|refine n7 ?_|refine n8 ?_|refine n9 ?_|refine n10 ?_|refine n13 ?_|refine n11 ?_|refine n12 ?_|refine n14 ?_|refine n15 ?_|refine n16 ?_)
  rw [hmi]
  repeat' (first|(first|(refine jl ?_;first|refine j7 ?_|refine j8 ?_|refine j10 ?_|refine j11 ?_|refine jtf ?_|refine jb ?_|refine jbl ?_|refine j1 ?_|refine j2 ?_|refine j3 ?_|refine j3f ?_|refine j4 ?_|refine j5 ?_|refine j6 ?_|refine j9 ?_|refine j12 (fun id hid=>?_)|refine j13 (fun id hid=>?_)|refine j14 ?_|refine j15 ?_|refine j17t ?_|refine j17 ?_|refine j16 ?_|refine j18 ?_|refine j19 ?_|refine j20 ?_|refine j21 ?_|refine j23 ?_|refine j24 ?_|refine j25 ?_|refine j26 ?_|refine jeq ?_|refine jeqq ?_|refine jne ?_|refine jneq ?_|refine jxe ?_|refine jxn ?_|refine jcbq ?_|refine ji1 ?_|refine ji2 ?_|refine ji3 ?_|refine ji4 ?_|refine ji5 ?_|refine ji6 ?_|refine j22 (fun id hid=>?_)|refine jlit ?_|refine jmk ?_|refine jap ?_)|(refine dl ?_;first|refine d7 ?_|refine d8 ?_|refine d10 ?_|refine d11 ?_|refine dtf ?_|refine dbd ?_|refine dbl ?_|refine d1 ?_|refine d2 ?_|refine d3 ?_|refine d3f ?_|refine d4 ?_|refine d9 ?_|refine d14 ?_|refine d14a ?_|refine d15 ?_|refine d16 ?_|refine d18 ?_|refine d19 ?_|refine d20 ?_|refine d21 ?_|refine d25 ?_|refine d17 ?_|refine deq ?_|refine deqq ?_|refine dne ?_|refine dneq ?_|refine dxe ?_|refine dxn ?_|refine dcb ?_|refine dcbq ?_|refine di1 ?_|refine di2 ?_|refine di3 ?_|refine di4 ?_|refine di6 ?_)|(refine al ?_;first|refine a7 ?_|refine a8 ?_|refine a10 ?_|refine a11 ?_|refine abd ?_|refine abl ?_|refine a1 ?_|refine a2 ?_|refine a3 ?_|refine a3f ?_|refine a9 ?_|refine a14 ?_|refine a15 ?_|refine a16 ?_|refine a18 ?_|refine a21 ?_|refine a25 ?_|refine ai1 ?_|refine ai2 ?_|refine ai3 ?_|refine ai4 ?_|refine ai6 ?_|refine alit ?_|refine da_skip ?_|refine da_nil ?_)|(refine bl ?_;first|refine bbd ?_|refine bbl ?_|refine b1 ?_|refine b14 ?_|refine b17t ?_|refine b17 ?_|refine b25 ?_|refine db_nil ?_)|refine al_cons (fun id hid=>?_)|refine al_nil ?_|(refine jc ?_;first|refine c1 ?_|refine c2 ?_|refine c3 ?_|refine c4 ?_|refine c5 ?_|refine c6 ?_|refine c7 ?_|refine c8 ?_|refine cqa ?_|refine cqk ?_|refine cq ?_)|refine n1 ?_|refine n2 ?_|refine n3 ?_|refine n4 ?_|refine n5 ?_|refine n6 ?_|refine n7 ?_|refine n8 ?_|refine n9 ?_|refine n10 ?_|refine n13 ?_|refine n11 ?_|refine n12 ?_|refine n14 ?_|refine n15 ?_|refine n16 ?_)|(refine c9 (fun h=>?_) (fun h=>?_)<;>(try simp only [Bool.or_eq_true, Bool.and_eq_true, Bool.or_eq_false_iff, Bool.and_eq_false_iff, Bool.not_eq_true', Bool.not_eq_false', decide_eq_true_eq, decide_eq_false_iff_not, Bool.false_eq_true, Bool.true_eq_false, reduceCtorEq] at h)))
  all_goals
    rw [h] at hm0
    simp only [Bool.false_eq_true, if_true, if_false] at hm0
    rw [hm0]
    refine cj_headW (fun x : Nat × List UInt8 => x.1 ≤ 1099511627776 ∧ outD x.1 x.2 = dec m0) (fun x => [(0, .v (.int .i64 x.1)), (4, .sl none false 1 (bys x.2)), (3, .v (.bool mi))]) (fun _ => σ) (fun x => 2 * x.1 + (if x.2 = [] then 1 else 0)) (m0, []) ⟨hm1, outD_nil m0⟩ ⟨⟨_, rfl, Wk.refl _⟩, ⟨_, rfl, Wk.sl _ _ _ _⟩, ⟨_, rfl, Wk.refl _⟩, trivial⟩ (St.le_refl _) (fun x hx => ?_)
    obtain ⟨m, acc⟩ := x
    obtain ⟨hx1, hx2⟩ := hx
    simp only at hx1 hx2
    have hlen : acc.length ≤ 19 := Nat.le_trans (outD_len m acc) (by rw [hx2]; exact dec_len m0)
    clear h
    dsimp only
  repeat' (first|(first|(refine jl ?_;first|refine j7 ?_|refine j8 ?_|refine j10 ?_|refine j11 ?_|refine jtf ?_|refine jb ?_|refine jbl ?_|refine j1 ?_|refine j2 ?_|refine j3 ?_|refine j3f ?_|refine j4 ?_|refine j5 ?_|refine j6 ?_|refine j9 ?_|refine j12 (fun id hid=>?_)|refine j13 (fun id hid=>?_)|refine j14 ?_|refine j15 ?_|refine j17t ?_|refine j17 ?_|refine j16 ?_|refine j18 ?_|refine j19 ?_|refine j20 ?_|refine j21 ?_|refine j23 ?_|refine j24 ?_|refine j25 ?_|refine j26 ?_|refine jeq ?_|refine jeqq ?_|refine jne ?_|refine jneq ?_|refine jxe ?_|refine jxn ?_|refine jcbq ?_|refine ji1 ?_|refine ji2 ?_|refine ji3 ?_|refine ji4 ?_|refine ji5 ?_|refine ji6 ?_|refine j22 (fun id hid=>?_))|(refine dl ?_;first|refine d7 ?_|refine d8 ?_|refine d10 ?_|refine d11 ?_|refine dtf ?_|refine dbd ?_|refine dbl ?_|refine d1 ?_|refine d2 ?_|refine d3 ?_|refine d3f ?_|refine d4 ?_|refine d9 ?_|refine d14 ?_|refine d14a ?_|refine d15 ?_|refine d16 ?_|refine d18 ?_|refine d19 ?_|refine d20 ?_|refine d21 ?_|refine d25 ?_|refine d17 ?_|refine deq ?_|refine deqq ?_|refine dne ?_|refine dneq ?_|refine dxe ?_|refine dxn ?_|refine dcb ?_|refine dcbq ?_|refine di1 ?_|refine di2 ?_|refine di3 ?_|refine di4 ?_|refine di6 ?_)|(refine al ?_;first|refine a7 ?_|refine a8 ?_|refine a10 ?_|refine a11 ?_|refine abd ?_|refine abl ?_|refine a1 ?_|refine a2 ?_|refine a3 ?_|refine a3f ?_|refine a9 ?_|refine a14 ?_|refine a15 ?_|refine a16 ?_|refine a18 ?_|refine a21 ?_|refine a25 ?_|refine ai1 ?_|refine ai2 ?_|refine ai3 ?_|refine ai4 ?_|refine ai6 ?_|refine alit ?_|refine da_skip ?_|refine da_nil ?_)|(refine bl ?_;first|refine bbd ?_|refine bbl ?_|refine b1 ?_|refine b14 ?_|refine b17t ?_|refine b17 ?_|refine b25 ?_|refine db_nil ?_)|refine al_cons (fun id hid=>?_)|refine al_nil ?_|(refine jc ?_;first|refine c1 ?_|refine c2 ?_|refine c3 ?_|refine c4 ?_|refine c5 ?_|refine c6 ?_|refine c7 ?_|refine c8 ?_|refine cqa ?_|refine cqk ?_|refine cq ?_)|refine n1 ?_|refine n2 ?_|refine n3 ?_|refine n4 ?_|refine n5 ?_|refine n6 ?_|refine n7 ?_|refine n8 ?_|refine n9 ?_|refine n10 ?_|refine n13 ?_|refine n11 ?_|refine n12 ?_|refine n14 ?_|refine n15 ?_|refine n16 ?_)|(refine c9 (fun h=>?_) (fun h=>?_)<;>(try simp only [Bool.or_eq_true, Bool.and_eq_true, Bool.or_eq_false_iff, Bool.and_eq_false_iff, Bool.not_eq_true', Bool.not_eq_false', decide_eq_true_eq, decide_eq_false_iff_not, Bool.false_eq_true, Bool.true_eq_false, reduceCtorEq] at h)))
  all_goals try rw [length_bys] at *
  all_goals try
    have hm0' : m = 0 := by omega
    have hne0 : acc.length ≠ 0 := by omega
    have hne : acc ≠ [] := fun e => hne0 (by rw [e]; rfl)
    rw [hm0', outD_end acc hne] at hx2
    rw [h, ← hx2]
    exact gives (St.le_refl _) (fin_one (.wk (Wk.of_eq rfl)))
  all_goals
    rw [u8_add]
    refine lj_v rfl (fun R hR => opj_lit (sz := 1) (zs := [.v (.int .u8 0)]) (out := [.v (.int .u8 (dch m).toNat)]) rfl rfl rfl rfl rfl (by decide) (by decide) rfl rfl rfl hR) ?_
    repeat (first|(refine jl ?_;first|refine j7 ?_|refine j8 ?_|refine j10 ?_|refine j11 ?_|refine jtf ?_|refine jb ?_|refine jbl ?_|refine j1 ?_|refine j2 ?_|refine j3 ?_|refine j3f ?_|refine j4 ?_|refine j5 ?_|refine j6 ?_|refine j9 ?_|refine j12 (fun id hid=>?_)|refine j13 (fun id hid=>?_)|refine j14 ?_|refine j15 ?_|refine j17t ?_|refine j17 ?_|refine j16 ?_|refine j18 ?_|refine j19 ?_|refine j20 ?_|refine j21 ?_|refine j23 ?_|refine j24 ?_|refine j25 ?_|refine j26 ?_|refine jeq ?_|refine jeqq ?_|refine jne ?_|refine jneq ?_|refine jxe ?_|refine jxn ?_|refine jcbq ?_|refine ji1 ?_|refine ji2 ?_|refine ji3 ?_|refine ji4 ?_|refine ji5 ?_|refine ji6 ?_|refine j22 (fun id hid=>?_))|(refine dl ?_;first|refine d7 ?_|refine d8 ?_|refine d10 ?_|refine d11 ?_|refine dtf ?_|refine dbd ?_|refine dbl ?_|refine d1 ?_|refine d2 ?_|refine d3 ?_|refine d3f ?_|refine d4 ?_|refine d9 ?_|refine d14 ?_|refine d14a ?_|refine d15 ?_|refine d16 ?_|refine d18 ?_|refine d19 ?_|refine d20 ?_|refine d21 ?_|refine d25 ?_|refine d17 ?_|refine deq ?_|refine deqq ?_|refine dne ?_|refine dneq ?_|refine dxe ?_|refine dxn ?_|refine dcb ?_|refine dcbq ?_|refine di1 ?_|refine di2 ?_|refine di3 ?_|refine di4 ?_|refine di6 ?_)|(refine al ?_;first|refine a7 ?_|refine a8 ?_|refine a10 ?_|refine a11 ?_|refine abd ?_|refine abl ?_|refine a1 ?_|refine a2 ?_|refine a3 ?_|refine a3f ?_|refine a9 ?_|refine a14 ?_|refine a15 ?_|refine a16 ?_|refine a18 ?_|refine a21 ?_|refine a25 ?_|refine ai1 ?_|refine ai2 ?_|refine ai3 ?_|refine ai4 ?_|refine ai6 ?_|refine alit ?_|refine da_skip ?_|refine da_nil ?_)|(refine bl ?_;first|refine bbd ?_|refine bbl ?_|refine b1 ?_|refine b14 ?_|refine b17t ?_|refine b17 ?_|refine b25 ?_|refine db_nil ?_)|refine al_cons (fun id hid=>?_)|refine al_nil ?_|(refine jc ?_;first|refine c1 ?_|refine c2 ?_|refine c3 ?_|refine c4 ?_|refine c5 ?_|refine c6 ?_|refine c7 ?_|refine c8 ?_|refine cqa ?_|refine cqk ?_|refine cq ?_)|refine n1 ?_|refine n2 ?_|refine n3 ?_|refine n4 ?_|refine n5 ?_|refine n6 ?_|refine n7 ?_|refine n8 ?_|refine n9 ?_|refine n10 ?_|refine n13 ?_|refine n11 ?_|refine n12 ?_|refine n14 ?_|refine n15 ?_|refine n16 ?_)
    have hst : outD (m / 10) (dch m :: acc) = dec m0 := by
      rw [← hx2]
      refine outD_step m acc ?_ (by omega)
      rcases h with h | h
      · exact .inl (by omega)
      · exact .inr (List.eq_nil_of_length_eq_zero (by omega))
    have hq : IntKind.i64.wrap ((m : Int).tdiv 10) = ((m / 10 : Nat) : Int) := by
      rw [Int.tdiv_eq_ediv_of_nonneg (by omega), w64 (by omega) (by omega)]; rfl
    refine lj_ite rfl trivial (fun R hR0 hR1 => opj_append_sl (sz := 1) (by_ := 1) (news := bys acc) rfl rfl ⟨rfl, rfl, rfl, by decide⟩ rfl rfl (.inl rfl) rfl rfl (by simp [length_bys, chunk]; omega) (by decide) hR0 hR1) (fun h0 => ?_) (fun h0 => ?_)
  all_goals
    repeat (first|(refine jl ?_;first|refine j7 ?_|refine j8 ?_|refine j10 ?_|refine j11 ?_|refine jtf ?_|refine jb ?_|refine jbl ?_|refine j1 ?_|refine j2 ?_|refine j3 ?_|refine j3f ?_|refine j4 ?_|refine j5 ?_|refine j6 ?_|refine j9 ?_|refine j12 (fun id hid=>?_)|refine j13 (fun id hid=>?_)|refine j14 ?_|refine j15 ?_|refine j17t ?_|refine j17 ?_|refine j16 ?_|refine j18 ?_|refine j19 ?_|refine j20 ?_|refine j21 ?_|refine j23 ?_|refine j24 ?_|refine j25 ?_|refine j26 ?_|refine jeq ?_|refine jeqq ?_|refine jne ?_|refine jneq ?_|refine jxe ?_|refine jxn ?_|refine jcbq ?_|refine ji1 ?_|refine ji2 ?_|refine ji3 ?_|refine ji4 ?_|refine ji5 ?_|refine ji6 ?_|refine j22 (fun id hid=>?_)|refine jlit ?_|refine jmk ?_|refine jap ?_)|(refine dl ?_;first|refine d7 ?_|refine d8 ?_|refine d10 ?_|refine d11 ?_|refine dtf ?_|refine dbd ?_|refine dbl ?_|refine d1 ?_|refine d2 ?_|refine d3 ?_|refine d3f ?_|refine d4 ?_|refine d9 ?_|refine d14 ?_|refine d14a ?_|refine d15 ?_|refine d16 ?_|refine d18 ?_|refine d19 ?_|refine d20 ?_|refine d21 ?_|refine d25 ?_|refine d17 ?_|refine deq ?_|refine deqq ?_|refine dne ?_|refine dneq ?_|refine dxe ?_|refine dxn ?_|refine dcb ?_|refine dcbq ?_|refine di1 ?_|refine di2 ?_|refine di3 ?_|refine di4 ?_|refine di6 ?_)|(refine al ?_;first|refine a7 ?_|refine a8 ?_|refine a10 ?_|refine a11 ?_|refine abd ?_|refine abl ?_|refine a1 ?_|refine a2 ?_|refine a3 ?_|refine a3f ?_|refine a9 ?_|refine a14 ?_|refine a15 ?_|refine a16 ?_|refine a18 ?_|refine a21 ?_|refine a25 ?_|refine ai1 ?_|refine ai2 ?_|refine ai3 ?_|refine ai4 ?_|refine ai6 ?_|refine alit ?_|refine da_skip ?_|refine da_nil ?_)|(refine bl ?_;first|refine bbd ?_|refine bbl ?_|refine b1 ?_|refine b14 ?_|refine b17t ?_|refine b17 ?_|refine b25 ?_|refine db_nil ?_)|refine al_cons (fun id hid=>?_)|refine al_nil ?_|(refine jc ?_;first|refine c1 ?_|refine c2 ?_|refine c3 ?_|refine c4 ?_|refine c5 ?_|refine c6 ?_|refine c7 ?_|refine c8 ?_|refine cqa ?_|refine cqk ?_|refine cq ?_)|refine n1 ?_|refine n2 ?_|refine n3 ?_|refine n4 ?_|refine n5 ?_|refine n6 ?_|refine n7 ?_|refine n8 ?_|refine n9 ?_|refine n10 ?_|refine n13 ?_|refine n11 ?_|refine n12 ?_|refine n14 ?_|refine n15 ?_|refine n16 ?_)
    rw [hq]
    refine nx_thn ⟨(m / 10, dch m :: acc), ⟨by simp only; omega, hst⟩, ?_, ⟨⟨_, rfl, Wk.refl _⟩, ⟨_, rfl, ?_⟩, ⟨_, rfl, Wk.refl _⟩, trivial⟩, St.le_refl _⟩
  all_goals first
    | (simp only [reduceCtorEq, if_false]
       rcases h with h | h
       · split <;> omega
       · rw [if_pos (List.eq_nil_of_length_eq_zero (by omega))]; omega)
    | (have h1 : acc = [] := by
         cases acc with
         | nil => rfl
         | cons a l => simp [bys] at h0
       subst h1
       exact Wk.sl _ _ _ _)
    | exact Wk.sl _ _ _ _
theorem toldS_size (n : Int) : (toldS n).size ≤ 20 := by
  unfold toldS
  split
  · rw [bsz, List.length_cons]; have := dec_len (-n).toNat; omega
  · rw [bsz]; have := dec_len n.toNat; omega
/-! ### The reference -/
def digitsS : ByteArray := ⟨#[48, 49, 50, 51, 52, 53, 54, 55, 56, 57]⟩
theorem digitsS_at (k : Nat) (h : k < 10) : digitsS.extract k (k + 1) = ⟨#[UInt8.ofNat (48 + k)]⟩ := by
  have : k = 0 ∨ k = 1 ∨ k = 2 ∨ k = 3 ∨ k = 4 ∨ k = 5 ∨ k = 6 ∨ k = 7 ∨ k = 8 ∨ k = 9 := by omega
  rcases this with rfl | rfl | rfl | rfl | rfl | rfl | rfl | rfl | rfl | rfl <;> decide
theorem bconcat (a b : List UInt8) : (⟨a.toArray⟩ : ByteArray) ++ ⟨b.toArray⟩ = ⟨(a ++ b).toArray⟩ := by
  apply ByteArray.ext
  rw [ByteArray.data_append]
  exact List.append_toArray ..
theorem p_rtold0 (n : Nat) (hn : n ≤ 1099511627776) : Pure Tryd.prog 86 [.v (.int .i64 n)] (.v (.string (toldS n))) := by
  refine enterW Tryd.func86 rfl rfl rfl rfl (fun σ => ?_)
  have ht : toldS n = ⟨(dec n).toArray⟩ := by rw [toldS, if_neg (by omega)]; rfl
  rw [ht]
  repeat' (first|(first|(refine jl ?_;first|refine j7 ?_|refine j8 ?_|refine j10 ?_|refine j11 ?_|refine jtf ?_|refine jb ?_|refine jbl ?_|refine j1 ?_|refine j2 ?_|refine j3 ?_|refine j3f ?_|refine j4 ?_|refine j5 ?_|refine j6 ?_|refine j9 ?_|refine j12 (fun id hid=>?_)|refine j13 (fun id hid=>?_)|refine j14 ?_|refine j15 ?_|refine j17t ?_|refine j17 ?_|refine j16 ?_|refine j18 ?_|refine j19 ?_|refine j20 ?_|refine j21 ?_|refine j23 ?_|refine j24 ?_|refine j25 ?_|refine j26 ?_|refine jeq ?_|refine jeqq ?_|refine jne ?_|refine jneq ?_|refine jxe ?_|refine jxn ?_|refine jcbq ?_|refine ji1 ?_|refine ji2 ?_|refine ji3 ?_|refine ji4 ?_|refine ji5 ?_|refine ji6 ?_|refine j22 (fun id hid=>?_)|refine jlit ?_|refine jmk ?_|refine jap ?_)|(refine dl ?_;first|refine d7 ?_|refine d8 ?_|refine d10 ?_|refine d11 ?_|refine dtf ?_|refine dbd ?_|refine dbl ?_|refine d1 ?_|refine d2 ?_|refine d3 ?_|refine d3f ?_|refine d4 ?_|refine d9 ?_|refine d14 ?_|refine d14a ?_|refine d15 ?_|refine d16 ?_|refine d18 ?_|refine d19 ?_|refine d20 ?_|refine d21 ?_|refine d25 ?_|refine d17 ?_|refine deq ?_|refine deqq ?_|refine dne ?_|refine dneq ?_|refine dxe ?_|refine dxn ?_|refine dcb ?_|refine dcbq ?_|refine di1 ?_|refine di2 ?_|refine di3 ?_|refine di4 ?_|refine di6 ?_)|(refine al ?_;first|refine a7 ?_|refine a8 ?_|refine a10 ?_|refine a11 ?_|refine abd ?_|refine abl ?_|refine a1 ?_|refine a2 ?_|refine a3 ?_|refine a3f ?_|refine a9 ?_|refine a14 ?_|refine a15 ?_|refine a16 ?_|refine a18 ?_|refine a21 ?_|refine a25 ?_|refine ai1 ?_|refine ai2 ?_|refine ai3 ?_|refine ai4 ?_|refine ai6 ?_|refine alit ?_|refine da_skip ?_|refine da_nil ?_)|(refine bl ?_;first|refine bbd ?_|refine bbl ?_|refine b1 ?_|refine b14 ?_|refine b17t ?_|refine b17 ?_|refine b25 ?_|refine db_nil ?_)|refine al_cons (fun id hid=>?_)|refine al_nil ?_|(refine jc ?_;first|refine c1 ?_|refine c2 ?_|refine c3 ?_|refine c4 ?_|refine c5 ?_|refine c6 ?_|refine c7 ?_|refine c8 ?_|refine cqa ?_|refine cqk ?_|refine cq ?_)|refine n1 ?_|refine n2 ?_|refine n3 ?_|refine n4 ?_|refine n5 ?_|refine n6 ?_|refine n7 ?_|refine n8 ?_|refine n9 ?_|refine n10 ?_|refine n13 ?_|refine n11 ?_|refine n12 ?_|refine n14 ?_|refine n15 ?_|refine n16 ?_)|(refine c9 (fun h=>?_) (fun h=>?_)<;>((try simp only [Bool.or_eq_true, Bool.and_eq_true, Bool.or_eq_false_iff, Bool.and_eq_false_iff, Bool.not_eq_true', Bool.not_eq_false', decide_eq_true_eq, decide_eq_false_iff_not, Bool.false_eq_true, Bool.true_eq_false, reduceCtorEq] at h) <;> (try simp (disch := omega) only [sb_bt, w64, Int.reduceAdd, Int.reduceToNat, Int.toNat_natCast, not_true_eq_false, false_or] at h) <;> (try (exfalso; omega)))))
  refine cj_head (fun x : Nat × List UInt8 => x.1 ≤ 1099511627776 ∧ outD x.1 x.2 = dec n) (fun x => [(0, .v (.int .i64 x.1)), (3, .v (.string ⟨x.2.toArray⟩))]) (fun _ => σ) (fun x => 2 * x.1 + (if x.2 = [] then 1 else 0)) (n, []) ⟨hn, outD_nil n⟩ ⟨rfl, rfl, trivial⟩ (St.le_refl _) (fun x hx => ?_)
  obtain ⟨m, acc⟩ := x
  obtain ⟨hx1, hx2⟩ := hx
  simp only at hx1 hx2
  have hlen : acc.length ≤ 19 := Nat.le_trans (outD_len m acc) (by rw [hx2]; exact dec_len n)
  dsimp only
  have hm10 : (m : Int).tmod 10 = ((m % 10 : Nat) : Int) := by rw [Int.tmod_eq_emod_of_nonneg (by omega)]; rfl
  repeat' (first|(first|(refine jl ?_;first|refine j7 ?_|refine j8 ?_|refine j10 ?_|refine j11 ?_|refine jtf ?_|refine jb ?_|refine jbl ?_|refine j1 ?_|refine j2 ?_|refine j3 ?_|refine j3f ?_|refine j4 ?_|refine j5 ?_|refine j6 ?_|refine j9 ?_|refine j12 (fun id hid=>?_)|refine j13 (fun id hid=>?_)|refine j14 ?_|refine j15 ?_|refine j17t ?_|refine j17 ?_|refine j16 ?_|refine j18 ?_|refine j19 ?_|refine j20 ?_|refine j21 ?_|refine j23 ?_|refine j24 ?_|refine j25 ?_|refine j26 ?_|refine jeq ?_|refine jeqq ?_|refine jne ?_|refine jneq ?_|refine jxe ?_|refine jxn ?_|refine jcbq ?_|refine ji1 ?_|refine ji2 ?_|refine ji3 ?_|refine ji4 ?_|refine ji5 ?_|refine ji6 ?_|refine j22 (fun id hid=>?_)|refine jlit ?_|refine jmk ?_|refine jap ?_)|(refine dl ?_;first|refine d7 ?_|refine d8 ?_|refine d10 ?_|refine d11 ?_|refine dtf ?_|refine dbd ?_|refine dbl ?_|refine d1 ?_|refine d2 ?_|refine d3 ?_|refine d3f ?_|refine d4 ?_|refine d9 ?_|refine d14 ?_|refine d14a ?_|refine d15 ?_|refine d16 ?_|refine d18 ?_|refine d19 ?_|refine d20 ?_|refine d21 ?_|refine d25 ?_|refine d17 ?_|refine deq ?_|refine deqq ?_|refine dne ?_|refine dneq ?_|refine dxe ?_|refine dxn ?_|refine dcb ?_|refine dcbq ?_|refine di1 ?_|refine di2 ?_|refine di3 ?_|refine di4 ?_|refine di6 ?_)|(refine al ?_;first|refine a7 ?_|refine a8 ?_|refine a10 ?_|refine a11 ?_|refine abd ?_|refine abl ?_|refine a1 ?_|refine a2 ?_|refine a3 ?_|refine a3f ?_|refine a9 ?_|refine a14 ?_|refine a15 ?_|refine a16 ?_|refine a18 ?_|refine a21 ?_|refine a25 ?_|refine ai1 ?_|refine ai2 ?_|refine ai3 ?_|refine ai4 ?_|refine ai6 ?_|refine alit ?_|refine da_skip ?_|refine da_nil ?_)|(refine bl ?_;first|refine bbd ?_|refine bbl ?_|refine b1 ?_|refine b14 ?_|refine b17t ?_|refine b17 ?_|refine b25 ?_|refine db_nil ?_)|refine al_cons (fun id hid=>?_)|refine al_nil ?_|(refine jc ?_;first|refine c1 ?_|refine c2 ?_|refine c3 ?_|refine c4 ?_|refine c5 ?_|refine c6 ?_|refine c7 ?_|refine c8 ?_|refine cqa ?_|refine cqk ?_|refine cq ?_)|refine n1 ?_|refine n2 ?_|refine n3 ?_|refine n4 ?_|refine n5 ?_|refine n6 ?_|refine n7 ?_|refine n8 ?_|refine n9 ?_|refine n10 ?_|refine n13 ?_|refine n11 ?_|refine n12 ?_|refine n14 ?_|refine n15 ?_|refine n16 ?_)|(refine c9 (fun h=>?_) (fun h=>?_)<;>(try simp only [Bool.or_eq_true, Bool.and_eq_true, Bool.or_eq_false_iff, Bool.and_eq_false_iff, Bool.not_eq_true', Bool.not_eq_false', decide_eq_true_eq, decide_eq_false_iff_not, Bool.false_eq_true, Bool.true_eq_false, reduceCtorEq] at h)))
  · have hst : outD (m / 10) (dch m :: acc) = dec n := by
      rw [← hx2]
      refine outD_step m acc ?_ (by omega)
      rcases h with h | h
      · exact .inl (by omega)
      · have e := congrArg (fun b : ByteArray => b.data.toList) h
        exact .inr (by simpa using e)
    have hq : IntKind.i64.wrap ((m : Int).tdiv 10) = ((m / 10 : Nat) : Int) := by
      rw [Int.tdiv_eq_ediv_of_nonneg (by omega), w64 (by omega) (by omega)]; rfl
    rw [hm10, w64 (n := ((m % 10 : Nat) : Int) + 1) (by omega) (by omega)]
    have hz : ByteArray.size ⟨#[48, 49, 50, 51, 52, 53, 54, 55, 56, 57]⟩ = 10 := rfl
    refine j21 ?_ (h2 := by rw [hz]; omega)
    have hd : digitsS.extract (((m % 10 : Nat) : Int)).toNat (((m % 10 : Nat) : Int) + 1).toNat = ⟨[dch m].toArray⟩ := by
      rw [show (((m % 10 : Nat) : Int)).toNat = m % 10 from rfl, show (((m % 10 : Nat) : Int) + 1).toNat = m % 10 + 1 by omega, digitsS_at _ (by omega)]
      rfl
    show LJ _ _ _ _ _ ((31, .v (.string (digitsS.extract (((m % 10 : Nat) : Int)).toNat (((m % 10 : Nat) : Int) + 1).toNat))) :: _) _
    rw [hd]
    repeat (first|(refine jl ?_;first|refine j7 ?_|refine j8 ?_|refine j10 ?_|refine j11 ?_|refine jtf ?_|refine jb ?_|refine jbl ?_|refine j1 ?_|refine j2 ?_|refine j3 ?_|refine j3f ?_|refine j4 ?_|refine j5 ?_|refine j6 ?_|refine j9 ?_|refine j12 (fun id hid=>?_)|refine j13 (fun id hid=>?_)|refine j14 ?_|refine j15 ?_|refine j17t ?_|refine j17 ?_|refine j16 ?_|refine j18 ?_|refine j19 ?_|refine j20 ?_|refine j21 ?_|refine j23 ?_|refine j24 ?_|refine j25 ?_|refine j26 ?_|refine jeq ?_|refine jeqq ?_|refine jne ?_|refine jneq ?_|refine jxe ?_|refine jxn ?_|refine jcbq ?_|refine ji1 ?_|refine ji2 ?_|refine ji3 ?_|refine ji4 ?_|refine ji5 ?_|refine ji6 ?_|refine j22 (fun id hid=>?_)|refine jlit ?_|refine jmk ?_|refine jap ?_)|(refine dl ?_;first|refine d7 ?_|refine d8 ?_|refine d10 ?_|refine d11 ?_|refine dtf ?_|refine dbd ?_|refine dbl ?_|refine d1 ?_|refine d2 ?_|refine d3 ?_|refine d3f ?_|refine d4 ?_|refine d9 ?_|refine d14 ?_|refine d14a ?_|refine d15 ?_|refine d16 ?_|refine d18 ?_|refine d19 ?_|refine d20 ?_|refine d21 ?_|refine d25 ?_|refine d17 ?_|refine deq ?_|refine deqq ?_|refine dne ?_|refine dneq ?_|refine dxe ?_|refine dxn ?_|refine dcb ?_|refine dcbq ?_|refine di1 ?_|refine di2 ?_|refine di3 ?_|refine di4 ?_|refine di6 ?_)|(refine al ?_;first|refine a7 ?_|refine a8 ?_|refine a10 ?_|refine a11 ?_|refine abd ?_|refine abl ?_|refine a1 ?_|refine a2 ?_|refine a3 ?_|refine a3f ?_|refine a9 ?_|refine a14 ?_|refine a15 ?_|refine a16 ?_|refine a18 ?_|refine a21 ?_|refine a25 ?_|refine ai1 ?_|refine ai2 ?_|refine ai3 ?_|refine ai4 ?_|refine ai6 ?_|refine alit ?_|refine da_skip ?_|refine da_nil ?_)|(refine bl ?_;first|refine bbd ?_|refine bbl ?_|refine b1 ?_|refine b14 ?_|refine b17t ?_|refine b17 ?_|refine b25 ?_|refine db_nil ?_)|refine al_cons (fun id hid=>?_)|refine al_nil ?_|(refine jc ?_;first|refine c1 ?_|refine c2 ?_|refine c3 ?_|refine c4 ?_|refine c5 ?_|refine c6 ?_|refine c7 ?_|refine c8 ?_|refine cqa ?_|refine cqk ?_|refine cq ?_)|refine n1 ?_|refine n2 ?_|refine n3 ?_|refine n4 ?_|refine n5 ?_|refine n6 ?_|refine n7 ?_|refine n8 ?_|refine n9 ?_|refine n10 ?_|refine n13 ?_|refine n11 ?_|refine n12 ?_|refine n14 ?_|refine n15 ?_|refine n16 ?_)
    rw [bconcat, hq]
    refine nx_thn ⟨(m / 10, dch m :: acc), ⟨by simp only; omega, hst⟩, ?_, ⟨rfl, rfl, trivial⟩, St.le_refl _⟩
    simp only [reduceCtorEq, if_false]
    rcases h with h | h
    · split <;> omega
    · have e := congrArg (fun b : ByteArray => b.data.toList) h
      have e' : acc = [] := by simpa using e
      rw [if_pos e']; omega
  · have hm0' : m = 0 := by omega
    have hne : acc ≠ [] := fun e => h.2 (by rw [e])
    rw [hm0', outD_end acc hne] at hx2
    rw [← hx2]
    exact gives (St.le_refl _) (fin_one (.wk (Wk.of_eq rfl)))
theorem p_rtold : ∀ (k : Nat) (n : Int), (-1099511627776 ≤ n ∧ n ≤ 1099511627776) → (-n).toNat ≤ k → Pure Tryd.prog 86 [.v (.int .i64 n)] (.v (.string (toldS n))) := by
  intro k
  induction k with
  | zero =>
    intro n hn hk
    obtain ⟨m, rfl⟩ := Int.eq_ofNat_of_zero_le (show 0 ≤ n by omega)
    exact p_rtold0 m (by omega)
  | succ k ih =>
    intro n hn hk
    by_cases h0 : 0 ≤ n
    · obtain ⟨m, rfl⟩ := Int.eq_ofNat_of_zero_le h0
      exact p_rtold0 m (by omega)
    · refine enterW Tryd.func86 rfl rfl rfl rfl (fun σ => ?_)
      obtain ⟨m, hm⟩ := Int.eq_ofNat_of_zero_le (show 0 ≤ -n by omega)
      have hw1 : IntKind.i64.wrap (0 - n) = (m : Int) := by rw [w64 (by omega) (by omega)]; omega
      have hq : IntKind.i64.wrap (n.tdiv 10) = -((m / 10 : Nat) : Int) := by
        rw [show n = -(m : Int) by omega, Int.neg_tdiv, Int.tdiv_eq_ediv_of_nonneg (by omega), w64 (by omega) (by omega)]; rfl
      have hr : IntKind.i64.wrap (0 - n.tmod 10) = ((m % 10 : Nat) : Int) := by
        rw [show n = -(m : Int) by omega, Int.neg_tmod, Int.tmod_eq_emod_of_nonneg (by omega), w64 (by omega) (by omega)]; first | done | omega
      repeat' (first|(first|(refine jl ?_;first|refine j7 ?_|refine j8 ?_|refine j10 ?_|refine j11 ?_|refine jtf ?_|refine jb ?_|refine jbl ?_|refine j1 ?_|refine j2 ?_|refine j3 ?_|refine j3f ?_|refine j4 ?_|refine j5 ?_|refine j6 ?_|refine j9 ?_|refine j12 (fun id hid=>?_)|refine j13 (fun id hid=>?_)|refine j14 ?_|refine j15 ?_|refine j17t ?_|refine j17 ?_|refine j16 ?_|refine j18 ?_|refine j19 ?_|refine j20 ?_|refine j21 ?_|refine j23 ?_|refine j24 ?_|refine j25 ?_|refine j26 ?_|refine jeq ?_|refine jeqq ?_|refine jne ?_|refine jneq ?_|refine jxe ?_|refine jxn ?_|refine jcbq ?_|refine ji1 ?_|refine ji2 ?_|refine ji3 ?_|refine ji4 ?_|refine ji5 ?_|refine ji6 ?_|refine j22 (fun id hid=>?_)|refine jlit ?_|refine jmk ?_|refine jap ?_)|(refine dl ?_;first|refine d7 ?_|refine d8 ?_|refine d10 ?_|refine d11 ?_|refine dtf ?_|refine dbd ?_|refine dbl ?_|refine d1 ?_|refine d2 ?_|refine d3 ?_|refine d3f ?_|refine d4 ?_|refine d9 ?_|refine d14 ?_|refine d14a ?_|refine d15 ?_|refine d16 ?_|refine d18 ?_|refine d19 ?_|refine d20 ?_|refine d21 ?_|refine d25 ?_|refine d17 ?_|refine deq ?_|refine deqq ?_|refine dne ?_|refine dneq ?_|refine dxe ?_|refine dxn ?_|refine dcb ?_|refine dcbq ?_|refine di1 ?_|refine di2 ?_|refine di3 ?_|refine di4 ?_|refine di6 ?_)|(refine al ?_;first|refine a7 ?_|refine a8 ?_|refine a10 ?_|refine a11 ?_|refine abd ?_|refine abl ?_|refine a1 ?_|refine a2 ?_|refine a3 ?_|refine a3f ?_|refine a9 ?_|refine a14 ?_|refine a15 ?_|refine a16 ?_|refine a18 ?_|refine a21 ?_|refine a25 ?_|refine ai1 ?_|refine ai2 ?_|refine ai3 ?_|refine ai4 ?_|refine ai6 ?_|refine alit ?_|refine da_skip ?_|refine da_nil ?_)|(refine bl ?_;first|refine bbd ?_|refine bbl ?_|refine b1 ?_|refine b14 ?_|refine b17t ?_|refine b17 ?_|refine b25 ?_|refine db_nil ?_)|refine al_cons (fun id hid=>?_)|refine al_nil ?_|(refine jc ?_;first|refine c1 ?_|refine c2 ?_|refine c3 ?_|refine c4 ?_|refine c5 ?_|refine c6 ?_|refine c7 ?_|refine c8 ?_|refine cqa ?_|refine cqk ?_|refine cq ?_)|refine n1 ?_|refine n2 ?_|refine n3 ?_|refine n4 ?_|refine n5 ?_|refine n6 ?_|refine n7 ?_|refine n8 ?_|refine n9 ?_|refine n10 ?_|refine n13 ?_|refine n11 ?_|refine n12 ?_|refine n14 ?_|refine n15 ?_|refine n16 ?_)|(refine c9 (fun h=>?_) (fun h=>?_)<;>((try simp only [Bool.or_eq_true, Bool.and_eq_true, Bool.or_eq_false_iff, Bool.and_eq_false_iff, Bool.not_eq_true', Bool.not_eq_false', decide_eq_true_eq, decide_eq_false_iff_not, Bool.false_eq_true, Bool.true_eq_false, reduceCtorEq] at h) <;> (try simp (disch := omega) only [sb_bt, w64, Int.reduceAdd, Int.reduceToNat, Int.toNat_natCast, not_true_eq_false, false_or] at h) <;> (try (exfalso; omega)))))
      · rw [hq]
        have hz1 := toldS_size (-((m / 10 : Nat) : Int))
        have hz2 := toldS_size ((m % 10 : Nat) : Int)
        refine jp (ih (-((m / 10 : Nat) : Int)) ⟨by omega, by omega⟩ (by omega)) ?_
        repeat (first|(refine jl ?_;first|refine j7 ?_|refine j8 ?_|refine j10 ?_|refine j11 ?_|refine jtf ?_|refine jb ?_|refine jbl ?_|refine j1 ?_|refine j2 ?_|refine j3 ?_|refine j3f ?_|refine j4 ?_|refine j5 ?_|refine j6 ?_|refine j9 ?_|refine j12 (fun id hid=>?_)|refine j13 (fun id hid=>?_)|refine j14 ?_|refine j15 ?_|refine j17t ?_|refine j17 ?_|refine j16 ?_|refine j18 ?_|refine j19 ?_|refine j20 ?_|refine j21 ?_|refine j23 ?_|refine j24 ?_|refine j25 ?_|refine j26 ?_|refine jeq ?_|refine jeqq ?_|refine jne ?_|refine jneq ?_|refine jxe ?_|refine jxn ?_|refine jcbq ?_|refine ji1 ?_|refine ji2 ?_|refine ji3 ?_|refine ji4 ?_|refine ji5 ?_|refine ji6 ?_|refine j22 (fun id hid=>?_)|refine jlit ?_|refine jmk ?_|refine jap ?_)|(refine dl ?_;first|refine d7 ?_|refine d8 ?_|refine d10 ?_|refine d11 ?_|refine dtf ?_|refine dbd ?_|refine dbl ?_|refine d1 ?_|refine d2 ?_|refine d3 ?_|refine d3f ?_|refine d4 ?_|refine d9 ?_|refine d14 ?_|refine d14a ?_|refine d15 ?_|refine d16 ?_|refine d18 ?_|refine d19 ?_|refine d20 ?_|refine d21 ?_|refine d25 ?_|refine d17 ?_|refine deq ?_|refine deqq ?_|refine dne ?_|refine dneq ?_|refine dxe ?_|refine dxn ?_|refine dcb ?_|refine dcbq ?_|refine di1 ?_|refine di2 ?_|refine di3 ?_|refine di4 ?_|refine di6 ?_)|(refine al ?_;first|refine a7 ?_|refine a8 ?_|refine a10 ?_|refine a11 ?_|refine abd ?_|refine abl ?_|refine a1 ?_|refine a2 ?_|refine a3 ?_|refine a3f ?_|refine a9 ?_|refine a14 ?_|refine a15 ?_|refine a16 ?_|refine a18 ?_|refine a21 ?_|refine a25 ?_|refine ai1 ?_|refine ai2 ?_|refine ai3 ?_|refine ai4 ?_|refine ai6 ?_|refine alit ?_|refine da_skip ?_|refine da_nil ?_)|(refine bl ?_;first|refine bbd ?_|refine bbl ?_|refine b1 ?_|refine b14 ?_|refine b17t ?_|refine b17 ?_|refine b25 ?_|refine db_nil ?_)|refine al_cons (fun id hid=>?_)|refine al_nil ?_|(refine jc ?_;first|refine c1 ?_|refine c2 ?_|refine c3 ?_|refine c4 ?_|refine c5 ?_|refine c6 ?_|refine c7 ?_|refine c8 ?_|refine cqa ?_|refine cqk ?_|refine cq ?_)|refine n1 ?_|refine n2 ?_|refine n3 ?_|refine n4 ?_|refine n5 ?_|refine n6 ?_|refine n7 ?_|refine n8 ?_|refine n9 ?_|refine n10 ?_|refine n13 ?_|refine n11 ?_|refine n12 ?_|refine n14 ?_|refine n15 ?_|refine n16 ?_)
        rw [hr]
        refine jp (p_rtold0 (m % 10) (by omega)) ?_
        repeat (first|(refine jl ?_;first|refine j7 ?_|refine j8 ?_|refine j10 ?_|refine j11 ?_|refine jtf ?_|refine jb ?_|refine jbl ?_|refine j1 ?_|refine j2 ?_|refine j3 ?_|refine j3f ?_|refine j4 ?_|refine j5 ?_|refine j6 ?_|refine j9 ?_|refine j12 (fun id hid=>?_)|refine j13 (fun id hid=>?_)|refine j14 ?_|refine j15 ?_|refine j17t ?_|refine j17 ?_|refine j16 ?_|refine j18 ?_|refine j19 ?_|refine j20 ?_|refine j21 ?_|refine j23 ?_|refine j24 ?_|refine j25 ?_|refine j26 ?_|refine jeq ?_|refine jeqq ?_|refine jne ?_|refine jneq ?_|refine jxe ?_|refine jxn ?_|refine jcbq ?_|refine ji1 ?_|refine ji2 ?_|refine ji3 ?_|refine ji4 ?_|refine ji5 ?_|refine ji6 ?_|refine j22 (fun id hid=>?_)|refine jlit ?_|refine jmk ?_|refine jap ?_)|(refine dl ?_;first|refine d7 ?_|refine d8 ?_|refine d10 ?_|refine d11 ?_|refine dtf ?_|refine dbd ?_|refine dbl ?_|refine d1 ?_|refine d2 ?_|refine d3 ?_|refine d3f ?_|refine d4 ?_|refine d9 ?_|refine d14 ?_|refine d14a ?_|refine d15 ?_|refine d16 ?_|refine d18 ?_|refine d19 ?_|refine d20 ?_|refine d21 ?_|refine d25 ?_|refine d17 ?_|refine deq ?_|refine deqq ?_|refine dne ?_|refine dneq ?_|refine dxe ?_|refine dxn ?_|refine dcb ?_|refine dcbq ?_|refine di1 ?_|refine di2 ?_|refine di3 ?_|refine di4 ?_|refine di6 ?_)|(refine al ?_;first|refine a7 ?_|refine a8 ?_|refine a10 ?_|refine a11 ?_|refine abd ?_|refine abl ?_|refine a1 ?_|refine a2 ?_|refine a3 ?_|refine a3f ?_|refine a9 ?_|refine a14 ?_|refine a15 ?_|refine a16 ?_|refine a18 ?_|refine a21 ?_|refine a25 ?_|refine ai1 ?_|refine ai2 ?_|refine ai3 ?_|refine ai4 ?_|refine ai6 ?_|refine alit ?_|refine da_skip ?_|refine da_nil ?_)|(refine bl ?_;first|refine bbd ?_|refine bbl ?_|refine b1 ?_|refine b14 ?_|refine b17t ?_|refine b17 ?_|refine b25 ?_|refine db_nil ?_)|refine al_cons (fun id hid=>?_)|refine al_nil ?_|(refine jc ?_;first|refine c1 ?_|refine c2 ?_|refine c3 ?_|refine c4 ?_|refine c5 ?_|refine c6 ?_|refine c7 ?_|refine c8 ?_|refine cqa ?_|refine cqk ?_|refine cq ?_)|refine n1 ?_|refine n2 ?_|refine n3 ?_|refine n4 ?_|refine n5 ?_|refine n6 ?_|refine n7 ?_|refine n8 ?_|refine n9 ?_|refine n10 ?_|refine n13 ?_|refine n11 ?_|refine n12 ?_|refine n14 ?_|refine n15 ?_|refine n16 ?_)
        refine gives (St.le_refl _) (fin_one (.wk (Wk.of_eq ?_)))
        have e1 : toldS (-((m / 10 : Nat) : Int)) = ⟨(45 :: dec (m / 10)).toArray⟩ := by
          rw [toldS, if_pos (by omega)]
          congr 4; omega
        have e2 : toldS ((m % 10 : Nat) : Int) = ⟨[dch m].toArray⟩ := by
          rw [toldS, if_neg (by omega), show (((m % 10 : Nat) : Int)).toNat = m % 10 from rfl, dec_small _ (by omega)]
          unfold dch
          rw [Nat.mod_mod]
        have e3 : toldS n = ⟨(45 :: dec m).toArray⟩ := by
          rw [toldS, if_pos (by omega)]
          congr 4; omega
        rw [e1, e2, e3, bconcat, dec_step m (by omega) (by omega)]
        rfl
      · rw [hw1]
        have hz1 := toldS_size (m : Int)
        refine jp (p_rtold0 m (by omega)) ?_
        have hz : ByteArray.size ⟨#[45]⟩ = 1 := rfl
        repeat (first|(refine jl ?_;first|refine j7 ?_|refine j8 ?_|refine j10 ?_|refine j11 ?_|refine jtf ?_|refine jb ?_|refine jbl ?_|refine j1 ?_|refine j2 ?_|refine j3 ?_|refine j3f ?_|refine j4 ?_|refine j5 ?_|refine j6 ?_|refine j9 ?_|refine j12 (fun id hid=>?_)|refine j13 (fun id hid=>?_)|refine j14 ?_|refine j15 ?_|refine j17t ?_|refine j17 ?_|refine j16 ?_|refine j18 ?_|refine j19 ?_|refine j20 ?_|refine j21 ?_|refine j23 ?_|refine j24 ?_|refine j25 ?_|refine j26 ?_|refine jeq ?_|refine jeqq ?_|refine jne ?_|refine jneq ?_|refine jxe ?_|refine jxn ?_|refine jcbq ?_|refine ji1 ?_|refine ji2 ?_|refine ji3 ?_|refine ji4 ?_|refine ji5 ?_|refine ji6 ?_|refine j22 (fun id hid=>?_)|refine jlit ?_|refine jmk ?_|refine jap ?_)|(refine dl ?_;first|refine d7 ?_|refine d8 ?_|refine d10 ?_|refine d11 ?_|refine dtf ?_|refine dbd ?_|refine dbl ?_|refine d1 ?_|refine d2 ?_|refine d3 ?_|refine d3f ?_|refine d4 ?_|refine d9 ?_|refine d14 ?_|refine d14a ?_|refine d15 ?_|refine d16 ?_|refine d18 ?_|refine d19 ?_|refine d20 ?_|refine d21 ?_|refine d25 ?_|refine d17 ?_|refine deq ?_|refine deqq ?_|refine dne ?_|refine dneq ?_|refine dxe ?_|refine dxn ?_|refine dcb ?_|refine dcbq ?_|refine di1 ?_|refine di2 ?_|refine di3 ?_|refine di4 ?_|refine di6 ?_)|(refine al ?_;first|refine a7 ?_|refine a8 ?_|refine a10 ?_|refine a11 ?_|refine abd ?_|refine abl ?_|refine a1 ?_|refine a2 ?_|refine a3 ?_|refine a3f ?_|refine a9 ?_|refine a14 ?_|refine a15 ?_|refine a16 ?_|refine a18 ?_|refine a21 ?_|refine a25 ?_|refine ai1 ?_|refine ai2 ?_|refine ai3 ?_|refine ai4 ?_|refine ai6 ?_|refine alit ?_|refine da_skip ?_|refine da_nil ?_)|(refine bl ?_;first|refine bbd ?_|refine bbl ?_|refine b1 ?_|refine b14 ?_|refine b17t ?_|refine b17 ?_|refine b25 ?_|refine db_nil ?_)|refine al_cons (fun id hid=>?_)|refine al_nil ?_|(refine jc ?_;first|refine c1 ?_|refine c2 ?_|refine c3 ?_|refine c4 ?_|refine c5 ?_|refine c6 ?_|refine c7 ?_|refine c8 ?_|refine cqa ?_|refine cqk ?_|refine cq ?_)|refine n1 ?_|refine n2 ?_|refine n3 ?_|refine n4 ?_|refine n5 ?_|refine n6 ?_|refine n7 ?_|refine n8 ?_|refine n9 ?_|refine n10 ?_|refine n13 ?_|refine n11 ?_|refine n12 ?_|refine n14 ?_|refine n15 ?_|refine n16 ?_)
        refine gives (St.le_refl _) (fin_one (.wk (Wk.of_eq ?_)))
        have e3 : toldS n = ⟨(45 :: dec m).toArray⟩ := by
          rw [toldS, if_pos (by omega)]
          congr 4; omega
        have e1 : toldS (m : Int) = ⟨(dec m).toArray⟩ := by
          rw [toldS, if_neg (by omega)]; rfl
        rw [e1, e3]
        show AV.v (.string ((⟨[45].toArray⟩ : ByteArray) ++ _)) = _
        rw [bconcat]
        rfl
end Go.Proofs.YtcpokdjppedaoaaDoor.Ab

/- Values: texts, and what texts tell. -/
set_option linter.unusedVariables false
set_option linter.unusedSimpArgs false
set_option maxRecDepth 20000
namespace Go.Proofs.YtcpokdjppedaoaaDoor.Ab
open Go
attribute [local irreducible] thn inb endR CJ LJ OpJ DJ

def textV (k n : Int) (s : ByteArray) : ByteArray := if ¬ checkE k n s = 0 then nilS else if k = 1 then toldS n else if k = 2 then s else nilS
theorem checkE_ok {k n : Int} {s : ByteArray} (h : checkE k n s = 0) : (-1099511627776 ≤ n ∧ n ≤ 1099511627776) := by
  unfold checkE at h
  grind
theorem p_textv (k n : Int) (s : ByteArray) : Pure Tryd.prog 54 [vv k n s] (.v (.string (textV k n s))) := by
  refine enterW Tryd.func54 rfl rfl rfl rfl (fun σ => ?_)
  repeat' (first|(first|(refine jl ?_;first|refine j7 ?_|refine j8 ?_|refine j10 ?_|refine j11 ?_|refine jtf ?_|refine jb ?_|refine jbl ?_|refine j1 ?_|refine j2 ?_|refine j3 ?_|refine j3f ?_|refine j4 ?_|refine j5 ?_|refine j6 ?_|refine j9 ?_|refine j12 (fun id hid=>?_)|refine j13 (fun id hid=>?_)|refine j14 ?_|refine j15 ?_|refine j17t ?_|refine j17 ?_|refine j16 ?_|refine j18 ?_|refine j19 ?_|refine j20 ?_|refine j21 ?_|refine j23 ?_|refine j24 ?_|refine j25 ?_|refine j26 ?_|refine jeq ?_|refine jeqq ?_|refine jne ?_|refine jneq ?_|refine jxe ?_|refine jxn ?_|refine jcbq ?_|refine ji1 ?_|refine ji2 ?_|refine ji3 ?_|refine ji4 ?_|refine ji5 ?_|refine ji6 ?_|refine j22 (fun id hid=>?_)|refine jp (p_check _ _ _) ?_|refine jpy (p_check _ _ _) ?_|refine jcq (hp:=fun hc=>p_check _ _ _) ?_|refine jp (p_told n (checkE_ok (by omega))) ?_|refine jpy (p_told n (checkE_ok (by omega))) ?_|refine jcq (hp:=fun hc=>p_told n (checkE_ok (by omega))) ?_|refine jlit ?_|refine jmk ?_|refine jap ?_)|(refine dl ?_;first|refine d7 ?_|refine d8 ?_|refine d10 ?_|refine d11 ?_|refine dtf ?_|refine dbd ?_|refine dbl ?_|refine d1 ?_|refine d2 ?_|refine d3 ?_|refine d3f ?_|refine d4 ?_|refine d9 ?_|refine d14 ?_|refine d14a ?_|refine d15 ?_|refine d16 ?_|refine d18 ?_|refine d19 ?_|refine d20 ?_|refine d21 ?_|refine d25 ?_|refine d17 ?_|refine deq ?_|refine deqq ?_|refine dne ?_|refine dneq ?_|refine dxe ?_|refine dxn ?_|refine dcb ?_|refine dcbq ?_|refine di1 ?_|refine di2 ?_|refine di3 ?_|refine di4 ?_|refine di6 ?_|refine dp (p_check _ _ _) ?_|refine dpy (p_check _ _ _) ?_|refine dpq (hp:=fun hc=>p_check _ _ _) ?_|refine dp (p_told n (checkE_ok (by omega))) ?_|refine dpy (p_told n (checkE_ok (by omega))) ?_|refine dpq (hp:=fun hc=>p_told n (checkE_ok (by omega))) ?_)|(refine al ?_;first|refine a7 ?_|refine a8 ?_|refine a10 ?_|refine a11 ?_|refine abd ?_|refine abl ?_|refine a1 ?_|refine a2 ?_|refine a3 ?_|refine a3f ?_|refine a9 ?_|refine a14 ?_|refine a15 ?_|refine a16 ?_|refine a18 ?_|refine a21 ?_|refine a25 ?_|refine ai1 ?_|refine ai2 ?_|refine ai3 ?_|refine ai4 ?_|refine ai6 ?_|refine alit ?_|refine ap (p_check _ _ _) ?_|refine apy (p_check _ _ _) ?_|refine ap (p_told n (checkE_ok (by omega))) ?_|refine apy (p_told n (checkE_ok (by omega))) ?_|refine da_skip ?_|refine da_nil ?_)|(refine bl ?_;first|refine bbd ?_|refine bbl ?_|refine b1 ?_|refine b14 ?_|refine b17t ?_|refine b17 ?_|refine b25 ?_|refine db_nil ?_)|refine al_cons (fun id hid=>?_)|refine al_nil ?_|(refine jc ?_;first|refine c1 ?_|refine c2 ?_|refine c3 ?_|refine c4 ?_|refine c5 ?_|refine c6 ?_|refine c7 ?_|refine c8 ?_|refine cqa ?_|refine cqk ?_|refine cq ?_)|refine n1 ?_|refine n2 ?_|refine n3 ?_|refine n4 ?_|refine n5 ?_|refine n6 ?_|refine n7 ?_|refine n8 ?_|refine n9 ?_|refine n10 ?_|refine n13 ?_|refine n11 ?_|refine n12 ?_|refine n14 ?_|refine n15 ?_|refine n16 ?_)|(refine c9 (fun h=>?_) (fun h=>?_)<;>(try simp only [Bool.or_eq_true, Bool.and_eq_true, Bool.or_eq_false_iff, Bool.and_eq_false_iff, Bool.not_eq_true', Bool.not_eq_false', decide_eq_true_eq, decide_eq_false_iff_not, Bool.false_eq_true, Bool.true_eq_false, reduceCtorEq] at h)))
  all_goals refine gives (St.le_set _ hid) (fin_one (.wk (Wk.of_eq ?_)))
  all_goals simp only [ofLeaf, AV.v.injEq, Value.string.injEq, true_and]
  all_goals unfold textV nilS
  all_goals grind
theorem p_rtextv (k n : Int) (s : ByteArray) (hz : s.size ≤ 9223372036854775807) : Pure Tryd.prog 56 [vv k n s] (.v (.string (textV k n s))) := by
  refine enterW Tryd.func56 rfl rfl rfl rfl (fun σ => ?_)
  repeat' (first|(first|(refine jl ?_;first|refine j7 ?_|refine j8 ?_|refine j10 ?_|refine j11 ?_|refine jtf ?_|refine jb ?_|refine jbl ?_|refine j1 ?_|refine j2 ?_|refine j3 ?_|refine j3f ?_|refine j4 ?_|refine j5 ?_|refine j6 ?_|refine j9 ?_|refine j12 (fun id hid=>?_)|refine j13 (fun id hid=>?_)|refine j14 ?_|refine j15 ?_|refine j17t ?_|refine j17 ?_|refine j16 ?_|refine j18 ?_|refine j19 ?_|refine j20 ?_|refine j21 ?_|refine j23 ?_|refine j24 ?_|refine j25 ?_|refine j26 ?_|refine jeq ?_|refine jeqq ?_|refine jne ?_|refine jneq ?_|refine jxe ?_|refine jxn ?_|refine jcbq ?_|refine ji1 ?_|refine ji2 ?_|refine ji3 ?_|refine ji4 ?_|refine ji5 ?_|refine ji6 ?_|refine j22 (fun id hid=>?_)|refine jp (p_rcheck _ _ _ hz) ?_|refine jpy (p_rcheck _ _ _ hz) ?_|refine jcq (hp:=fun hc=>p_rcheck _ _ _ hz) ?_|refine jp (p_rtold _ n (checkE_ok (by omega)) (Nat.le_refl _)) ?_|refine jpy (p_rtold _ n (checkE_ok (by omega)) (Nat.le_refl _)) ?_|refine jcq (hp:=fun hc=>p_rtold _ n (checkE_ok (by omega)) (Nat.le_refl _)) ?_|refine jlit ?_|refine jmk ?_|refine jap ?_)|(refine dl ?_;first|refine d7 ?_|refine d8 ?_|refine d10 ?_|refine d11 ?_|refine dtf ?_|refine dbd ?_|refine dbl ?_|refine d1 ?_|refine d2 ?_|refine d3 ?_|refine d3f ?_|refine d4 ?_|refine d9 ?_|refine d14 ?_|refine d14a ?_|refine d15 ?_|refine d16 ?_|refine d18 ?_|refine d19 ?_|refine d20 ?_|refine d21 ?_|refine d25 ?_|refine d17 ?_|refine deq ?_|refine deqq ?_|refine dne ?_|refine dneq ?_|refine dxe ?_|refine dxn ?_|refine dcb ?_|refine dcbq ?_|refine di1 ?_|refine di2 ?_|refine di3 ?_|refine di4 ?_|refine di6 ?_|refine dp (p_rcheck _ _ _ hz) ?_|refine dpy (p_rcheck _ _ _ hz) ?_|refine dpq (hp:=fun hc=>p_rcheck _ _ _ hz) ?_|refine dp (p_rtold _ n (checkE_ok (by omega)) (Nat.le_refl _)) ?_|refine dpy (p_rtold _ n (checkE_ok (by omega)) (Nat.le_refl _)) ?_|refine dpq (hp:=fun hc=>p_rtold _ n (checkE_ok (by omega)) (Nat.le_refl _)) ?_)|(refine al ?_;first|refine a7 ?_|refine a8 ?_|refine a10 ?_|refine a11 ?_|refine abd ?_|refine abl ?_|refine a1 ?_|refine a2 ?_|refine a3 ?_|refine a3f ?_|refine a9 ?_|refine a14 ?_|refine a15 ?_|refine a16 ?_|refine a18 ?_|refine a21 ?_|refine a25 ?_|refine ai1 ?_|refine ai2 ?_|refine ai3 ?_|refine ai4 ?_|refine ai6 ?_|refine alit ?_|refine ap (p_rcheck _ _ _ hz) ?_|refine apy (p_rcheck _ _ _ hz) ?_|refine ap (p_rtold _ n (checkE_ok (by omega)) (Nat.le_refl _)) ?_|refine apy (p_rtold _ n (checkE_ok (by omega)) (Nat.le_refl _)) ?_|refine da_skip ?_|refine da_nil ?_)|(refine bl ?_;first|refine bbd ?_|refine bbl ?_|refine b1 ?_|refine b14 ?_|refine b17t ?_|refine b17 ?_|refine b25 ?_|refine db_nil ?_)|refine al_cons (fun id hid=>?_)|refine al_nil ?_|(refine jc ?_;first|refine c1 ?_|refine c2 ?_|refine c3 ?_|refine c4 ?_|refine c5 ?_|refine c6 ?_|refine c7 ?_|refine c8 ?_|refine cqa ?_|refine cqk ?_|refine cq ?_)|refine n1 ?_|refine n2 ?_|refine n3 ?_|refine n4 ?_|refine n5 ?_|refine n6 ?_|refine n7 ?_|refine n8 ?_|refine n9 ?_|refine n10 ?_|refine n13 ?_|refine n11 ?_|refine n12 ?_|refine n14 ?_|refine n15 ?_|refine n16 ?_)|(refine c9 (fun h=>?_) (fun h=>?_)<;>(try simp only [Bool.or_eq_true, Bool.and_eq_true, Bool.or_eq_false_iff, Bool.and_eq_false_iff, Bool.not_eq_true', Bool.not_eq_false', decide_eq_true_eq, decide_eq_false_iff_not, Bool.false_eq_true, Bool.true_eq_false, reduceCtorEq] at h)))
  all_goals refine gives (St.le_set _ hid) (fin_one (.wk (Wk.of_eq ?_)))
  all_goals simp only [ofLeaf, AV.v.injEq, Value.string.injEq, true_and]
  all_goals unfold textV nilS
  all_goals grind
def parseV (s : ByteArray) : Int × Int × ByteArray × Int :=
  if wordB s = false then (0, 0, ⟨#[]⟩, 6) else if s = nilS then (0, 0, ⟨#[]⟩, 0) else if isNumB s = false then (2, 0, s, 0)
  else if 1099511627776 < numOf s then (0, 0, ⟨#[]⟩, 12) else (1, if minusB s then -(numOf s : Int) else numOf s, ⟨#[]⟩, 0)
theorem wordB_size {s : ByteArray} (h : wordB s = true) : s.size ≤ 24 := by
  unfold wordB at h
  simp only [Bool.and_eq_true, decide_eq_true_eq] at h
  exact h.2.1
theorem allD_get {s : ByteArray} (h : allD s = true) (i : Nat) (hi : i < (bodyS s).size) : dig (bt (bodyS s) i) := digB_get (bodyS s) i 0 h (Nat.zero_le _) hi
end Go.Proofs.YtcpokdjppedaoaaDoor.Ab
