/- The texts V1, V2, V3, Shelf, V4, V5, V6, V7, one behind the other. -/
import Derived.Test.YtfaaokekgljnbaaDoorM1
import Derived.Test.YtfaaokekgljnbaaDoorM2
import Derived.Test.YtfaaokekgljnbaaDoorM3
import Derived.Test.YtfaaokekgljnbaaDoorM4
import Derived.Test.YtfaaokekgljnbaaDoorProg
import Derived.Shelf.Unicode.ValidAny
import Derived.Lib.DecodeN
import Derived.Lib.TrimUEq
import Derived.Lib.ValidLaws
/- Values: what two of them are asked; how they are made. -/
set_option linter.unusedVariables false
set_option linter.unusedSimpArgs false
set_option maxRecDepth 20000
namespace Go.Proofs.YtfaaokekgljnbaaDoor.Ab
open Go
attribute [local irreducible] thn inb endR CJ LJ OpJ DJ

theorem St.le_set2' {σ : St} {a b : Nat} {x y : AObj} (ha : σ a = none) (hb : (σ.set a x) b = none) : σ.le ((σ.set a x).set b y) := St.le_trans (St.le_set _ ha) (St.le_set _ hb)
abbrev vv (k n : Int) (s : ByteArray) : AV := .agg [.v (.int .u8 k), .v (.int .i64 n), .v (.string s)]
def sameV (k n : Int) (s : ByteArray) (k' n' : Int) (s' : ByteArray) : Bool := decide (k = k') && (decide (n = n') && (decide (s = s') && true))
def holdsV (p k n : Int) (s : ByteArray) (k' n' : Int) (s' : ByteArray) : Bool :=
  if p = 0 then sameV k n s k' n' s' else if p = 1 then !sameV k n s k' n' s' else if k ≠ 1 ∨ k' ≠ 1 then false else
  if p = 2 then decide (n < n') else if p = 3 then decide (n ≤ n') else if p = 4 then decide (n' < n) else if p = 5 then decide (n' ≤ n) else false
theorem guard_vv : Tryd.prog.eqGuardType Tryd.prog.depth 29 = false := by kernel_rfl
theorem eq_vv (k n : Int) (s : ByteArray) (k' n' : Int) (s' : ByteArray) : eqV Tryd.prog 5 29 (vv k n s) (vv k' n' s') = some (sameV k n s k' n' s') := by rfl
theorem p_number (n : Int) : Pure Tryd.prog 144 [.v (.int .i64 n)] (vv 1 n ⟨#[]⟩) := by
  refine enterW Tryd.func144 rfl rfl rfl rfl (fun σ => ?_)
  repeat (first|(refine jl ?_;first|refine jb ?_|refine j1 ?_|refine j4 ?_|refine j13 (fun id hid=>?_)|refine j17t ?_)|(refine jc ?_;first|refine c1 ?_|refine c2 ?_|refine c7 ?_)|refine n14 ?_)
  exact gives (by first | exact St.le_set _ (by assumption) | (rw [St.set_set]; exact St.le_set _ (by assumption))) (Fin.refl _ _ _)
theorem p_symbol (s : ByteArray) : Pure Tryd.prog 143 [.v (.string s)] (vv 2 0 s) := by
  refine enterW Tryd.func143 rfl rfl rfl rfl (fun σ => ?_)
  repeat (first|(refine jl ?_;first|refine jb ?_|refine j1 ?_|refine j4 ?_|refine j13 (fun id hid=>?_)|refine j17t ?_)|(refine jc ?_;first|refine c1 ?_|refine c2 ?_|refine c7 ?_)|refine n14 ?_)
  exact gives (by first | exact St.le_set _ (by assumption) | (rw [St.set_set]; exact St.le_set _ (by assumption))) (Fin.refl _ _ _)
def signS (p : Int) : ByteArray := if p = 0 then ⟨#[61]⟩ else if p = 1 then ⟨#[60, 62]⟩ else if p = 2 then ⟨#[60]⟩ else if p = 3 then ⟨#[60, 61]⟩ else if p = 4 then ⟨#[62]⟩ else if p = 5 then ⟨#[62, 61]⟩ else ⟨#[]⟩
theorem p_rsignv (p : Int) : Pure Tryd.prog 90 [.v (.int .u8 p)] (.v (.string (signS p))) := by
  refine enterW Tryd.func90 rfl rfl rfl rfl (fun σ => ?_)
  repeat' (first |(first|(refine jl ?_;first|refine j1 ?_|refine j4 ?_)|(refine jc ?_;first|refine c1 ?_|refine c2 ?_|refine c5 ?_|refine c6 ?_|refine c7 ?_)|refine n1 ?_|refine n2 ?_|refine n6 ?_|refine n10 ?_|refine n11 ?_)|(refine c9 (fun h=>?_) (fun h=>?_) <;> (try (exfalso; simp at h; done))))
  all_goals exact gives (St.le_refl _) (fin_one (.wk (Wk.of_eq (by simp_all [signS, ofLeaf]))))
end Go.Proofs.YtfaaokekgljnbaaDoor.Ab

/- Values: signs of preds, the code points of words. -/
set_option linter.unusedVariables false
set_option linter.unusedSimpArgs false
set_option maxRecDepth 20000
namespace Go.Proofs.YtfaaokekgljnbaaDoor.Ab
open Go
attribute [local irreducible] thn inb endR CJ LJ OpJ DJ

theorem p_signv (p : Int) (h0 : 0 ≤ p) (h1 : p < 256) : Pure Tryd.prog 40 [.v (.int .u8 p)] (.v (.string (signS p))) := by
  refine enterW Tryd.func40 rfl rfl rfl rfl (fun σ => ?_)
  have hw : IntKind.i64.wrap p = p := by rw [IntKind.wrap_i64]; omega
  repeat (first|(refine jl ?_;first|refine j1 ?_|refine j4 ?_)|(refine jc ?_;first|refine c1 ?_|refine c2 ?_))
  refine lj_v rfl (fun R hR => opj_build_arr (n := 6) rfl rfl rfl rfl rfl rfl hR) ?_
  repeat (first|(refine jl ?_;first|refine j1 ?_|refine j4 ?_|refine j13 (fun id hid=>?_)|refine j17t ?_)|(refine jc ?_;first|refine c1 ?_|refine c2 ?_))
  rw [hw]
  repeat' (first |(first|(refine jl ?_;first|refine j1 ?_|refine j4 ?_)|(refine jc ?_;first|refine c1 ?_|refine c2 ?_|refine c6 ?_|refine c7 ?_)|refine n1 ?_|refine n2 ?_|refine n11 ?_)|(refine c9 (fun h=>?_) (fun h=>?_) <;> (try (exfalso; simp at h; done))))
  · simp only [decide_eq_true_eq] at h
    refine gives (by (try rw [St.set_set]); exact St.le_set _ (by assumption)) (fin_one (.wk (Wk.of_eq ?_)))
    unfold signS
    rw [if_neg (by omega), if_neg (by omega), if_neg (by omega), if_neg (by omega), if_neg (by omega), if_neg (by omega)]
  · simp only [decide_eq_false_iff_not] at h
    have hp : p = 0 ∨ p = 1 ∨ p = 2 ∨ p = 3 ∨ p = 4 ∨ p = 5 := by omega
    refine lj_v rfl (fun R hR => opj_indexAddr_arr (n := 6) rfl rfl rfl rfl rfl h0 (by omega) hR) ?_
    rcases hp with rfl | rfl | rfl | rfl | rfl | rfl
    all_goals
      repeat (first|(refine jl ?_;first|refine j1 ?_|refine j4 ?_|refine j14 ?_)|(refine jc ?_;first|refine c7 ?_)|refine n11 ?_)
      exact gives (by (try rw [St.set_set]); exact St.le_set _ (by assumption)) (fin_one (.wk (Wk.of_eq rfl)))
def inP (c : Int) : Prop := 128 ≤ c ∨ (97 ≤ c ∧ c ≤ 122) ∨ (65 ≤ c ∧ c ≤ 90) ∨ (48 ≤ c ∧ c ≤ 57) ∨ c = 95 ∨ c = 45 ∨ c = 63 ∨ c = 33 ∨ c = 43 ∨ c = 42 ∨ c = 46
instance (c : Int) : Decidable (inP c) := by unfold inP; exact inferInstance
theorem in_yes {c : Int} (h : inP c) : Wk (.v (.bool true)) (.v (.bool (decide (inP c)))) := Wk.of_eq (by rw [decide_eq_true h])
theorem in_no {c : Int} (h : ¬ inP c) : Wk (.v (.bool false)) (.v (.bool (decide (inP c)))) := Wk.of_eq (by rw [decide_eq_false h])
end Go.Proofs.YtfaaokekgljnbaaDoor.Ab

/- Values: the code points of words. -/
set_option linter.unusedVariables false
set_option linter.unusedSimpArgs false
set_option maxRecDepth 20000
namespace Go.Proofs.YtfaaokekgljnbaaDoor.Ab
open Go
attribute [local irreducible] thn inb endR CJ LJ OpJ DJ

theorem in_dec {c : Int} {b : Bool} (h : if b then inP c else ¬ inP c) : Wk (.v (.bool b)) (.v (.bool (decide (inP c)))) := by
  cases b with
  | true => exact in_yes (by simpa using h)
  | false => exact in_no (by simpa using h)
theorem p_in (c : Int) : Pure Tryd.prog 146 [.v (.int .i32 c)] (.v (.bool (decide (inP c)))) := by
  refine enterW Tryd.func146 rfl rfl rfl rfl (fun σ => ?_)
  repeat' (first|(first|(refine jl ?_;first|refine j8 ?_|refine j1 ?_|refine j4 ?_|refine j9 ?_)|(refine jc ?_;first|refine c1 ?_|refine c2 ?_|refine c3 ?_|refine c5 ?_|refine c6 ?_|refine c7 ?_)|refine n1 ?_|refine n2 ?_|refine n6 ?_|refine n10 ?_|refine n11 ?_)|(refine c9 (fun h=>?_) (fun h=>?_)<;>(try simp only [Bool.or_eq_true, Bool.and_eq_true, Bool.or_eq_false_iff, Bool.and_eq_false_iff, Bool.not_eq_true', Bool.not_eq_false', decide_eq_true_eq, decide_eq_false_iff_not, Bool.false_eq_true, Bool.true_eq_false, reduceCtorEq] at h)))
  all_goals refine gives (St.le_refl _) (fin_one (.wk (in_dec ?_)))
  all_goals simp only [Bool.false_eq_true, if_true, if_false]
  all_goals unfold inP
  all_goals omega
end Go.Proofs.YtfaaokekgljnbaaDoor.Ab

/-
  DERIVED: THE SHELF's CONTRACTS AT THIS DUMP, IN PLAIN WORDS (tools/lay-plain.mjs out of 'YtfaaokekgljnbaaDoorShelf.lean', which tools/lay-shelf.mjs wrote): THE SAME DECLARATIONS UNDER THE SAME YtfaaokekgljnbaaDoorS: 'import', 'namespace', 'open', 'def', 'theorem' AND NOTHING ELSE: no command of the shelf's: FOR A HAND-IN. Each laying: the table of numbers ('.._ren') and one theorem, a field a fact of the dump's own or the kernel's comparison; each contract: ONE APPLICATION.
-/
namespace Go.Proofs
open Go.Shelf
def Tryd.laysValid_ren : Go.Shelf.Ren := ⟨fun | 196 => 145 | 259 => 160 | n => n, fun | 9 => 9 | 4 => 4 | 3 => 3 | 5 => 5 | 12 => 12 | 119 => 202 | 0 => 0 | 46 => 206 | 139 => 205 | 138 => 204 | 53 => 209 | n => n, fun | 3 => 1 | 4 => 2 | n => n⟩
theorem Tryd.laysValid : Go.Proofs.Lays.n196 Tryd.prog Tryd.laysValid_ren := {
  mixed := by kernel_rfl
  f196 := Tryd.func145.trans (congrArg some (by kernel_rfl))
  f259 := Tryd.func160.trans (congrArg some (by kernel_rfl))
  t0 := Tryd.underlying0
  a0 := Tryd.isAgg0
  z0 := Tryd.sizeOf0
  v0 := Tryd.zeroValue0
  t3 := Tryd.underlying3
  a3 := Tryd.isAgg3
  z3 := Tryd.sizeOf3
  v3 := Tryd.zeroValue3
  t4 := Tryd.underlying4
  a4 := Tryd.isAgg4
  z4 := Tryd.sizeOf4
  v4 := Tryd.zeroValue4
  t5 := Tryd.underlying5
  a5 := Tryd.isAgg5
  z5 := Tryd.sizeOf5
  v5 := Tryd.zeroValue5
  t9 := Tryd.underlying9
  a9 := Tryd.isAgg9
  z9 := Tryd.sizeOf9
  v9 := Tryd.zeroValue9
  t12 := Tryd.underlying12
  a12 := Tryd.isAgg12
  z12 := Tryd.sizeOf12
  v12 := Tryd.zeroValue12
  t46 := Tryd.underlying206
  a46 := Tryd.isAgg206
  z46 := Tryd.sizeOf206
  v46 := Tryd.zeroValue206
  t53 := Tryd.underlying209
  a53 := Tryd.isAgg209
  z53 := Tryd.sizeOf209
  v53 := Tryd.zeroValue209
  t119 := Tryd.underlying202
  a119 := Tryd.isAgg202
  z119 := Tryd.sizeOf202
  t138 := Tryd.underlying204
  a138 := Tryd.isAgg204
  z138 := Tryd.sizeOf204
  v138 := Tryd.zeroValue204
  t139 := Tryd.underlying205
  a139 := Tryd.isAgg205
  z139 := Tryd.sizeOf205
  v139 := Tryd.zeroValue205
  g3 := by kernel_rfl
  g4 := by kernel_rfl }
end Go.Proofs

/- Go's own utf8.ValidString, by the shelf's contract. -/
set_option linter.unusedVariables false
set_option linter.unusedSimpArgs false
set_option maxRecDepth 20000
namespace Go.Proofs.YtfaaokekgljnbaaDoor.Ab
open Go Go.RowKit
theorem pure_below {P : Program} {f : FuncId} {args : List AV} {x : Value} (hx : x.oneCell' = true) (h : ∀ (k : Cx) (vs : List Value), Ok k → Reps k args vs → Calls P f vs.toArray k.w (fun e w' => e = .returned x ∧ Below k.w.heap.size k.w w')) : Pure P f args (.v x) := fun σ k vs hσ hk hv =>
  (h k vs hk hv).mono fun e w' ⟨h1, h2⟩ => by
    obtain ⟨hok, hst⟩ := hk.world w' h2.os h2.tape h2.output h2.size h2.block
    subst h1
    exact ⟨{ k with w := w' }, .ret (.v x), rfl, hok, hst, .v hx, rfl, hσ ▸ St.le_refl _⟩
theorem reps_one {k : Cx} {x : Value} {vs : List Value} (h : Reps k [.v x] vs) : vs = [x] := by
  obtain ⟨h1, h2⟩ := h
  match vs, h1 with
  | [v], _ =>
    have := h2 0 (.v x) v rfl rfl
    cases this
    rfl
theorem p_valid (s : ByteArray) (hs : s.size ≤ 9223372036854775807) : Pure Tryd.prog 145 [.v (.string s)] (.v (.bool (Lib.validD s.data.toList))) :=
  pure_below rfl fun k vs hk hv => by
    rw [reps_one hv]
    exact Any.utf8_ValidString Tryd.laysValid s k.w hs hk.gr.1
end Go.Proofs.YtfaaokekgljnbaaDoor.Ab

/- Values: the reference's own code points. -/
set_option linter.unusedVariables false
set_option linter.unusedSimpArgs false
set_option maxRecDepth 20000
namespace Go.Proofs.YtfaaokekgljnbaaDoor.Ab
open Go
attribute [local irreducible] thn inb endR CJ LJ OpJ DJ

/-- The reference's own: a code point and its width, or nothing. -/
def runeN (n b0 b1 b2 b3 : Nat) : Nat × Nat :=
  if b0 < 128 then (b0, 1)
  else if b0 < 194 then (0, 0)
  else if b0 < 224 then (if n < 2 ∨ b1 < 128 ∨ 191 < b1 then (0, 0) else (64 * (b0 - 192) + b1 - 128, 2))
  else if b0 < 240 then (if n < 3 ∨ b1 < 128 ∨ 191 < b1 ∨ b2 < 128 ∨ 191 < b2 ∨ 64 * (64 * (b0 - 224) + b1 - 128) + b2 - 128 < 2048 ∨ (55296 ≤ 64 * (64 * (b0 - 224) + b1 - 128) + b2 - 128 ∧ 64 * (64 * (b0 - 224) + b1 - 128) + b2 - 128 < 57344) then (0, 0) else (64 * (64 * (b0 - 224) + b1 - 128) + b2 - 128, 3))
  else if b0 < 245 then (if n < 4 ∨ b1 < 128 ∨ 191 < b1 ∨ b2 < 128 ∨ 191 < b2 ∨ b3 < 128 ∨ 191 < b3 ∨ 64 * (64 * (64 * (b0 - 240) + b1 - 128) + b2 - 128) + b3 - 128 < 65536 ∨ 1114111 < 64 * (64 * (64 * (b0 - 240) + b1 - 128) + b2 - 128) + b3 - 128 then (0, 0) else (64 * (64 * (64 * (b0 - 240) + b1 - 128) + b2 - 128) + b3 - 128, 4))
  else (0, 0)
theorem runeN_dec (n b0 b1 b2 b3 : Nat) (h0 : b0 < 256) (h1 : b1 < 256) (h2 : b2 < 256) (h3 : b3 < 256) : runeN n b0 b1 b2 b3 = if (Lib.decodeN n b0 b1 b2 b3).1 = 65533 ∧ (Lib.decodeN n b0 b1 b2 b3).2 = 1 then (0, 0) else Lib.decodeN n b0 b1 b2 b3 := by
  unfold runeN Lib.decodeN
  repeat' split
  all_goals try dsimp only at *
  all_goals first | (exfalso; omega) | (refine Prod.ext ?_ ?_ <;> dsimp only <;> omega)
def runeS (s : ByteArray) : Nat × Nat := runeN s.size (bt s 0) (bt s 1) (bt s 2) (bt s 3)
set_option maxHeartbeats 4000000 in
theorem p_rrune (s : ByteArray) (hs : 0 < s.size) : Pure Tryd.prog 148 [.v (.string s)] (.tup [.v (.int .i64 (runeS s).1), .v (.int .i64 (runeS s).2)]) := by
  refine enterW Tryd.func148 rfl rfl rfl rfl (fun σ => ?_)
  have hb0 := bt_lt s 0
  have hb1 := bt_lt s 1
  have hb2 := bt_lt s 2
  have hb3 := bt_lt s 3
  repeat' (first|(first|(refine jl ?_;first|refine j8 ?_|refine j1 ?_|refine j4 ?_|refine j6 ?_|refine j9 ?_|refine j18 ?_)|(refine jc ?_;first|refine c1 ?_|refine c2 ?_|refine c5 ?_|refine c6 ?_|refine c7 ?_)|refine n1 ?_|refine n2 ?_|refine n6 ?_|refine n10 ?_|refine n11 ?_)|(refine c9 (fun h=>?_) (fun h=>?_)<;>((try simp only [Bool.or_eq_true, Bool.and_eq_true, Bool.or_eq_false_iff, Bool.and_eq_false_iff, Bool.not_eq_true', Bool.not_eq_false', decide_eq_true_eq, decide_eq_false_iff_not, Bool.false_eq_true, Bool.true_eq_false, reduceCtorEq] at h) <;> (try simp (disch := omega) only [sb_bt, w64, Int.reduceAdd, Int.reduceToNat, Int.toNat_natCast, not_true_eq_false, false_or] at h) <;> (try (exfalso; omega)))))
  all_goals try (refine cj_unroll 3 ?_)
  repeat' (first|(first|(refine jl ?_;first|refine j7 ?_|refine j8 ?_|refine j10 ?_|refine j11 ?_|refine j1 ?_|refine j4 ?_|refine j5 ?_|refine j6 ?_|refine j9 ?_|refine j18 ?_|refine j20 ?_)|(refine jc ?_;first|refine c1 ?_|refine c2 ?_|refine c5 ?_|refine c6 ?_|refine c7 ?_|refine c8 ?_)|refine n1 ?_|refine n2 ?_|refine n3 ?_|refine n5 ?_|refine n6 ?_|refine n7 ?_|refine n8 ?_|refine n10 ?_|refine n11 ?_)|(refine c9 (fun h=>?_) (fun h=>?_)<;>((try simp only [Bool.or_eq_true, Bool.and_eq_true, Bool.or_eq_false_iff, Bool.and_eq_false_iff, Bool.not_eq_true', Bool.not_eq_false', decide_eq_true_eq, decide_eq_false_iff_not, Bool.false_eq_true, Bool.true_eq_false, reduceCtorEq] at h) <;> (try simp (disch := omega) only [sb_bt, w64, Int.reduceAdd, Int.reduceToNat, Int.toNat_natCast, not_true_eq_false, false_or] at h) <;> (try (exfalso; omega)))))
  all_goals try (simp (disch := omega) only [sb_bt, w64, Int.reduceAdd, Int.reduceToNat, not_true_eq_false, false_or] at *)
  all_goals refine gives (St.le_refl _) (fin_two (.wk (Wk.of_eq ?_)) (.wk (Wk.of_eq ?_)))
  all_goals simp only [ofLeaf, runeS, runeN, AV.v.injEq, Value.int.injEq, true_and]
  all_goals repeat' split
  all_goals omega
end Go.Proofs.YtfaaokekgljnbaaDoor.Ab

/- Values: words. -/
set_option linter.unusedVariables false
set_option linter.unusedSimpArgs false
set_option maxRecDepth 20000
namespace Go.Proofs.YtfaaokekgljnbaaDoor.Ab
open Go
attribute [local irreducible] thn inb endR CJ LJ OpJ DJ

/-- All code points of a text may stand in a word; each one is right. -/
def wordF : Nat → List UInt8 → Bool
  | 0, _ => true
  | n + 1, l => if l = [] then true else if (Lib.decodeL l).1 = 65533 ∧ (Lib.decodeL l).2 = 1 then false else decide (inP (Lib.decodeL l).1) && wordF n (l.drop (Lib.decodeL l).2)
theorem wordF_nil (n : Nat) : wordF n [] = true := by cases n <;> rfl
theorem wordF_fuel : ∀ (n m : Nat) (l : List UInt8), l.length ≤ n → l.length ≤ m → wordF n l = wordF m l
  | 0, m, l, hn, _ => by
    have : l = [] := List.eq_nil_of_length_eq_zero (by omega)
    subst this
    rw [wordF_nil, wordF_nil]
  | n + 1, 0, l, _, hm => by
    have : l = [] := List.eq_nil_of_length_eq_zero (by omega)
    subst this
    rw [wordF_nil, wordF_nil]
  | n + 1, m + 1, l, hn, hm => by
    unfold wordF
    by_cases hne : l = []
    · simp [hne]
    · have hw := Lib.decodeL_width l
      have hl : 0 < l.length := List.length_pos_iff.2 hne
      rw [if_neg hne, if_neg hne, wordF_fuel n m (l.drop (Lib.decodeL l).2) (by rw [List.length_drop]; omega) (by rw [List.length_drop]; omega)]
def wordL (l : List UInt8) : Bool := wordF l.length l
theorem wordL_nil : wordL [] = true := rfl
theorem wordL_step (l : List UInt8) (hne : l ≠ []) : wordL l = if (Lib.decodeL l).1 = 65533 ∧ (Lib.decodeL l).2 = 1 then false else decide (inP (Lib.decodeL l).1) && wordL (l.drop (Lib.decodeL l).2) := by
  have hl : 0 < l.length := List.length_pos_iff.2 hne
  have hw := Lib.decodeL_width l
  obtain ⟨n, hn⟩ : ∃ n, l.length = n + 1 := ⟨l.length - 1, by omega⟩
  unfold wordL
  rw [hn]
  show (if l = [] then true else _) = _
  rw [if_neg hne, wordF_fuel n (l.drop (Lib.decodeL l).2).length _ (by rw [List.length_drop]; omega) (Nat.le_refl _)]
/-- What the walk over a right text tells. -/
theorem wordL_valid (l : List UInt8) (hne : l ≠ []) (hv : Lib.validD l = true) : wordL l = (decide (inP (Lib.decodeL l).1) && wordL (l.drop (Lib.decodeL l).2)) ∧ Lib.validD (l.drop (Lib.decodeL l).2) = true := by
  rw [Lib.validD_step l hne] at hv
  split at hv
  · cases hv
  · rename_i h
    rw [wordL_step l hne, if_neg h]
    exact ⟨rfl, hv⟩
theorem wordL_bad (n : Nat) : ∀ (l : List UInt8), l.length ≤ n → Lib.validD l = false → wordL l = false := by
  induction n with
  | zero =>
    intro l hl hv
    have : l = [] := List.eq_nil_of_length_eq_zero (by omega)
    subst this
    cases hv
  | succ n ih =>
    intro l hl hv
    by_cases hne : l = []
    · subst hne; cases hv
    · have hw := Lib.decodeL_width l
      have hl0 : 0 < l.length := List.length_pos_iff.2 hne
      rw [wordL_step l hne]
      rw [Lib.validD_step l hne] at hv
      split
      · rfl
      · rename_i h
        rw [if_neg h] at hv
        rw [ih _ (by rw [List.length_drop]; omega) hv, Bool.and_false]
def wordB (s : ByteArray) : Bool := decide (0 < s.size) && (decide (s.size ≤ 24) && wordL s.data.toList)
theorem bl_len (s : ByteArray) : s.data.toList.length = s.size := by rw [Array.length_toList]; rfl
theorem decodeL_rune' (s : ByteArray) (pos : Nat) : Utf8.decode s pos = Lib.decodeL (s.data.toList.drop pos) := (Lib.decodeL_drop s pos).symm
theorem p_word (s : ByteArray) : Pure Tryd.prog 115 [.v (.string s)] (.v (.bool (wordB s))) := by
  refine enterW Tryd.func115 rfl rfl rfl rfl (fun σ => ?_)
  repeat' (first|(first|(refine jl ?_;first|refine j7 ?_|refine j1 ?_|refine j4 ?_|refine j9 ?_|refine j22 (fun id hid=>?_)|refine jcq (hp:=fun hc=>p_valid s (by simp only [Bool.and_eq_true, decide_eq_true_eq, Bool.not_eq_true', Bool.or_eq_false_iff, decide_eq_false_iff_not] at hc; omega)) ?_)|(refine jc ?_;first|refine c1 ?_|refine c2 ?_|refine c5 ?_|refine c6 ?_|refine c7 ?_)|refine n1 ?_|refine n2 ?_|refine n11 ?_)|(refine c9 (fun h=>?_) (fun h=>?_)<;>(try simp only [Bool.or_eq_true, Bool.and_eq_true, Bool.or_eq_false_iff, Bool.and_eq_false_iff, Bool.not_eq_true', Bool.not_eq_false', decide_eq_true_eq, decide_eq_false_iff_not, Bool.false_eq_true, Bool.true_eq_false, reduceCtorEq] at h)))
  · refine gives (St.le_refl _) (fin_one (.wk (Wk.of_eq ?_)))
    have hw : wordB s = false := by
      unfold wordB
      rcases h with (h | h) | h
      · rw [decide_eq_false (by omega)]; rfl
      · rw [decide_eq_false (by omega : ¬ s.size ≤ 24)]; simp
      · rw [wordL_bad _ _ (Nat.le_refl _) h]; simp
    rw [hw]
  · obtain ⟨h1, h2⟩ := h
    have hw : wordB s = wordL s.data.toList := by
      unfold wordB
      rw [decide_eq_true (by omega), decide_eq_true (by omega : s.size ≤ 24)]
      rfl
    rw [hw]
    have hlen := bl_len s
    refine cj_head (fun p : Nat => wordL (s.data.toList.drop p) = wordL s.data.toList ∧ Lib.validD (s.data.toList.drop p) = true) (fun p => [(19, .it id)]) (fun p => σ.set id (.siter s p)) (fun p => s.size - p) 0 ⟨rfl, h2⟩ ⟨rfl, trivial⟩ (St.le_refl _) (fun p hp => ?_)
    obtain ⟨hp1, hp2⟩ := hp
    by_cases hlt : p < s.size
    · have hne : s.data.toList.drop p ≠ [] := by
        intro e
        have := congrArg List.length e
        simp at this
        omega
      have hstep := wordL_valid _ hne hp2
      have hdw := Lib.decodeL_width (s.data.toList.drop p)
      rw [List.drop_drop] at hstep
      repeat' (first|(first|(refine jl ?_;first|refine j1 ?_|refine j4 ?_|refine j23 ?_|refine jp (p_in _) ?_)|(refine jc ?_;first|refine c1 ?_|refine c2 ?_|refine c3 ?_|refine c5 ?_|refine c6 ?_|refine c7 ?_)|refine n1 ?_|refine n2 ?_|refine n5 ?_|refine n6 ?_|refine n10 ?_|refine n11 ?_)|(refine c9 (fun h=>?_) (fun h=>?_)<;>(try simp only [Bool.or_eq_true, Bool.and_eq_true, Bool.or_eq_false_iff, Bool.and_eq_false_iff, Bool.not_eq_true', Bool.not_eq_false', decide_eq_true_eq, decide_eq_false_iff_not, Bool.false_eq_true, Bool.true_eq_false, reduceCtorEq] at h)))
      · rw [decodeL_rune'] at h
        refine gives (by (try rw [St.set_set]); exact St.le_set _ hid) (fin_one (.wk (Wk.of_eq ?_)))
        rw [← hp1, hstep.1, decide_eq_false h]
        rfl
      · rw [decodeL_rune'] at h
        refine nx_thn ⟨p + (Utf8.decode s p).2, ?_, ?_, ⟨rfl, trivial⟩, by (try rw [St.set_set]); exact St.le_refl _⟩
        · rw [decodeL_rune']
          refine ⟨?_, hstep.2⟩
          rw [← hp1, hstep.1, decide_eq_true h, Bool.true_and]
        · rw [decodeL_rune']
          omega
    · have hnil : s.data.toList.drop p = [] := List.drop_of_length_le (by omega)
      repeat' (first|(first|(refine jl ?_;first|refine j1 ?_|refine j4 ?_|refine j24 ?_)|(refine jc ?_;first|refine c1 ?_|refine c2 ?_|refine c4 ?_|refine c7 ?_|refine c8 ?_)|refine n1 ?_|refine n3 ?_|refine n7 ?_|refine n8 ?_|refine n11 ?_))
      refine gives (St.le_set _ hid) (fin_one (.wk (Wk.of_eq ?_)))
      rw [← hp1, hnil]
      rfl
/-! ### The reference -/
theorem runeS_dec (s : ByteArray) : runeS s = if (Lib.decodeL s.data.toList).1 = 65533 ∧ (Lib.decodeL s.data.toList).2 = 1 then (0, 0) else Lib.decodeL s.data.toList := by
  unfold runeS
  rw [runeN_dec _ _ _ _ _ (bt_lt s 0) (bt_lt s 1) (bt_lt s 2) (bt_lt s 3), Lib.decodeL_N, bl_len]
  rfl
def inSigns : ByteArray := ⟨#[95, 45, 63, 33, 43, 42, 46]⟩
theorem inSigns_has (i : Nat) (h : i < 7) : inP (bt inSigns i : Int) := by
  have : i = 0 ∨ i = 1 ∨ i = 2 ∨ i = 3 ∨ i = 4 ∨ i = 5 ∨ i = 6 := by omega
  rcases this with rfl | rfl | rfl | rfl | rfl | rfl | rfl <;> decide
theorem inSigns_all (c : Int) (h : inP c) (h1 : c < 128 ∧ (¬97 ≤ c ∨ ¬c ≤ 122) ∧ (¬65 ≤ c ∨ ¬c ≤ 90) ∧ (¬48 ≤ c ∨ ¬c ≤ 57)) : ∃ i, i < 7 ∧ (bt inSigns i : Int) = c := by
  unfold inP at h
  have : c = 95 ∨ c = 45 ∨ c = 63 ∨ c = 33 ∨ c = 43 ∨ c = 42 ∨ c = 46 := by omega
  rcases this with rfl | rfl | rfl | rfl | rfl | rfl | rfl
  · exact ⟨0, by omega, rfl⟩
  · exact ⟨1, by omega, rfl⟩
  · exact ⟨2, by omega, rfl⟩
  · exact ⟨3, by omega, rfl⟩
  · exact ⟨4, by omega, rfl⟩
  · exact ⟨5, by omega, rfl⟩
  · exact ⟨6, by omega, rfl⟩
theorem p_rinword (c : Int) : Pure Tryd.prog 149 [.v (.int .i64 c)] (.v (.bool (decide (inP c)))) := by
  refine enterW Tryd.func149 rfl rfl rfl rfl (fun σ => ?_)
  repeat' (first|(first|(refine jl ?_;first|refine j7 ?_|refine j11 ?_|refine j1 ?_|refine j4 ?_|refine j9 ?_)|(refine jc ?_;first|refine c1 ?_|refine c2 ?_|refine c5 ?_|refine c6 ?_|refine c7 ?_)|refine n1 ?_|refine n2 ?_|refine n11 ?_)|(refine c9 (fun h=>?_) (fun h=>?_)<;>(try simp only [Bool.or_eq_true, Bool.and_eq_true, Bool.or_eq_false_iff, Bool.and_eq_false_iff, Bool.not_eq_true', Bool.not_eq_false', decide_eq_true_eq, decide_eq_false_iff_not, Bool.false_eq_true, Bool.true_eq_false, reduceCtorEq] at h)))
  · exact gives (St.le_refl _) (fin_one (.wk (in_yes (by unfold inP; omega))))
  · refine cj_head (fun i : Nat => i ≤ 7 ∧ ∀ j, j < i → (bt inSigns j : Int) ≠ c) (fun i => [(3, .v (.string inSigns)), (4, .v (.int .i64 i)), (0, .v (.int .i64 c))]) (fun _ => σ) (fun i => 7 - i) 0 ⟨by omega, fun j h => by omega⟩ ⟨rfl, rfl, rfl, trivial⟩ (St.le_refl _) (fun i hi => ?_)
    obtain ⟨hi1, hi2⟩ := hi
    have hz : inSigns.size = 7 := rfl
    have hb := bt_lt inSigns i
    repeat' (first|(first|(refine jl ?_;first|refine j1 ?_|refine j4 ?_|refine j6 ?_|refine j18 ?_)|(refine jc ?_;first|refine c1 ?_|refine c2 ?_|refine c5 ?_|refine c6 ?_|refine c7 ?_|refine c8 ?_)|refine n1 ?_|refine n2 ?_|refine n3 ?_|refine n5 ?_|refine n6 ?_|refine n7 ?_|refine n8 ?_|refine n10 ?_|refine n11 ?_)|(refine c9 (fun h=>?_) (fun h=>?_)<;>((try simp only [Bool.or_eq_true, Bool.and_eq_true, Bool.or_eq_false_iff, Bool.and_eq_false_iff, Bool.not_eq_true', Bool.not_eq_false', decide_eq_true_eq, decide_eq_false_iff_not, Bool.false_eq_true, Bool.true_eq_false, reduceCtorEq] at h) <;> (try simp (disch := omega) only [sb_bt, w64, Int.reduceAdd, Int.reduceToNat, Int.toNat_natCast, not_true_eq_false, false_or] at h) <;> (try (exfalso; omega)))))
    · refine gives (St.le_refl _) (fin_one (.wk (in_yes ?_)))
      rw [← h]
      exact inSigns_has i (by omega)
    · exact nx_thn ⟨i + 1, ⟨by omega, fun j hj => by
        by_cases e : j = i
        · rw [e]; exact h
        · exact hi2 j (by omega)⟩, by omega, ⟨rfl, by show some (AV.v (.int .i64 (IntKind.i64.wrap ((i : Int) + 1)))) = _; rw [w64 (by omega) (by omega)]; rfl, rfl, trivial⟩, St.le_refl _⟩
    · rename_i h1
      refine gives (St.le_refl _) (fin_one (.wk (in_no fun hp => ?_)))
      obtain ⟨j, hj, he⟩ := inSigns_all c hp ⟨by omega, by omega, by omega, by omega⟩
      exact hi2 j (by omega) he
theorem wordL_ext (s : ByteArray) (hs : 0 < s.size) : wordL s.data.toList = if (runeS s).2 = 0 then false else decide (inP (runeS s).1) && wordL (s.extract (runeS s).2 s.size).data.toList := by
  have hne : s.data.toList ≠ [] := fun e => by
    have := bl_len s
    rw [e] at this
    exact absurd this (by simp; omega)
  have hw := Lib.decodeL_width s.data.toList
  rw [wordL_step _ hne, runeS_dec]
  split
  · rfl
  · rw [if_neg (by omega), Lib.ext_list]
theorem runeS_le (s : ByteArray) (hs : 0 < s.size) : (runeS s).2 ≤ s.size := by
  have hne : s.data.toList ≠ [] := fun e => by
    have := bl_len s
    rw [e] at this
    exact absurd this (by simp; omega)
  have := Lib.decodeL_le s.data.toList hne
  rw [bl_len] at this
  rw [runeS_dec]
  split
  · exact Nat.zero_le _
  · exact this
theorem p_rword (s : ByteArray) : Pure Tryd.prog 117 [.v (.string s)] (.v (.bool (wordB s))) := by
  refine enterW Tryd.func117 rfl rfl rfl rfl (fun σ => ?_)
  repeat' (first|(first|(refine jl ?_;first|refine j7 ?_|refine j1 ?_|refine j4 ?_|refine j9 ?_)|(refine jc ?_;first|refine c1 ?_|refine c2 ?_|refine c5 ?_|refine c6 ?_|refine c7 ?_)|refine n1 ?_|refine n2 ?_|refine n11 ?_)|(refine c9 (fun h=>?_) (fun h=>?_)<;>(try simp only [Bool.or_eq_true, Bool.and_eq_true, Bool.or_eq_false_iff, Bool.and_eq_false_iff, Bool.not_eq_true', Bool.not_eq_false', decide_eq_true_eq, decide_eq_false_iff_not, Bool.false_eq_true, Bool.true_eq_false, reduceCtorEq] at h)))
  · refine gives (St.le_refl _) (fin_one (.wk (Wk.of_eq ?_)))
    have hw : wordB s = false := by
      unfold wordB
      rcases h with h | h
      · rw [decide_eq_false (by omega)]; rfl
      · rw [decide_eq_false (by omega : ¬ s.size ≤ 24)]; simp
    rw [hw]
  · have hw : wordB s = wordL s.data.toList := by
      unfold wordB
      rw [decide_eq_true (by omega), decide_eq_true (by omega : s.size ≤ 24)]
      rfl
    rw [hw]
    refine cj_head (fun t : ByteArray => wordL t.data.toList = wordL s.data.toList ∧ t.size ≤ 24) (fun t => [(0, .v (.string t))]) (fun _ => σ) (fun t => t.size) s ⟨rfl, by omega⟩ ⟨rfl, trivial⟩ (St.le_refl _) (fun t ht => ?_)
    obtain ⟨ht1, ht2⟩ := ht
    by_cases h0 : 0 < t.size
    · have hst := wordL_ext t h0
      have hle := runeS_le t h0
      repeat' (first|(first|(refine jl ?_;first|refine j7 ?_|refine j1 ?_|refine j4 ?_|refine j6 ?_|refine j9 ?_|refine j21 ?_|refine jp (p_rrune t h0) ?_|refine jcq (hp:=fun hc=>p_rinword _) ?_)|(refine jc ?_;first|refine c1 ?_|refine c2 ?_|refine c5 ?_|refine c6 ?_|refine c7 ?_)|refine n1 ?_|refine n2 ?_|refine n5 ?_|refine n6 ?_|refine n10 ?_|refine n11 ?_)|(refine c9 (fun h=>?_) (fun h=>?_)<;>((try simp only [Bool.or_eq_true, Bool.and_eq_true, Bool.or_eq_false_iff, Bool.and_eq_false_iff, Bool.not_eq_true', Bool.not_eq_false', decide_eq_true_eq, decide_eq_false_iff_not, Bool.false_eq_true, Bool.true_eq_false, reduceCtorEq] at h) <;> (try simp (disch := omega) only [sb_bt, w64, Int.reduceAdd, Int.reduceToNat, Int.toNat_natCast, not_true_eq_false, false_or] at h) <;> (try (exfalso; omega)))))
      · refine gives (St.le_refl _) (fin_one (.wk (Wk.of_eq ?_)))
        rw [← ht1, hst]
        split
        · rfl
        · rename_i hn
          have : ¬ inP ((runeS t).1 : Int) := by
            rcases h with h | h
            · omega
            · exact h
          rw [decide_eq_false this]
          rfl
      · rw [if_neg (by omega), decide_eq_true h.2, Bool.true_and] at hst
        refine nx_thn ⟨t.extract (runeS t).2 t.size, ⟨by rw [← ht1, hst], by rw [Lib.ext_size]; omega⟩, by rw [Lib.ext_size]; omega, ⟨rfl, trivial⟩, St.le_refl _⟩
    · have hnil : t.data.toList = [] := List.eq_nil_of_length_eq_zero (by rw [bl_len]; omega)
      repeat' (first|(first|(refine jl ?_;first|refine j1 ?_|refine j4 ?_)|(refine jc ?_;first|refine c1 ?_|refine c2 ?_|refine c7 ?_|refine c8 ?_)|refine n1 ?_|refine n3 ?_|refine n7 ?_|refine n8 ?_|refine n11 ?_)|(refine c9 (fun h=>?_) (fun h=>?_)<;>((try simp only [Bool.or_eq_true, Bool.and_eq_true, Bool.or_eq_false_iff, Bool.and_eq_false_iff, Bool.not_eq_true', Bool.not_eq_false', decide_eq_true_eq, decide_eq_false_iff_not, Bool.false_eq_true, Bool.true_eq_false, reduceCtorEq] at h) <;> (try simp (disch := omega) only [sb_bt, w64, Int.reduceAdd, Int.reduceToNat, Int.toNat_natCast, not_true_eq_false, false_or] at h) <;> (try (exfalso; omega)))))
      refine gives (St.le_refl _) (fin_one (.wk (Wk.of_eq ?_)))
      rw [← ht1, hnil]
      rfl
end Go.Proofs.YtfaaokekgljnbaaDoor.Ab

/- Values: words that are numbers. -/
set_option linter.unusedVariables false
set_option linter.unusedSimpArgs false
set_option maxRecDepth 20000
namespace Go.Proofs.YtfaaokekgljnbaaDoor.Ab
open Go
attribute [local irreducible] thn inb endR CJ LJ OpJ DJ

abbrev dig (n : Nat) : Prop := 48 ≤ n ∧ n ≤ 57
/-- All bytes are digits. -/
def digB : List UInt8 → Bool
  | [] => true
  | b :: l => decide (dig b.toNat) && digB l
/-- A sign stands ahead. -/
def sgnB (s : ByteArray) : Bool := decide (0 < s.size) && (decide (bt s 0 = 45) || decide (bt s 0 = 43))
def bodyS (s : ByteArray) : ByteArray := if sgnB s then s.extract 1 s.size else s
def minusB (s : ByteArray) : Bool := sgnB s && decide (bt s 0 = 45)
def allD (s : ByteArray) : Bool := digB (bodyS s).data.toList
def isNumB (s : ByteArray) : Bool := allD s && decide (0 < (bodyS s).size)
theorem sgnB_iff (s : ByteArray) : sgnB s = true ↔ 0 < s.size ∧ (bt s 0 = 45 ∨ bt s 0 = 43) := by simp [sgnB]
theorem sb0 (s : ByteArray) : sb s 0 = (bt s 0 : Int) := rfl
theorem decodeL_high (b : UInt8) (t : List UInt8) (h : 128 ≤ b.toNat) : 128 ≤ (Lib.decodeL (b :: t)).1 := by
  have hb : b.toNat < 256 := b.toNat_lt
  rw [Lib.decodeL_N]
  unfold Lib.decodeN
  have e : ((b :: t).getD 0 0).toNat = b.toNat := rfl
  rw [e]
  repeat' split
  all_goals dsimp only
  all_goals omega
/-- One step of a walk by code points, as to digits. -/
theorem digB_step (l : List UInt8) (hne : l ≠ []) : digB l = (decide (dig (Lib.decodeL l).1) && digB (l.drop (Lib.decodeL l).2)) := by
  cases l with
  | nil => exact absurd rfl hne
  | cons b t =>
    by_cases hb : b.toNat < 128
    · rw [Lib.decodeL_ascii b t hb]; rfl
    · have := decodeL_high b t (by omega)
      rw [decide_eq_false (by omega : ¬ dig (Lib.decodeL (b :: t)).1), Bool.false_and]
      unfold digB
      rw [decide_eq_false (by omega : ¬ dig b.toNat), Bool.false_and]
theorem ne_empty (s : ByteArray) : (!decide (s = ⟨#[]⟩)) = decide (0 < s.size) := by
  by_cases h : s = ⟨#[]⟩
  · subst h; rfl
  · rw [decide_eq_false h, decide_eq_true]
    · rfl
    · rcases Nat.eq_zero_or_pos s.size with h0 | h0
      · exact absurd (ByteArray.ext (Array.eq_empty_of_size_eq_zero h0)) h
      · exact h0
theorem drop_bt (s : ByteArray) (i : Nat) (h : i < s.size) : s.data.toList.drop i = s.data.toList[i]'(by rw [bl_len]; exact h) :: s.data.toList.drop (i + 1) ∧ (s.data.toList[i]'(by rw [bl_len]; exact h)).toNat = bt s i := by
  have hl : i < s.data.toList.length := by rw [bl_len]; exact h
  refine ⟨(List.drop_eq_getElem_cons hl), ?_⟩
  unfold bt
  rw [List.getD_eq_getElem?_getD, List.getElem?_eq_getElem hl]
  rfl
theorem p_digits (s : ByteArray) : Pure Tryd.prog 114 [.v (.string s)] (.tup [.v (.string (if allD s then bodyS s else ⟨#[]⟩)), .v (.bool (allD s && minusB s)), .v (.bool (isNumB s))]) := by
  refine enterW Tryd.func114 rfl rfl rfl rfl (fun σ => ?_)
  repeat' (first|(first|(refine jl ?_;first|refine j8 ?_|refine j10 ?_|refine j1 ?_|refine j4 ?_|refine j9 ?_|refine j20 ?_|refine j22 (fun id hid=>?_))|(refine dl ?_;first|refine d1 ?_|refine d4 ?_|refine d18 ?_|refine d21 ?_)|(refine jc ?_;first|refine c1 ?_|refine c2 ?_|refine c5 ?_|refine c6 ?_|refine cq ?_)|refine n1 ?_)|(refine c9 (fun h=>?_) (fun h=>?_)<;>(try simp only [Bool.or_eq_true, Bool.and_eq_true, Bool.or_eq_false_iff, Bool.and_eq_false_iff, Bool.not_eq_true', Bool.not_eq_false', decide_eq_true_eq, decide_eq_false_iff_not, Bool.false_eq_true, Bool.true_eq_false, reduceCtorEq] at h)))
  case' refine_1 =>
    rw [sb0] at h
    have hs : sgnB s = true := (sgnB_iff s).2 (by omega)
    have hb : bodyS s = s.extract 1 s.size := by rw [bodyS, if_pos hs]
    have hm : minusB s = decide (sb s 0 = 45) := by rw [minusB, hs, Bool.true_and, sb0]; exact decide_eq_decide.2 (by omega)
    refine cj_head (fun p : Nat => digB ((bodyS s).data.toList.drop p) = allD s) (fun p => [(27, .it id), (2, .v (.string (bodyS s))), (3, .v (.bool (minusB s)))]) (fun p => σ.set id (.siter (bodyS s) p)) (fun p => (bodyS s).size - p) 0 rfl ⟨rfl, by rw [hb]; rfl, by rw [hm]; rfl, trivial⟩ (by rw [hb]; exact St.le_refl _) (fun p hp => ?_)
  case' refine_2 =>
    rw [sb0] at h
    have hs : sgnB s = false := Bool.eq_false_iff.2 fun e => by have := (sgnB_iff s).1 e; omega
    have hb : bodyS s = s := by rw [bodyS, hs]; rfl
    have hm : minusB s = false := by rw [minusB, hs]; rfl
    refine cj_head (fun p : Nat => digB ((bodyS s).data.toList.drop p) = allD s) (fun p => [(27, .it id), (2, .v (.string (bodyS s))), (3, .v (.bool (minusB s)))]) (fun p => σ.set id (.siter (bodyS s) p)) (fun p => (bodyS s).size - p) 0 rfl ⟨rfl, by rw [hb]; rfl, by rw [hm]; rfl, trivial⟩ (by rw [hb]; exact St.le_refl _) (fun p hp => ?_)
  all_goals
    have hlen := bl_len (bodyS s)
    by_cases hlt : p < (bodyS s).size
  all_goals try rw [List.drop_of_length_le (by omega)] at hp
  all_goals try
    have hne : (bodyS s).data.toList.drop p ≠ [] := fun e => by
      have := congrArg List.length e
      rw [List.length_drop] at this
      simp at this
      omega
    have hstep := digB_step _ hne
    have hdw := Lib.decodeL_width ((bodyS s).data.toList.drop p)
    rw [List.drop_drop, hp] at hstep
  repeat' (first|(first|(refine jl ?_;first|refine j7 ?_|refine j1 ?_|refine j4 ?_|refine j9 ?_|refine j23 ?_|refine j24 ?_)|(refine jc ?_;first|refine c1 ?_|refine c2 ?_|refine c3 ?_|refine c4 ?_|refine c5 ?_|refine c6 ?_|refine c7 ?_|refine c8 ?_)|refine n1 ?_|refine n2 ?_|refine n3 ?_|refine n5 ?_|refine n6 ?_|refine n7 ?_|refine n8 ?_|refine n10 ?_|refine n11 ?_)|(refine c9 (fun h=>?_) (fun h=>?_)<;>(try simp only [Bool.or_eq_true, Bool.and_eq_true, Bool.or_eq_false_iff, Bool.and_eq_false_iff, Bool.not_eq_true', Bool.not_eq_false', decide_eq_true_eq, decide_eq_false_iff_not, Bool.false_eq_true, Bool.true_eq_false, reduceCtorEq] at h)))
  all_goals try rw [decodeL_rune'] at h
  all_goals first
    | (have ha : allD s = false := by rw [hstep, decide_eq_false (by omega), Bool.false_and]
       exact gives (by (try rw [St.set_set]); exact St.le_set _ hid) (fin_three (.wk (Wk.of_eq (by rw [ha]; rfl))) (.wk (Wk.of_eq (by rw [ha]; rfl))) (.wk (Wk.of_eq (by rw [isNumB, ha]; rfl)))))
    | (rw [decide_eq_true (by omega), Bool.true_and] at hstep
       exact nx_thn ⟨p + (Utf8.decode (bodyS s) p).2, by rw [decodeL_rune']; exact hstep.symm, by rw [decodeL_rune']; omega, ⟨rfl, rfl, rfl, trivial⟩, by (try rw [St.set_set]); exact St.le_refl _⟩)
    | (have ha : allD s = true := hp.symm
       refine gives (St.le_set _ hid) (fin_three (.wk (Wk.of_eq (by rw [ha, if_pos rfl]))) (.wk (Wk.of_eq (by rw [ha, Bool.true_and]))) (.wk (Wk.of_eq ?_)))
       rw [isNumB, ha, Bool.true_and, ne_empty])
theorem p_risnum (s : ByteArray) (hz : s.size ≤ 9223372036854775807) : Pure Tryd.prog 118 [.v (.string s)] (.v (.bool (isNumB s))) := by
  refine enterW Tryd.func118 rfl rfl rfl rfl (fun σ => ?_)
  repeat' (first|(first|(refine jl ?_;first|refine j8 ?_|refine j10 ?_|refine j1 ?_|refine j4 ?_|refine j9 ?_|refine j20 ?_|refine j21 ?_)|(refine jc ?_;first|refine c1 ?_|refine c2 ?_|refine c5 ?_|refine c6 ?_)|refine n1 ?_)|(refine c9 (fun h=>?_) (fun h=>?_)<;>(try simp only [Bool.or_eq_true, Bool.and_eq_true, Bool.or_eq_false_iff, Bool.and_eq_false_iff, Bool.not_eq_true', Bool.not_eq_false', decide_eq_true_eq, decide_eq_false_iff_not, Bool.false_eq_true, Bool.true_eq_false, reduceCtorEq] at h)))
  case' refine_1 =>
    rw [sb0] at h
    have hs : sgnB s = true := (sgnB_iff s).2 (by omega)
    have hb : bodyS s = s.extract 1 s.size := by rw [bodyS, if_pos hs]
    have hlz : (bodyS s).size ≤ s.size := by rw [hb, Lib.ext_size]; omega
    refine cj_head (fun i : Nat => digB ((bodyS s).data.toList.drop i) = allD s ∧ i ≤ (bodyS s).size) (fun i => [(0, .v (.string (bodyS s))), (3, .v (.int .i64 i))]) (fun _ => σ) (fun i => (bodyS s).size - i) 0 ⟨rfl, Nat.zero_le _⟩ ⟨by rw [hb]; rfl, rfl, trivial⟩ (St.le_refl _) (fun i hi => ?_)
  case' refine_2 =>
    rw [sb0] at h
    have hs : sgnB s = false := Bool.eq_false_iff.2 fun e => by have := (sgnB_iff s).1 e; omega
    have hb : bodyS s = s := by rw [bodyS, hs]; rfl
    have hlz : (bodyS s).size ≤ s.size := by rw [hb]; exact Nat.le_refl _
    refine cj_head (fun i : Nat => digB ((bodyS s).data.toList.drop i) = allD s ∧ i ≤ (bodyS s).size) (fun i => [(0, .v (.string (bodyS s))), (3, .v (.int .i64 i))]) (fun _ => σ) (fun i => (bodyS s).size - i) 0 ⟨rfl, Nat.zero_le _⟩ ⟨by rw [hb]; rfl, rfl, trivial⟩ (St.le_refl _) (fun i hi => ?_)
  all_goals
    obtain ⟨hi1, hi2⟩ := hi
    have hlen := bl_len (bodyS s)
  repeat' (first|(first|(refine jl ?_;first|refine j7 ?_|refine j1 ?_|refine j4 ?_|refine j6 ?_|refine j9 ?_|refine j18 ?_|refine j20 ?_)|(refine jc ?_;first|refine c1 ?_|refine c2 ?_|refine c5 ?_|refine c6 ?_|refine c7 ?_|refine c8 ?_)|refine n1 ?_|refine n2 ?_|refine n3 ?_|refine n5 ?_|refine n6 ?_|refine n7 ?_|refine n8 ?_|refine n10 ?_|refine n11 ?_)|(refine c9 (fun h=>?_) (fun h=>?_)<;>((try simp only [Bool.or_eq_true, Bool.and_eq_true, Bool.or_eq_false_iff, Bool.and_eq_false_iff, Bool.not_eq_true', Bool.not_eq_false', decide_eq_true_eq, decide_eq_false_iff_not, Bool.false_eq_true, Bool.true_eq_false, reduceCtorEq] at h) <;> (try simp (disch := omega) only [sb_bt, w64, Int.reduceAdd, Int.reduceToNat, Int.toNat_natCast, not_true_eq_false, false_or] at h) <;> (try (exfalso; omega)))))
  all_goals first
    | (obtain ⟨e1, e2⟩ := drop_bt (bodyS s) i (by omega)
       have ha : allD s = false := by
         rw [← hi1, e1]
         unfold digB
         rw [e2, decide_eq_false (by omega), Bool.false_and]
       exact gives (St.le_refl _) (fin_one (.wk (Wk.of_eq (by rw [isNumB, ha]; rfl)))))
    | (obtain ⟨e1, e2⟩ := drop_bt (bodyS s) i (by omega)
       have ha : digB ((bodyS s).data.toList.drop (i + 1)) = allD s := by
         rw [← hi1, e1, digB, e2, decide_eq_true (by omega), Bool.true_and]
       exact nx_thn ⟨i + 1, ⟨ha, by omega⟩, by omega, ⟨rfl, by show some (AV.v (.int .i64 (IntKind.i64.wrap ((i : Int) + 1)))) = _; rw [w64 (by omega) (by omega)]; rfl, trivial⟩, St.le_refl _⟩)
    | (have ha : allD s = true := by rw [← hi1, List.drop_of_length_le (by omega)]; rfl
       exact gives (St.le_refl _) (fin_one (.wk (Wk.of_eq (by rw [isNumB, ha, Bool.true_and]; congr 3; exact propext (by omega))))))
/-- The number that digits tell. -/
def valN (a : Nat) (l : List UInt8) : Nat := l.foldl (fun n b => 10 * n + (b.toNat - 48)) a
theorem valN_nil (a : Nat) : valN a [] = a := by unfold valN; exact List.foldl_nil
theorem valN_cons (a : Nat) (b : UInt8) (l : List UInt8) : valN a (b :: l) = valN (10 * a + (b.toNat - 48)) l := by unfold valN; exact List.foldl_cons ..
theorem valN_le : ∀ (l : List UInt8) (a : Nat), a ≤ valN a l
  | [], a => by rw [valN_nil]; exact Nat.le_refl _
  | b :: l, a => by
    have := valN_le l (10 * a + (b.toNat - 48))
    rw [valN_cons]
    omega
theorem valN_cap (m : Nat) : ∀ (l : List UInt8) (a : Nat), min (valN (min a m) l) m = min (valN a l) m
  | [], a => by rw [valN_nil, valN_nil, Nat.min_assoc, Nat.min_self]
  | b :: l, a => by
    rw [valN_cons, valN_cons]
    by_cases h : a ≤ m
    · rw [Nat.min_eq_left h]
    · rw [Nat.min_eq_right (show m ≤ a by omega)]
      have h1 := valN_le l (10 * m + (b.toNat - 48))
      have h2 := valN_le l (10 * a + (b.toNat - 48))
      rw [Nat.min_eq_right (show m ≤ valN (10 * m + (b.toNat - 48)) l by omega), Nat.min_eq_right (show m ≤ valN (10 * a + (b.toNat - 48)) l by omega)]
theorem digB_get (s : ByteArray) (i k : Nat) (h : digB (s.data.toList.drop k) = true) (h1 : k ≤ i) (h2 : i < s.size) : dig (bt s i) := by
  have key : ∀ (n k : Nat), digB (s.data.toList.drop k) = true → k + n < s.size → dig (bt s (k + n)) := by
    intro n
    induction n with
    | zero =>
      intro k h hlt
      obtain ⟨e1, e2⟩ := drop_bt s k (by omega)
      rw [e1, digB, e2] at h
      simp only [Bool.and_eq_true, decide_eq_true_eq] at h
      exact h.1
    | succ n ih =>
      intro k h hlt
      obtain ⟨e1, e2⟩ := drop_bt s k (by omega)
      rw [e1, digB] at h
      simp only [Bool.and_eq_true] at h
      have := ih (k + 1) h.2 (by omega)
      rwa [show k + 1 + n = k + (n + 1) by omega] at this
  have := key (i - k) k h (by omega)
  rwa [show k + (i - k) = i by omega] at this
def numOf (s : ByteArray) : Nat := valN 0 (bodyS s).data.toList
end Go.Proofs.YtfaaokekgljnbaaDoor.Ab
