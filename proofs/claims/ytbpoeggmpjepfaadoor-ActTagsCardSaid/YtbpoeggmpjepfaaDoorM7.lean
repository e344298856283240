/- The texts R1, V2, V3, Shelf, V4, V5, V6, V7, V8, C1, V9, VA, C2, C3, C4, AbLy, AbLz, Tz, R2, AbRl, R3, D1, one behind the other. -/
import Derived.Test.YtbpoeggmpjepfaaDoorM1
import Derived.Test.YtbpoeggmpjepfaaDoorM2
import Derived.Test.YtbpoeggmpjepfaaDoorM3
import Derived.Test.YtbpoeggmpjepfaaDoorM4
import Derived.Test.YtbpoeggmpjepfaaDoorM5
import Derived.Test.YtbpoeggmpjepfaaDoorM6
import Derived.Test.YtbpoeggmpjepfaaDoorProg
import Derived.Shelf.Unicode.ValidAny
import Derived.Lib.DecodeN
import Derived.Lib.TrimUEq
import Derived.Lib.ValidLaws
/- What a rule does: numbers. -/
set_option linter.unusedVariables false
set_option linter.unusedSimpArgs false
set_option maxRecDepth 20000
namespace Go.Proofs.YtbpoeggmpjepfaaDoor.Ab
open Go
section
variable {P : Program} {nt : Nat} {ops : Array Oper} {Q : Post} {fr : Fr} {σ : St} {rest : List Oper} {t : Tmp} {ty : TypeId} {pos : String} {aft : Array Edge}
theorem jquoq {j u : Nat} {w c : Bool} {a : AV} {t0 t1 : TypeId} {x y : Operand} {k : IntKind} {m n : Int} (hb : c = true → n ≠ 0) (h : LJ P nt ops Q rest ((t, .mb c (.v (.int k (k.wrap (m.tdiv n))))) :: fr) σ) (hj : (ops[j]?).bind (·.dst) = some u := by exact rfl) (hl : lk fr u = some a := by exact rfl) (hg : gc a w = some c := by exact rfl) (hx : ev (strip fr) x = some (.v (.int k m)) := by exact rfl) (hy : ev (strip fr) y = some (.v (.int k n)) := by exact rfl) (hd : fits nt (some t) = true := by exact rfl) (hn : Needs c fr (Op.binOp .quo t0 x y t1).operands.toList := by repeat' (first | exact True.intro | refine And.intro ?_ ?_ | exact nd0 rfl | exact nd1 rfl | exact nd2 rfl | exact nd3 rfl | exact nd4 rfl)) : LJ P nt ops Q (⟨some t, .binOp .quo t0 x y t1, ty, pos, aft, some (j, w)⟩ :: rest) fr σ :=
  lj_q hd hj hl hg hn (fun hc R hR => opj_quo rfl hx hy (hb hc) hR) h
end
attribute [local irreducible] thn inb endR CJ LJ OpJ DJ DA DB AllocK
def inI (n : Int) : Bool := decide (-1099511627776 ≤ n) && decide (n ≤ 1099511627776)
theorem inI_iff {n : Int} : inI n = true ↔ -1099511627776 ≤ n ∧ n ≤ 1099511627776 := by
  unfold inI
  rw [Bool.and_eq_true, decide_eq_true_eq, decide_eq_true_eq]
theorem p_ain (n : Int) : Pure Tryd.prog 40 [.v (.int .i64 n)] (.v (.bool (inI n))) := by
  refine enterW Tryd.func40 rfl rfl rfl rfl (fun σ => ?_)
  unfold inI
  repeat' (first|(first|(refine jl ?_;first|refine j8 ?_|refine j1 ?_|refine j4 ?_|refine j9 ?_)|(refine jc ?_;first|refine c1 ?_|refine c2 ?_|refine c7 ?_)|refine n11 ?_))
  exact gives (St.le_refl _) (Fin.refl _ _ _)
theorem p_rin27 (n : Int) : Pure Tryd.prog 45 [.v (.int .i64 n)] (.v (.bool (inI n))) := by
  refine enterW Tryd.func45 rfl rfl rfl rfl (fun σ => ?_)
  unfold inI
  repeat' (first|(first|(refine jl ?_;first|refine j8 ?_|refine j1 ?_|refine j4 ?_|refine j9 ?_)|(refine jc ?_;first|refine c1 ?_|refine c2 ?_|refine c7 ?_)|refine n11 ?_))
  exact gives (St.le_refl _) (Fin.refl _ _ _)
theorem p_size (n : Int) (h : inI n = true) : Pure Tryd.prog 61 [.v (.int .i64 n)] (.v (.int .i64 ((n.natAbs : Nat) : Int))) := by
  refine enterW Tryd.func61 rfl rfl rfl rfl (fun σ => ?_)
  rw [inI_iff] at h
  repeat' (first|(first|(refine jl ?_;first|refine j1 ?_|refine j4 ?_)|(refine jc ?_;first|refine c1 ?_|refine c2 ?_|refine c6 ?_|refine c7 ?_)|refine n1 ?_|refine n2 ?_|refine n11 ?_)|(refine c9 (fun h=>?_) (fun h=>?_)<;>((try simp only [Bool.or_eq_true, Bool.and_eq_true, Bool.or_eq_false_iff, Bool.and_eq_false_iff, Bool.not_eq_true', Bool.not_eq_false', decide_eq_true_eq, decide_eq_false_iff_not, Bool.false_eq_true, Bool.true_eq_false, reduceCtorEq] at h) <;> (try simp (disch := omega) only [sb_bt, w64, Int.reduceAdd, Int.reduceToNat, Int.toNat_natCast, not_true_eq_false, false_or] at h) <;> (try (exfalso; omega)))))
  all_goals refine gives (St.le_refl _) (fin_one (.wk (Wk.of_eq ?_)))
  · rw [w64 (by omega) (by omega)]; congr 2; omega
  · congr 2; omega
/-- What an operation makes of two numbers. -/
def rk (k a b : Int) : Int × Bool := if k = 2 then (a + b, inI (a + b)) else if k = 3 then (a - b, inI (a - b)) else if a.natAbs * b.natAbs ≤ 1099511627776 then (a * b, true) else (0, false)
theorem mul_abs (a b : Int) : (a * b).natAbs = a.natAbs * b.natAbs := Int.natAbs_mul a b
theorem p_reckon (k a b : Int) (ha : inI a = true) (hb : inI b = true) : Pure Tryd.prog 41 [.v (.int .u8 k), .v (.int .i64 a), .v (.int .i64 b)] (.tup [.v (.int .i64 (rk k a b).1), .v (.bool (rk k a b).2)]) := by
  refine enterW Tryd.func41 rfl rfl rfl rfl (fun σ => ?_)
  have k1 := p_size a ha
  have k2 := p_size b hb
  have ha' := inI_iff.1 ha
  have hb' := inI_iff.1 hb
  unfold rk
  by_cases h2 : k = 2
  · subst h2
    rw [if_pos rfl]
    have k3 := p_ain (IntKind.i64.wrap (a + b))
    repeat' (first|(first|(refine jl ?_;first|refine j1 ?_|refine j4 ?_|refine j6 ?_|refine jp (k3) ?_)|(refine jc ?_;first|refine c1 ?_|refine c2 ?_|refine c5 ?_|refine c7 ?_)|refine n1 ?_|refine n10 ?_|refine n11 ?_)|(refine c9 (fun h=>?_) (fun h=>?_)<;>((try simp only [Bool.or_eq_true, Bool.and_eq_true, Bool.or_eq_false_iff, Bool.and_eq_false_iff, Bool.not_eq_true', Bool.not_eq_false', decide_eq_true_eq, decide_eq_false_iff_not, Bool.false_eq_true, Bool.true_eq_false, reduceCtorEq] at h) <;> (try simp (disch := omega) only [sb_bt, w64, Int.reduceAdd, Int.reduceToNat, Int.toNat_natCast, not_true_eq_false, false_or] at h) <;> (try (exfalso; omega)))))
    rw [w64 (by omega) (by omega)]
    exact gives (St.le_refl _) (Fin.refl _ _ _)
  · rw [if_neg h2]
    by_cases h3 : k = 3
    · subst h3
      rw [if_pos rfl]
      have k3 := p_ain (IntKind.i64.wrap (a - b))
      repeat' (first|(first|(refine jl ?_;first|refine j1 ?_|refine j4 ?_|refine j6 ?_|refine jp (k3) ?_)|(refine jc ?_;first|refine c1 ?_|refine c2 ?_|refine c5 ?_|refine c7 ?_)|refine n1 ?_|refine n10 ?_|refine n11 ?_)|(refine c9 (fun h=>?_) (fun h=>?_)<;>((try simp only [Bool.or_eq_true, Bool.and_eq_true, Bool.or_eq_false_iff, Bool.and_eq_false_iff, Bool.not_eq_true', Bool.not_eq_false', decide_eq_true_eq, decide_eq_false_iff_not, Bool.false_eq_true, Bool.true_eq_false, reduceCtorEq] at h) <;> (try simp (disch := omega) only [sb_bt, w64, Int.reduceAdd, Int.reduceToNat, Int.toNat_natCast, not_true_eq_false, false_or] at h) <;> (try (exfalso; omega)))))
      all_goals first | (exfalso; simp at h; done) | skip
      rw [w64 (by omega) (by omega)]
      exact gives (St.le_refl _) (Fin.refl _ _ _)
    · rw [if_neg h3]
      have k3 := p_ain (IntKind.i64.wrap (a * b))
      have hq : a ≠ 0 → IntKind.i64.wrap ((1099511627776 : Int).tdiv ((a.natAbs : Nat) : Int)) = ((1099511627776 / a.natAbs : Nat) : Int) := fun h0 => by
        have e : (1099511627776 : Int).tdiv ((a.natAbs : Nat) : Int) = ((1099511627776 / a.natAbs : Nat) : Int) := (Int.ofNat_tdiv 1099511627776 a.natAbs).symm
        rw [e]
        have := Nat.div_le_self 1099511627776 a.natAbs
        generalize 1099511627776 / a.natAbs = q at this
        exact w64 (by omega) (by omega)
      repeat' (first|(first|(refine jl ?_;first|refine j8 ?_|refine j1 ?_|refine j4 ?_|refine j6 ?_|refine j9 ?_|refine jcq (hp:=fun hc=>k1) ?_|refine jcq (hp:=fun hc=>k2) ?_|refine jp (k3) ?_|refine jquoq (fun hc => ?_) ?_)|(refine jc ?_;first|refine c1 ?_|refine c2 ?_|refine c5 ?_|refine c6 ?_|refine c7 ?_)|refine n1 ?_|refine n2 ?_|refine n6 ?_|refine n10 ?_|refine n11 ?_)|(refine c9 (fun h=>?_) (fun h=>?_)<;>((try simp only [Bool.or_eq_true, Bool.and_eq_true, Bool.or_eq_false_iff, Bool.and_eq_false_iff, Bool.not_eq_true', Bool.not_eq_false', decide_eq_true_eq, decide_eq_false_iff_not, Bool.false_eq_true, Bool.true_eq_false, reduceCtorEq] at h) <;> (try simp (disch := omega) only [sb_bt, w64, Int.reduceAdd, Int.reduceToNat, Int.toNat_natCast, not_true_eq_false, false_or] at h) <;> (try (exfalso; omega)))))
      · simp at hc
        omega
      · obtain ⟨h0, h⟩ := h
        rw [hq h0] at h
        have h1 : 1099511627776 / a.natAbs < b.natAbs := by exact_mod_cast h
        rw [Nat.div_lt_iff_lt_mul (by omega), Nat.mul_comm] at h1
        rw [if_neg (by omega)]
        exact gives (St.le_refl _) (Fin.refl _ _ _)
      · have h1 : a.natAbs * b.natAbs ≤ 1099511627776 := by
          by_cases h0 : a = 0
          · subst h0; simp
          · rcases h with h | h
            · exact absurd h h0
            · rw [hq h0] at h
              have h1 : ¬ 1099511627776 / a.natAbs < b.natAbs := fun e => h (by exact_mod_cast e)
              rw [Nat.div_lt_iff_lt_mul (by omega), Nat.mul_comm] at h1
              omega
        have h2 := mul_abs a b
        rw [if_pos h1, w64 (by omega) (by omega), inI_iff.2 (by omega)]
        exact gives (St.le_refl _) (Fin.refl _ _ _)
/-- The document's product, from a place of its loop on. -/
structure Prd (x y : Nat) (n a b : Nat) : Prop where
  hx : n + a * b = x * y
  hn : n ≤ 1099511627776
  hb : b ≤ 1099511627776
  ha : a ≤ 4398046511104
  ha2 : 0 < b → a ≤ 2199023255552
theorem half64 {q : Nat} (h : q ≤ 1099511627776) : IntKind.i64.wrap (((q : Nat) : Int).tdiv 2) = ((q / 2 : Nat) : Int) := by
  have e : ((q : Nat) : Int).tdiv 2 = ((q / 2 : Nat) : Int) := rfl
  rw [e]; exact w64 (by omega) (by omega)
set_option maxHeartbeats 8000000 in
theorem p_product (a b : Int) (ha : inI a = true) (hb : inI b = true) : Pure Tryd.prog 46 [.v (.int .i64 a), .v (.int .i64 b)] (.tup [.v (.int .i64 (if a.natAbs * b.natAbs ≤ 1099511627776 then a * b else 0)), .v (.bool (decide (a.natAbs * b.natAbs ≤ 1099511627776)))]) := by
  refine enterW Tryd.func46 rfl rfl rfl rfl (fun σ => ?_)
  have ha' := inI_iff.1 ha
  have hb' := inI_iff.1 hb
  have e1 : a < 0 → IntKind.i64.wrap (0 - a) = ((a.natAbs : Nat) : Int) := fun h => by rw [w64 (by omega) (by omega)]; omega
  have e2 : b < 0 → IntKind.i64.wrap (0 - b) = ((b.natAbs : Nat) : Int) := fun h => by rw [w64 (by omega) (by omega)]; omega
  have e3 : ¬ a < 0 → a = ((a.natAbs : Nat) : Int) := fun h => by omega
  have e4 : ¬ b < 0 → b = ((b.natAbs : Nat) : Int) := fun h => by omega
  have hm := mul_abs a b
  have hs1 : ¬ (decide (a < 0) == decide (b < 0)) = true → a * b ≤ 0 := fun h => by
    rcases Int.lt_or_le a 0 with h1 | h1 <;> rcases Int.lt_or_le b 0 with h2 | h2
    · exact absurd (by rw [decide_eq_true h1, decide_eq_true h2]; rfl) h
    · exact Int.mul_nonpos_of_nonpos_of_nonneg (by omega) h2
    · exact Int.mul_nonpos_of_nonneg_of_nonpos h1 (by omega)
    · exact absurd (by rw [decide_eq_false (by omega), decide_eq_false (by omega)]; rfl) h
  have hs2 : (decide (a < 0) == decide (b < 0)) = true → 0 ≤ a * b := fun h => by
    rcases Int.lt_or_le a 0 with h1 | h1 <;> rcases Int.lt_or_le b 0 with h2 | h2
    · exact Int.mul_nonneg_of_nonpos_of_nonpos (by omega) (by omega)
    · rw [decide_eq_true h1, decide_eq_false (by omega)] at h; cases h
    · rw [decide_eq_false (by omega), decide_eq_true h2] at h; cases h
    · exact Int.mul_nonneg h1 h2
  obtain ⟨x, hx⟩ : ∃ x, x = a.natAbs := ⟨_, rfl⟩
  obtain ⟨y, hy⟩ : ∃ y, y = b.natAbs := ⟨_, rfl⟩
  rw [← hx] at e1 e3
  rw [← hy] at e2 e4
  rw [← hx, ← hy] at hm ⊢
  have hloop0 : Prd x y 0 x y := ⟨by omega, by omega, by omega, by omega, by omega⟩
  repeat' (first|(first|(refine jl ?_;first|refine j1 ?_|refine j4 ?_)|(refine jc ?_;first|refine c1 ?_|refine c2 ?_|refine c5 ?_|refine c6 ?_)|refine n1 ?_)|(refine c9 (fun h=>?_) (fun h=>?_)<;>((try simp only [Bool.or_eq_true, Bool.and_eq_true, Bool.or_eq_false_iff, Bool.and_eq_false_iff, Bool.not_eq_true', Bool.not_eq_false', decide_eq_true_eq, decide_eq_false_iff_not, Bool.false_eq_true, Bool.true_eq_false, reduceCtorEq] at h) <;> (try simp (disch := omega) only [sb_bt, w64, Int.reduceAdd, Int.reduceToNat, Int.toNat_natCast, not_true_eq_false, false_or] at h) <;> (try (exfalso; omega)))))
  all_goals
    refine cj_for (fun s : Nat × Nat × Nat => Prd x y s.1 s.2.1 s.2.2) (fun s => [(7, .v (.int .i64 ((s.1 : Nat) : Int))), (1, .v (.int .i64 ((s.2.2 : Nat) : Int))), (0, .v (.int .i64 ((s.2.1 : Nat) : Int)))]) (fun _ => σ) (fun s => s.2.2) (0, x, y) hloop0 ⟨⟨_, rfl, fun _ _ h => h⟩, ⟨_, rfl, Wk.of_eq (by first | rw [e2 (by assumption)] | rw [← e4 (by assumption)])⟩, ⟨_, rfl, Wk.of_eq (by first | rw [e1 (by assumption)] | rw [← e3 (by assumption)])⟩, trivial⟩ (St.le_refl _) (fun s hs => ?_)
    obtain ⟨n, p, q⟩ := s
    dsimp only at hs ⊢
    obtain ⟨g1, g2, g3, g4, g5⟩ := hs
    have f1 : ((q : Nat) : Int).tmod 2 = ((q % 2 : Nat) : Int) := rfl
    have f2 : IntKind.i64.wrap (((q : Nat) : Int).tdiv 2) = ((q / 2 : Nat) : Int) := half64 g3
    have f3 : IntKind.i64.wrap (2 * (p : Int)) = ((2 * p : Nat) : Int) := by rw [w64 (by omega) (by omega)]; omega
    have f4 : 0 < q → IntKind.i64.wrap ((n : Int) + (p : Int)) = ((n + p : Nat) : Int) := fun h => by have := g5 h; rw [w64 (by omega) (by omega)]; omega
    have f5 : n + q % 2 * p + 2 * p * (q / 2) = x * y := by
      rw [← g1]
      have : p * q = p * (2 * (q / 2) + q % 2) := by congr 1; omega
      rw [this, Nat.mul_add, Nat.mul_comm (q % 2) p, Nat.mul_comm 2 p, Nat.mul_assoc]
      omega
    have f6 : 0 < q → p ≤ x * y := fun h => by
      rw [← g1]
      have : p * 1 ≤ p * q := Nat.mul_le_mul_left p h
      omega
    have f7 : q % 2 = 1 → q % 2 * p = p := fun h => by rw [h, Nat.one_mul]
    have f8 : q % 2 = 0 → q % 2 * p = 0 := fun h => by rw [h, Nat.zero_mul]
    have f9 : q = 0 → n = x * y := fun h => by rw [← g1, h, Nat.mul_zero]; rfl
    have f10 : IntKind.i64.wrap (0 - (n : Int)) = -(n : Int) := by rw [w64 (by omega) (by omega)]; omega
    repeat' (first|(first|(refine jl ?_;first|refine j7 ?_|refine j11 ?_|refine j1 ?_|refine j4 ?_|refine j6 ?_|refine j9 ?_)|(refine jc ?_;first|refine c1 ?_|refine c2 ?_|refine c5 ?_|refine c6 ?_|refine c7 ?_|refine c8 ?_)|refine n1 ?_|refine n2 ?_|refine n3 ?_|refine n5 ?_|refine n6 ?_|refine n7 ?_|refine n8 ?_|refine n10 ?_|refine n11 ?_)|(refine c9 (fun h=>?_) (fun h=>?_)<;>((try simp only [Bool.or_eq_true, Bool.and_eq_true, Bool.or_eq_false_iff, Bool.and_eq_false_iff, Bool.not_eq_true', Bool.not_eq_false', decide_eq_true_eq, decide_eq_false_iff_not, Bool.false_eq_true, Bool.true_eq_false, reduceCtorEq] at h) <;> (try simp (disch := omega) only [sb_bt, w64, Int.reduceAdd, Int.reduceToNat, Int.toNat_natCast, not_true_eq_false, false_or] at h) <;> (try (exfalso; omega)))))
    all_goals simp only [f1, f2] at *
    all_goals first
      | (rw [if_neg (by omega), decide_eq_false (by omega)]; exact gives (St.le_refl _) (Fin.refl _ _ _))
      | (have hz : q = 0 := (by omega); have hz2 := f9 hz; have hz3 := hs1 (by rw [h]; exact Bool.false_ne_true); rw [if_pos (by omega), decide_eq_true (by omega)]; exact gives (St.le_refl _) (fin_two (.wk (Wk.of_eq (by rw [f10]; congr 2; omega))) (Fin.refl _ _ _)))
      | (have hz : q = 0 := (by omega); have hz2 := f9 hz; have hz3 := hs2 h; rw [if_pos (by omega), decide_eq_true (by omega)]; exact gives (St.le_refl _) (fin_two (.wk (Wk.of_eq (by congr 2; omega))) (Fin.refl _ _ _)))
      | exact nx_forS (n + p, 2 * p, q / 2) ⟨by dsimp only; omega, by dsimp only; omega, by dsimp only; omega, by dsimp only; omega, fun _ => by dsimp only at *; omega⟩ (by dsimp only; omega) ⟨⟨_, rfl, Wk.of_eq (by rw [f4 (by omega)])⟩, ⟨_, rfl, Wk.of_eq (by first | rfl | rw [half64 (by omega)])⟩, ⟨_, rfl, Wk.of_eq (by rw [f3])⟩, trivial⟩ (St.le_refl _)
      | exact nx_forS (n, 2 * p, q / 2) ⟨by dsimp only; omega, by dsimp only; omega, by dsimp only; omega, by dsimp only; omega, fun _ => by dsimp only at *; omega⟩ (by dsimp only; omega) ⟨⟨_, rfl, fun _ _ h => h⟩, ⟨_, rfl, Wk.of_eq (by first | rfl | rw [half64 (by omega)])⟩, ⟨_, rfl, Wk.of_eq (by rw [f3])⟩, trivial⟩ (St.le_refl _)
      | trace_state
end Go.Proofs.YtbpoeggmpjepfaaDoor.Ab

/- Values: signs of preds, the code points of words. -/
set_option linter.unusedVariables false
set_option linter.unusedSimpArgs false
set_option maxRecDepth 20000
namespace Go.Proofs.YtbpoeggmpjepfaaDoor.Ab
open Go
attribute [local irreducible] thn inb endR CJ LJ OpJ DJ

def inP (c : Int) : Prop := 128 ≤ c ∨ (97 ≤ c ∧ c ≤ 122) ∨ (65 ≤ c ∧ c ≤ 90) ∨ (48 ≤ c ∧ c ≤ 57) ∨ c = 95 ∨ c = 45 ∨ c = 63 ∨ c = 33 ∨ c = 43 ∨ c = 42 ∨ c = 46
instance (c : Int) : Decidable (inP c) := by unfold inP; exact inferInstance
theorem in_yes {c : Int} (h : inP c) : Wk (.v (.bool true)) (.v (.bool (decide (inP c)))) := Wk.of_eq (by rw [decide_eq_true h])
theorem in_no {c : Int} (h : ¬ inP c) : Wk (.v (.bool false)) (.v (.bool (decide (inP c)))) := Wk.of_eq (by rw [decide_eq_false h])
end Go.Proofs.YtbpoeggmpjepfaaDoor.Ab

/- Values: the code points of words. -/
set_option linter.unusedVariables false
set_option linter.unusedSimpArgs false
set_option maxRecDepth 20000
namespace Go.Proofs.YtbpoeggmpjepfaaDoor.Ab
open Go
attribute [local irreducible] thn inb endR CJ LJ OpJ DJ

theorem in_dec {c : Int} {b : Bool} (h : if b then inP c else ¬ inP c) : Wk (.v (.bool b)) (.v (.bool (decide (inP c)))) := by
  cases b with
  | true => exact in_yes (by simpa using h)
  | false => exact in_no (by simpa using h)
theorem p_in (c : Int) : Pure Tryd.prog 60 [.v (.int .i32 c)] (.v (.bool (decide (inP c)))) := by
  refine enterW Tryd.func60 rfl rfl rfl rfl (fun σ => ?_)
  repeat' (first|(first|(refine jl ?_;first|refine j8 ?_|refine j1 ?_|refine j4 ?_|refine j9 ?_)|(refine jc ?_;first|refine c1 ?_|refine c2 ?_|refine c3 ?_|refine c5 ?_|refine c6 ?_|refine c7 ?_)|refine n1 ?_|refine n2 ?_|refine n6 ?_|refine n10 ?_|refine n11 ?_)|(refine c9 (fun h=>?_) (fun h=>?_)<;>(try simp only [Bool.or_eq_true, Bool.and_eq_true, Bool.or_eq_false_iff, Bool.and_eq_false_iff, Bool.not_eq_true', Bool.not_eq_false', decide_eq_true_eq, decide_eq_false_iff_not, Bool.false_eq_true, Bool.true_eq_false, reduceCtorEq] at h)))
  all_goals refine gives (St.le_refl _) (fin_one (.wk (in_dec ?_)))
  all_goals simp only [Bool.false_eq_true, if_true, if_false]
  all_goals unfold inP
  all_goals omega
end Go.Proofs.YtbpoeggmpjepfaaDoor.Ab

/-
  DERIVED: THE SHELF's CONTRACTS AT THIS DUMP, IN PLAIN WORDS (tools/lay-plain.mjs out of 'YtbpoeggmpjepfaaDoorShelf.lean', which tools/lay-shelf.mjs wrote): THE SAME DECLARATIONS UNDER THE SAME YtbpoeggmpjepfaaDoorS: 'import', 'namespace', 'open', 'def', 'theorem' AND NOTHING ELSE: no command of the shelf's: FOR A HAND-IN. Each laying: the table of numbers ('.._ren') and one theorem, a field a fact of the dump's own or the kernel's comparison; each contract: ONE APPLICATION.
-/
namespace Go.Proofs
open Go.Shelf
def Tryd.laysValid_ren : Go.Shelf.Ren := ⟨fun | 196 => 59 | 259 => 79 | n => n, fun | 9 => 9 | 4 => 4 | 3 => 3 | 5 => 5 | 12 => 12 | 119 => 145 | 0 => 0 | 46 => 149 | 139 => 148 | 138 => 147 | 53 => 168 | n => n, fun | 3 => 0 | 4 => 1 | n => n⟩
theorem Tryd.laysValid : Go.Proofs.Lays.n196 Tryd.prog Tryd.laysValid_ren := {
  mixed := by kernel_rfl
  f196 := Tryd.func59.trans (congrArg some (by kernel_rfl))
  f259 := Tryd.func79.trans (congrArg some (by kernel_rfl))
  t0 := Tryd.underlying0
  a0 := Tryd.isAgg0
  z0 := Tryd.sizeOf0
  v0 := Tryd.zeroValue0
  t3 := Tryd.underlying3
  a3 := Tryd.isAgg3
  z3 := Tryd.sizeOf3
  v3 := Tryd.zeroValue3
  t4 := Tryd.underlying4
  a4 := Tryd.isAgg4
  z4 := Tryd.sizeOf4
  v4 := Tryd.zeroValue4
  t5 := Tryd.underlying5
  a5 := Tryd.isAgg5
  z5 := Tryd.sizeOf5
  v5 := Tryd.zeroValue5
  t9 := Tryd.underlying9
  a9 := Tryd.isAgg9
  z9 := Tryd.sizeOf9
  v9 := Tryd.zeroValue9
  t12 := Tryd.underlying12
  a12 := Tryd.isAgg12
  z12 := Tryd.sizeOf12
  v12 := Tryd.zeroValue12
  t46 := Tryd.underlying149
  a46 := Tryd.isAgg149
  z46 := Tryd.sizeOf149
  v46 := Tryd.zeroValue149
  t53 := Tryd.underlying168
  a53 := Tryd.isAgg168
  z53 := Tryd.sizeOf168
  v53 := Tryd.zeroValue168
  t119 := Tryd.underlying145
  a119 := Tryd.isAgg145
  z119 := Tryd.sizeOf145
  t138 := Tryd.underlying147
  a138 := Tryd.isAgg147
  z138 := Tryd.sizeOf147
  v138 := Tryd.zeroValue147
  t139 := Tryd.underlying148
  a139 := Tryd.isAgg148
  z139 := Tryd.sizeOf148
  v139 := Tryd.zeroValue148
  g3 := by kernel_rfl
  g4 := by kernel_rfl }
end Go.Proofs

/- Go's own utf8.ValidString, by the shelf's contract. -/
set_option linter.unusedVariables false
set_option linter.unusedSimpArgs false
set_option maxRecDepth 20000
namespace Go.Proofs.YtbpoeggmpjepfaaDoor.Ab
open Go Go.RowKit
theorem pure_below {P : Program} {f : FuncId} {args : List AV} {x : Value} (hx : x.oneCell' = true) (h : ∀ (k : Cx) (vs : List Value), Ok k → Reps k args vs → Calls P f vs.toArray k.w (fun e w' => e = .returned x ∧ Below k.w.heap.size k.w w')) : Pure P f args (.v x) := fun σ k vs hσ hk hv =>
  (h k vs hk hv).mono fun e w' ⟨h1, h2⟩ => by
    obtain ⟨hok, hst⟩ := hk.world w' h2.os h2.tape h2.output h2.size h2.block
    subst h1
    exact ⟨{ k with w := w' }, .ret (.v x), rfl, hok, hst, .v hx, rfl, hσ ▸ St.le_refl _⟩
theorem reps_one {k : Cx} {x : Value} {vs : List Value} (h : Reps k [.v x] vs) : vs = [x] := by
  obtain ⟨h1, h2⟩ := h
  match vs, h1 with
  | [v], _ =>
    have := h2 0 (.v x) v rfl rfl
    cases this
    rfl
theorem p_valid (s : ByteArray) (hs : s.size ≤ 9223372036854775807) : Pure Tryd.prog 59 [.v (.string s)] (.v (.bool (Lib.validD s.data.toList))) :=
  pure_below rfl fun k vs hk hv => by
    rw [reps_one hv]
    exact Any.utf8_ValidString Tryd.laysValid s k.w hs hk.gr.1
end Go.Proofs.YtbpoeggmpjepfaaDoor.Ab

/- Values: the reference's own code points. -/
set_option linter.unusedVariables false
set_option linter.unusedSimpArgs false
set_option maxRecDepth 20000
namespace Go.Proofs.YtbpoeggmpjepfaaDoor.Ab
open Go
attribute [local irreducible] thn inb endR CJ LJ OpJ DJ

/-- The reference's own: a code point and its width, or nothing. -/
def runeN (n b0 b1 b2 b3 : Nat) : Nat × Nat :=
  if b0 < 128 then (b0, 1)
  else if b0 < 194 then (0, 0)
  else if b0 < 224 then (if n < 2 ∨ b1 < 128 ∨ 191 < b1 then (0, 0) else (64 * (b0 - 192) + b1 - 128, 2))
  else if b0 < 240 then (if n < 3 ∨ b1 < 128 ∨ 191 < b1 ∨ b2 < 128 ∨ 191 < b2 ∨ 64 * (64 * (b0 - 224) + b1 - 128) + b2 - 128 < 2048 ∨ (55296 ≤ 64 * (64 * (b0 - 224) + b1 - 128) + b2 - 128 ∧ 64 * (64 * (b0 - 224) + b1 - 128) + b2 - 128 < 57344) then (0, 0) else (64 * (64 * (b0 - 224) + b1 - 128) + b2 - 128, 3))
  else if b0 < 245 then (if n < 4 ∨ b1 < 128 ∨ 191 < b1 ∨ b2 < 128 ∨ 191 < b2 ∨ b3 < 128 ∨ 191 < b3 ∨ 64 * (64 * (64 * (b0 - 240) + b1 - 128) + b2 - 128) + b3 - 128 < 65536 ∨ 1114111 < 64 * (64 * (64 * (b0 - 240) + b1 - 128) + b2 - 128) + b3 - 128 then (0, 0) else (64 * (64 * (64 * (b0 - 240) + b1 - 128) + b2 - 128) + b3 - 128, 4))
  else (0, 0)
theorem runeN_dec (n b0 b1 b2 b3 : Nat) (h0 : b0 < 256) (h1 : b1 < 256) (h2 : b2 < 256) (h3 : b3 < 256) : runeN n b0 b1 b2 b3 = if (Lib.decodeN n b0 b1 b2 b3).1 = 65533 ∧ (Lib.decodeN n b0 b1 b2 b3).2 = 1 then (0, 0) else Lib.decodeN n b0 b1 b2 b3 := by
  unfold runeN Lib.decodeN
  repeat' split
  all_goals try dsimp only at *
  all_goals first | (exfalso; omega) | (refine Prod.ext ?_ ?_ <;> dsimp only <;> omega)
def runeS (s : ByteArray) : Nat × Nat := runeN s.size (bt s 0) (bt s 1) (bt s 2) (bt s 3)
set_option maxHeartbeats 4000000 in
theorem p_rrune (s : ByteArray) (hs : 0 < s.size) : Pure Tryd.prog 62 [.v (.string s)] (.tup [.v (.int .i64 (runeS s).1), .v (.int .i64 (runeS s).2)]) := by
  refine enterW Tryd.func62 rfl rfl rfl rfl (fun σ => ?_)
  have hb0 := bt_lt s 0
  have hb1 := bt_lt s 1
  have hb2 := bt_lt s 2
  have hb3 := bt_lt s 3
  repeat' (first|(first|(refine jl ?_;first|refine j8 ?_|refine j1 ?_|refine j4 ?_|refine j6 ?_|refine j9 ?_|refine j18 ?_)|(refine jc ?_;first|refine c1 ?_|refine c2 ?_|refine c5 ?_|refine c6 ?_|refine c7 ?_)|refine n1 ?_|refine n2 ?_|refine n6 ?_|refine n10 ?_|refine n11 ?_)|(refine c9 (fun h=>?_) (fun h=>?_)<;>((try simp only [Bool.or_eq_true, Bool.and_eq_true, Bool.or_eq_false_iff, Bool.and_eq_false_iff, Bool.not_eq_true', Bool.not_eq_false', decide_eq_true_eq, decide_eq_false_iff_not, Bool.false_eq_true, Bool.true_eq_false, reduceCtorEq] at h) <;> (try simp (disch := omega) only [sb_bt, w64, Int.reduceAdd, Int.reduceToNat, Int.toNat_natCast, not_true_eq_false, false_or] at h) <;> (try (exfalso; omega)))))
  all_goals try (refine cj_unroll 3 ?_)
  repeat' (first|(first|(refine jl ?_;first|refine j7 ?_|refine j8 ?_|refine j10 ?_|refine j11 ?_|refine j1 ?_|refine j4 ?_|refine j5 ?_|refine j6 ?_|refine j9 ?_|refine j18 ?_|refine j20 ?_)|(refine jc ?_;first|refine c1 ?_|refine c2 ?_|refine c5 ?_|refine c6 ?_|refine c7 ?_|refine c8 ?_)|refine n1 ?_|refine n2 ?_|refine n3 ?_|refine n5 ?_|refine n6 ?_|refine n7 ?_|refine n8 ?_|refine n10 ?_|refine n11 ?_)|(refine c9 (fun h=>?_) (fun h=>?_)<;>((try simp only [Bool.or_eq_true, Bool.and_eq_true, Bool.or_eq_false_iff, Bool.and_eq_false_iff, Bool.not_eq_true', Bool.not_eq_false', decide_eq_true_eq, decide_eq_false_iff_not, Bool.false_eq_true, Bool.true_eq_false, reduceCtorEq] at h) <;> (try simp (disch := omega) only [sb_bt, w64, Int.reduceAdd, Int.reduceToNat, Int.toNat_natCast, not_true_eq_false, false_or] at h) <;> (try (exfalso; omega)))))
  all_goals try (simp (disch := omega) only [sb_bt, w64, Int.reduceAdd, Int.reduceToNat, not_true_eq_false, false_or] at *)
  all_goals refine gives (St.le_refl _) (fin_two (.wk (Wk.of_eq ?_)) (.wk (Wk.of_eq ?_)))
  all_goals simp only [ofLeaf, runeS, runeN, AV.v.injEq, Value.int.injEq, true_and]
  all_goals repeat' split
  all_goals omega
end Go.Proofs.YtbpoeggmpjepfaaDoor.Ab

/- Values: words. -/
set_option linter.unusedVariables false
set_option linter.unusedSimpArgs false
set_option maxRecDepth 20000
namespace Go.Proofs.YtbpoeggmpjepfaaDoor.Ab
open Go
attribute [local irreducible] thn inb endR CJ LJ OpJ DJ

/-- All code points of a text may stand in a word; each one is right. -/
def wordF : Nat → List UInt8 → Bool
  | 0, _ => true
  | n + 1, l => if l = [] then true else if (Lib.decodeL l).1 = 65533 ∧ (Lib.decodeL l).2 = 1 then false else decide (inP (Lib.decodeL l).1) && wordF n (l.drop (Lib.decodeL l).2)
theorem wordF_nil (n : Nat) : wordF n [] = true := by cases n <;> rfl
theorem wordF_fuel : ∀ (n m : Nat) (l : List UInt8), l.length ≤ n → l.length ≤ m → wordF n l = wordF m l
  | 0, m, l, hn, _ => by
    have : l = [] := List.eq_nil_of_length_eq_zero (by omega)
    subst this
    rw [wordF_nil, wordF_nil]
  | n + 1, 0, l, _, hm => by
    have : l = [] := List.eq_nil_of_length_eq_zero (by omega)
    subst this
    rw [wordF_nil, wordF_nil]
  | n + 1, m + 1, l, hn, hm => by
    unfold wordF
    by_cases hne : l = []
    · simp [hne]
    · have hw := Lib.decodeL_width l
      have hl : 0 < l.length := List.length_pos_iff.2 hne
      rw [if_neg hne, if_neg hne, wordF_fuel n m (l.drop (Lib.decodeL l).2) (by rw [List.length_drop]; omega) (by rw [List.length_drop]; omega)]
def wordL (l : List UInt8) : Bool := wordF l.length l
theorem wordL_nil : wordL [] = true := rfl
theorem wordL_step (l : List UInt8) (hne : l ≠ []) : wordL l = if (Lib.decodeL l).1 = 65533 ∧ (Lib.decodeL l).2 = 1 then false else decide (inP (Lib.decodeL l).1) && wordL (l.drop (Lib.decodeL l).2) := by
  have hl : 0 < l.length := List.length_pos_iff.2 hne
  have hw := Lib.decodeL_width l
  obtain ⟨n, hn⟩ : ∃ n, l.length = n + 1 := ⟨l.length - 1, by omega⟩
  unfold wordL
  rw [hn]
  show (if l = [] then true else _) = _
  rw [if_neg hne, wordF_fuel n (l.drop (Lib.decodeL l).2).length _ (by rw [List.length_drop]; omega) (Nat.le_refl _)]
/-- What the walk over a right text tells. -/
theorem wordL_valid (l : List UInt8) (hne : l ≠ []) (hv : Lib.validD l = true) : wordL l = (decide (inP (Lib.decodeL l).1) && wordL (l.drop (Lib.decodeL l).2)) ∧ Lib.validD (l.drop (Lib.decodeL l).2) = true := by
  rw [Lib.validD_step l hne] at hv
  split at hv
  · cases hv
  · rename_i h
    rw [wordL_step l hne, if_neg h]
    exact ⟨rfl, hv⟩
theorem wordL_bad (n : Nat) : ∀ (l : List UInt8), l.length ≤ n → Lib.validD l = false → wordL l = false := by
  induction n with
  | zero =>
    intro l hl hv
    have : l = [] := List.eq_nil_of_length_eq_zero (by omega)
    subst this
    cases hv
  | succ n ih =>
    intro l hl hv
    by_cases hne : l = []
    · subst hne; cases hv
    · have hw := Lib.decodeL_width l
      have hl0 : 0 < l.length := List.length_pos_iff.2 hne
      rw [wordL_step l hne]
      rw [Lib.validD_step l hne] at hv
      split
      · rfl
      · rename_i h
        rw [if_neg h] at hv
        rw [ih _ (by rw [List.length_drop]; omega) hv, Bool.and_false]
def wordB (s : ByteArray) : Bool := decide (0 < s.size) && (decide (s.size ≤ 24) && wordL s.data.toList)
theorem bl_len (s : ByteArray) : s.data.toList.length = s.size := by rw [Array.length_toList]; rfl
theorem decodeL_rune' (s : ByteArray) (pos : Nat) : Utf8.decode s pos = Lib.decodeL (s.data.toList.drop pos) := (Lib.decodeL_drop s pos).symm
theorem p_word (s : ByteArray) : Pure Tryd.prog 38 [.v (.string s)] (.v (.bool (wordB s))) := by
  refine enterW Tryd.func38 rfl rfl rfl rfl (fun σ => ?_)
  repeat' (first|(first|(refine jl ?_;first|refine j7 ?_|refine j1 ?_|refine j4 ?_|refine j9 ?_|refine j22 (fun id hid=>?_)|refine jcq (hp:=fun hc=>p_valid s (by simp only [Bool.and_eq_true, decide_eq_true_eq, Bool.not_eq_true', Bool.or_eq_false_iff, decide_eq_false_iff_not] at hc; omega)) ?_)|(refine jc ?_;first|refine c1 ?_|refine c2 ?_|refine c5 ?_|refine c6 ?_|refine c7 ?_)|refine n1 ?_|refine n2 ?_|refine n11 ?_)|(refine c9 (fun h=>?_) (fun h=>?_)<;>(try simp only [Bool.or_eq_true, Bool.and_eq_true, Bool.or_eq_false_iff, Bool.and_eq_false_iff, Bool.not_eq_true', Bool.not_eq_false', decide_eq_true_eq, decide_eq_false_iff_not, Bool.false_eq_true, Bool.true_eq_false, reduceCtorEq] at h)))
  · refine gives (St.le_refl _) (fin_one (.wk (Wk.of_eq ?_)))
    have hw : wordB s = false := by
      unfold wordB
      rcases h with (h | h) | h
      · rw [decide_eq_false (by omega)]; rfl
      · rw [decide_eq_false (by omega : ¬ s.size ≤ 24)]; simp
      · rw [wordL_bad _ _ (Nat.le_refl _) h]; simp
    rw [hw]
  · obtain ⟨h1, h2⟩ := h
    have hw : wordB s = wordL s.data.toList := by
      unfold wordB
      rw [decide_eq_true (by omega), decide_eq_true (by omega : s.size ≤ 24)]
      rfl
    rw [hw]
    have hlen := bl_len s
    refine cj_head (fun p : Nat => wordL (s.data.toList.drop p) = wordL s.data.toList ∧ Lib.validD (s.data.toList.drop p) = true) (fun p => [(19, .it id)]) (fun p => σ.set id (.siter s p)) (fun p => s.size - p) 0 ⟨rfl, h2⟩ ⟨rfl, trivial⟩ (St.le_refl _) (fun p hp => ?_)
    obtain ⟨hp1, hp2⟩ := hp
    by_cases hlt : p < s.size
    · have hne : s.data.toList.drop p ≠ [] := by
        intro e
        have := congrArg List.length e
        simp at this
        omega
      have hstep := wordL_valid _ hne hp2
      have hdw := Lib.decodeL_width (s.data.toList.drop p)
      rw [List.drop_drop] at hstep
      repeat' (first|(first|(refine jl ?_;first|refine j1 ?_|refine j4 ?_|refine j23 ?_|refine jp (p_in _) ?_)|(refine jc ?_;first|refine c1 ?_|refine c2 ?_|refine c3 ?_|refine c5 ?_|refine c6 ?_|refine c7 ?_)|refine n1 ?_|refine n2 ?_|refine n5 ?_|refine n6 ?_|refine n10 ?_|refine n11 ?_)|(refine c9 (fun h=>?_) (fun h=>?_)<;>(try simp only [Bool.or_eq_true, Bool.and_eq_true, Bool.or_eq_false_iff, Bool.and_eq_false_iff, Bool.not_eq_true', Bool.not_eq_false', decide_eq_true_eq, decide_eq_false_iff_not, Bool.false_eq_true, Bool.true_eq_false, reduceCtorEq] at h)))
      · rw [decodeL_rune'] at h
        refine gives (by (try rw [St.set_set]); exact St.le_set _ hid) (fin_one (.wk (Wk.of_eq ?_)))
        rw [← hp1, hstep.1, decide_eq_false h]
        rfl
      · rw [decodeL_rune'] at h
        refine nx_thn ⟨p + (Utf8.decode s p).2, ?_, ?_, ⟨rfl, trivial⟩, by (try rw [St.set_set]); exact St.le_refl _⟩
        · rw [decodeL_rune']
          refine ⟨?_, hstep.2⟩
          rw [← hp1, hstep.1, decide_eq_true h, Bool.true_and]
        · rw [decodeL_rune']
          omega
    · have hnil : s.data.toList.drop p = [] := List.drop_of_length_le (by omega)
      repeat' (first|(first|(refine jl ?_;first|refine j1 ?_|refine j4 ?_|refine j24 ?_)|(refine jc ?_;first|refine c1 ?_|refine c2 ?_|refine c4 ?_|refine c7 ?_|refine c8 ?_)|refine n1 ?_|refine n3 ?_|refine n7 ?_|refine n8 ?_|refine n11 ?_))
      refine gives (St.le_set _ hid) (fin_one (.wk (Wk.of_eq ?_)))
      rw [← hp1, hnil]
      rfl
/-! ### The reference -/
theorem runeS_dec (s : ByteArray) : runeS s = if (Lib.decodeL s.data.toList).1 = 65533 ∧ (Lib.decodeL s.data.toList).2 = 1 then (0, 0) else Lib.decodeL s.data.toList := by
  unfold runeS
  rw [runeN_dec _ _ _ _ _ (bt_lt s 0) (bt_lt s 1) (bt_lt s 2) (bt_lt s 3), Lib.decodeL_N, bl_len]
  rfl
def inSigns : ByteArray := ⟨#[95, 45, 63, 33, 43, 42, 46]⟩
theorem inSigns_has (i : Nat) (h : i < 7) : inP (bt inSigns i : Int) := by
  have : i = 0 ∨ i = 1 ∨ i = 2 ∨ i = 3 ∨ i = 4 ∨ i = 5 ∨ i = 6 := by omega
  rcases this with rfl | rfl | rfl | rfl | rfl | rfl | rfl <;> decide
theorem inSigns_all (c : Int) (h : inP c) (h1 : c < 128 ∧ (¬97 ≤ c ∨ ¬c ≤ 122) ∧ (¬65 ≤ c ∨ ¬c ≤ 90) ∧ (¬48 ≤ c ∨ ¬c ≤ 57)) : ∃ i, i < 7 ∧ (bt inSigns i : Int) = c := by
  unfold inP at h
  have : c = 95 ∨ c = 45 ∨ c = 63 ∨ c = 33 ∨ c = 43 ∨ c = 42 ∨ c = 46 := by omega
  rcases this with rfl | rfl | rfl | rfl | rfl | rfl | rfl
  · exact ⟨0, by omega, rfl⟩
  · exact ⟨1, by omega, rfl⟩
  · exact ⟨2, by omega, rfl⟩
  · exact ⟨3, by omega, rfl⟩
  · exact ⟨4, by omega, rfl⟩
  · exact ⟨5, by omega, rfl⟩
  · exact ⟨6, by omega, rfl⟩
theorem p_rinword (c : Int) : Pure Tryd.prog 63 [.v (.int .i64 c)] (.v (.bool (decide (inP c)))) := by
  refine enterW Tryd.func63 rfl rfl rfl rfl (fun σ => ?_)
  repeat' (first|(first|(refine jl ?_;first|refine j7 ?_|refine j11 ?_|refine j1 ?_|refine j4 ?_|refine j9 ?_)|(refine jc ?_;first|refine c1 ?_|refine c2 ?_|refine c5 ?_|refine c6 ?_|refine c7 ?_)|refine n1 ?_|refine n2 ?_|refine n11 ?_)|(refine c9 (fun h=>?_) (fun h=>?_)<;>(try simp only [Bool.or_eq_true, Bool.and_eq_true, Bool.or_eq_false_iff, Bool.and_eq_false_iff, Bool.not_eq_true', Bool.not_eq_false', decide_eq_true_eq, decide_eq_false_iff_not, Bool.false_eq_true, Bool.true_eq_false, reduceCtorEq] at h)))
  · exact gives (St.le_refl _) (fin_one (.wk (in_yes (by unfold inP; omega))))
  · refine cj_head (fun i : Nat => i ≤ 7 ∧ ∀ j, j < i → (bt inSigns j : Int) ≠ c) (fun i => [(3, .v (.string inSigns)), (4, .v (.int .i64 i)), (0, .v (.int .i64 c))]) (fun _ => σ) (fun i => 7 - i) 0 ⟨by omega, fun j h => by omega⟩ ⟨rfl, rfl, rfl, trivial⟩ (St.le_refl _) (fun i hi => ?_)
    obtain ⟨hi1, hi2⟩ := hi
    have hz : inSigns.size = 7 := rfl
    have hb := bt_lt inSigns i
    repeat' (first|(first|(refine jl ?_;first|refine j1 ?_|refine j4 ?_|refine j6 ?_|refine j18 ?_)|(refine jc ?_;first|refine c1 ?_|refine c2 ?_|refine c5 ?_|refine c6 ?_|refine c7 ?_|refine c8 ?_)|refine n1 ?_|refine n2 ?_|refine n3 ?_|refine n5 ?_|refine n6 ?_|refine n7 ?_|refine n8 ?_|refine n10 ?_|refine n11 ?_)|(refine c9 (fun h=>?_) (fun h=>?_)<;>((try simp only [Bool.or_eq_true, Bool.and_eq_true, Bool.or_eq_false_iff, Bool.and_eq_false_iff, Bool.not_eq_true', Bool.not_eq_false', decide_eq_true_eq, decide_eq_false_iff_not, Bool.false_eq_true, Bool.true_eq_false, reduceCtorEq] at h) <;> (try simp (disch := omega) only [sb_bt, w64, Int.reduceAdd, Int.reduceToNat, Int.toNat_natCast, not_true_eq_false, false_or] at h) <;> (try (exfalso; omega)))))
    · refine gives (St.le_refl _) (fin_one (.wk (in_yes ?_)))
      rw [← h]
      exact inSigns_has i (by omega)
    · exact nx_thn ⟨i + 1, ⟨by omega, fun j hj => by
        by_cases e : j = i
        · rw [e]; exact h
        · exact hi2 j (by omega)⟩, by omega, ⟨rfl, by show some (AV.v (.int .i64 (IntKind.i64.wrap ((i : Int) + 1)))) = _; rw [w64 (by omega) (by omega)]; rfl, rfl, trivial⟩, St.le_refl _⟩
    · rename_i h1
      refine gives (St.le_refl _) (fin_one (.wk (in_no fun hp => ?_)))
      obtain ⟨j, hj, he⟩ := inSigns_all c hp ⟨by omega, by omega, by omega, by omega⟩
      exact hi2 j (by omega) he
theorem wordL_ext (s : ByteArray) (hs : 0 < s.size) : wordL s.data.toList = if (runeS s).2 = 0 then false else decide (inP (runeS s).1) && wordL (s.extract (runeS s).2 s.size).data.toList := by
  have hne : s.data.toList ≠ [] := fun e => by
    have := bl_len s
    rw [e] at this
    exact absurd this (by simp; omega)
  have hw := Lib.decodeL_width s.data.toList
  rw [wordL_step _ hne, runeS_dec]
  split
  · rfl
  · rw [if_neg (by omega), Lib.ext_list]
theorem runeS_le (s : ByteArray) (hs : 0 < s.size) : (runeS s).2 ≤ s.size := by
  have hne : s.data.toList ≠ [] := fun e => by
    have := bl_len s
    rw [e] at this
    exact absurd this (by simp; omega)
  have := Lib.decodeL_le s.data.toList hne
  rw [bl_len] at this
  rw [runeS_dec]
  split
  · exact Nat.zero_le _
  · exact this
theorem p_rword (s : ByteArray) : Pure Tryd.prog 43 [.v (.string s)] (.v (.bool (wordB s))) := by
  refine enterW Tryd.func43 rfl rfl rfl rfl (fun σ => ?_)
  repeat' (first|(first|(refine jl ?_;first|refine j7 ?_|refine j1 ?_|refine j4 ?_|refine j9 ?_)|(refine jc ?_;first|refine c1 ?_|refine c2 ?_|refine c5 ?_|refine c6 ?_|refine c7 ?_)|refine n1 ?_|refine n2 ?_|refine n11 ?_)|(refine c9 (fun h=>?_) (fun h=>?_)<;>(try simp only [Bool.or_eq_true, Bool.and_eq_true, Bool.or_eq_false_iff, Bool.and_eq_false_iff, Bool.not_eq_true', Bool.not_eq_false', decide_eq_true_eq, decide_eq_false_iff_not, Bool.false_eq_true, Bool.true_eq_false, reduceCtorEq] at h)))
  · refine gives (St.le_refl _) (fin_one (.wk (Wk.of_eq ?_)))
    have hw : wordB s = false := by
      unfold wordB
      rcases h with h | h
      · rw [decide_eq_false (by omega)]; rfl
      · rw [decide_eq_false (by omega : ¬ s.size ≤ 24)]; simp
    rw [hw]
  · have hw : wordB s = wordL s.data.toList := by
      unfold wordB
      rw [decide_eq_true (by omega), decide_eq_true (by omega : s.size ≤ 24)]
      rfl
    rw [hw]
    refine cj_head (fun t : ByteArray => wordL t.data.toList = wordL s.data.toList ∧ t.size ≤ 24) (fun t => [(0, .v (.string t))]) (fun _ => σ) (fun t => t.size) s ⟨rfl, by omega⟩ ⟨rfl, trivial⟩ (St.le_refl _) (fun t ht => ?_)
    obtain ⟨ht1, ht2⟩ := ht
    by_cases h0 : 0 < t.size
    · have hst := wordL_ext t h0
      have hle := runeS_le t h0
      repeat' (first|(first|(refine jl ?_;first|refine j7 ?_|refine j1 ?_|refine j4 ?_|refine j6 ?_|refine j9 ?_|refine j21 ?_|refine jp (p_rrune t h0) ?_|refine jcq (hp:=fun hc=>p_rinword _) ?_)|(refine jc ?_;first|refine c1 ?_|refine c2 ?_|refine c5 ?_|refine c6 ?_|refine c7 ?_)|refine n1 ?_|refine n2 ?_|refine n5 ?_|refine n6 ?_|refine n10 ?_|refine n11 ?_)|(refine c9 (fun h=>?_) (fun h=>?_)<;>((try simp only [Bool.or_eq_true, Bool.and_eq_true, Bool.or_eq_false_iff, Bool.and_eq_false_iff, Bool.not_eq_true', Bool.not_eq_false', decide_eq_true_eq, decide_eq_false_iff_not, Bool.false_eq_true, Bool.true_eq_false, reduceCtorEq] at h) <;> (try simp (disch := omega) only [sb_bt, w64, Int.reduceAdd, Int.reduceToNat, Int.toNat_natCast, not_true_eq_false, false_or] at h) <;> (try (exfalso; omega)))))
      · refine gives (St.le_refl _) (fin_one (.wk (Wk.of_eq ?_)))
        rw [← ht1, hst]
        split
        · rfl
        · rename_i hn
          have : ¬ inP ((runeS t).1 : Int) := by
            rcases h with h | h
            · omega
            · exact h
          rw [decide_eq_false this]
          rfl
      · rw [if_neg (by omega), decide_eq_true h.2, Bool.true_and] at hst
        refine nx_thn ⟨t.extract (runeS t).2 t.size, ⟨by rw [← ht1, hst], by rw [Lib.ext_size]; omega⟩, by rw [Lib.ext_size]; omega, ⟨rfl, trivial⟩, St.le_refl _⟩
    · have hnil : t.data.toList = [] := List.eq_nil_of_length_eq_zero (by rw [bl_len]; omega)
      repeat' (first|(first|(refine jl ?_;first|refine j1 ?_|refine j4 ?_)|(refine jc ?_;first|refine c1 ?_|refine c2 ?_|refine c7 ?_|refine c8 ?_)|refine n1 ?_|refine n3 ?_|refine n7 ?_|refine n8 ?_|refine n11 ?_)|(refine c9 (fun h=>?_) (fun h=>?_)<;>((try simp only [Bool.or_eq_true, Bool.and_eq_true, Bool.or_eq_false_iff, Bool.and_eq_false_iff, Bool.not_eq_true', Bool.not_eq_false', decide_eq_true_eq, decide_eq_false_iff_not, Bool.false_eq_true, Bool.true_eq_false, reduceCtorEq] at h) <;> (try simp (disch := omega) only [sb_bt, w64, Int.reduceAdd, Int.reduceToNat, Int.toNat_natCast, not_true_eq_false, false_or] at h) <;> (try (exfalso; omega)))))
      refine gives (St.le_refl _) (fin_one (.wk (Wk.of_eq ?_)))
      rw [← ht1, hnil]
      rfl
end Go.Proofs.YtbpoeggmpjepfaaDoor.Ab

/- Values: words that are numbers. -/
set_option linter.unusedVariables false
set_option linter.unusedSimpArgs false
set_option maxRecDepth 20000
namespace Go.Proofs.YtbpoeggmpjepfaaDoor.Ab
open Go
attribute [local irreducible] thn inb endR CJ LJ OpJ DJ

abbrev dig (n : Nat) : Prop := 48 ≤ n ∧ n ≤ 57
/-- All bytes are digits. -/
def digB : List UInt8 → Bool
  | [] => true
  | b :: l => decide (dig b.toNat) && digB l
/-- A sign stands ahead. -/
def sgnB (s : ByteArray) : Bool := decide (0 < s.size) && (decide (bt s 0 = 45) || decide (bt s 0 = 43))
def bodyS (s : ByteArray) : ByteArray := if sgnB s then s.extract 1 s.size else s
def minusB (s : ByteArray) : Bool := sgnB s && decide (bt s 0 = 45)
def allD (s : ByteArray) : Bool := digB (bodyS s).data.toList
def isNumB (s : ByteArray) : Bool := allD s && decide (0 < (bodyS s).size)
theorem sgnB_iff (s : ByteArray) : sgnB s = true ↔ 0 < s.size ∧ (bt s 0 = 45 ∨ bt s 0 = 43) := by simp [sgnB]
theorem sb0 (s : ByteArray) : sb s 0 = (bt s 0 : Int) := rfl
theorem decodeL_high (b : UInt8) (t : List UInt8) (h : 128 ≤ b.toNat) : 128 ≤ (Lib.decodeL (b :: t)).1 := by
  have hb : b.toNat < 256 := b.toNat_lt
  rw [Lib.decodeL_N]
  unfold Lib.decodeN
  have e : ((b :: t).getD 0 0).toNat = b.toNat := rfl
  rw [e]
  repeat' split
  all_goals dsimp only
  all_goals omega
/-- One step of a walk by code points, as to digits. -/
theorem digB_step (l : List UInt8) (hne : l ≠ []) : digB l = (decide (dig (Lib.decodeL l).1) && digB (l.drop (Lib.decodeL l).2)) := by
  cases l with
  | nil => exact absurd rfl hne
  | cons b t =>
    by_cases hb : b.toNat < 128
    · rw [Lib.decodeL_ascii b t hb]; rfl
    · have := decodeL_high b t (by omega)
      rw [decide_eq_false (by omega : ¬ dig (Lib.decodeL (b :: t)).1), Bool.false_and]
      unfold digB
      rw [decide_eq_false (by omega : ¬ dig b.toNat), Bool.false_and]
theorem ne_empty (s : ByteArray) : (!decide (s = ⟨#[]⟩)) = decide (0 < s.size) := by
  by_cases h : s = ⟨#[]⟩
  · subst h; rfl
  · rw [decide_eq_false h, decide_eq_true]
    · rfl
    · rcases Nat.eq_zero_or_pos s.size with h0 | h0
      · exact absurd (ByteArray.ext (Array.eq_empty_of_size_eq_zero h0)) h
      · exact h0
theorem drop_bt (s : ByteArray) (i : Nat) (h : i < s.size) : s.data.toList.drop i = s.data.toList[i]'(by rw [bl_len]; exact h) :: s.data.toList.drop (i + 1) ∧ (s.data.toList[i]'(by rw [bl_len]; exact h)).toNat = bt s i := by
  have hl : i < s.data.toList.length := by rw [bl_len]; exact h
  refine ⟨(List.drop_eq_getElem_cons hl), ?_⟩
  unfold bt
  rw [List.getD_eq_getElem?_getD, List.getElem?_eq_getElem hl]
  rfl
theorem p_digits (s : ByteArray) : Pure Tryd.prog 37 [.v (.string s)] (.tup [.v (.string (if allD s then bodyS s else ⟨#[]⟩)), .v (.bool (allD s && minusB s)), .v (.bool (isNumB s))]) := by
  refine enterW Tryd.func37 rfl rfl rfl rfl (fun σ => ?_)
  repeat' (first|(first|(refine jl ?_;first|refine j8 ?_|refine j10 ?_|refine j1 ?_|refine j4 ?_|refine j9 ?_|refine j20 ?_|refine j22 (fun id hid=>?_))|(refine dl ?_;first|refine d1 ?_|refine d4 ?_|refine d18 ?_|refine d21 ?_)|(refine jc ?_;first|refine c1 ?_|refine c2 ?_|refine c5 ?_|refine c6 ?_|refine cq ?_)|refine n1 ?_)|(refine c9 (fun h=>?_) (fun h=>?_)<;>(try simp only [Bool.or_eq_true, Bool.and_eq_true, Bool.or_eq_false_iff, Bool.and_eq_false_iff, Bool.not_eq_true', Bool.not_eq_false', decide_eq_true_eq, decide_eq_false_iff_not, Bool.false_eq_true, Bool.true_eq_false, reduceCtorEq] at h)))
  case' refine_1 =>
    rw [sb0] at h
    have hs : sgnB s = true := (sgnB_iff s).2 (by omega)
    have hb : bodyS s = s.extract 1 s.size := by rw [bodyS, if_pos hs]
    have hm : minusB s = decide (sb s 0 = 45) := by rw [minusB, hs, Bool.true_and, sb0]; exact decide_eq_decide.2 (by omega)
    refine cj_head (fun p : Nat => digB ((bodyS s).data.toList.drop p) = allD s) (fun p => [(27, .it id), (2, .v (.string (bodyS s))), (3, .v (.bool (minusB s)))]) (fun p => σ.set id (.siter (bodyS s) p)) (fun p => (bodyS s).size - p) 0 rfl ⟨rfl, by rw [hb]; rfl, by rw [hm]; rfl, trivial⟩ (by rw [hb]; exact St.le_refl _) (fun p hp => ?_)
  case' refine_2 =>
    rw [sb0] at h
    have hs : sgnB s = false := Bool.eq_false_iff.2 fun e => by have := (sgnB_iff s).1 e; omega
    have hb : bodyS s = s := by rw [bodyS, hs]; rfl
    have hm : minusB s = false := by rw [minusB, hs]; rfl
    refine cj_head (fun p : Nat => digB ((bodyS s).data.toList.drop p) = allD s) (fun p => [(27, .it id), (2, .v (.string (bodyS s))), (3, .v (.bool (minusB s)))]) (fun p => σ.set id (.siter (bodyS s) p)) (fun p => (bodyS s).size - p) 0 rfl ⟨rfl, by rw [hb]; rfl, by rw [hm]; rfl, trivial⟩ (by rw [hb]; exact St.le_refl _) (fun p hp => ?_)
  all_goals
    have hlen := bl_len (bodyS s)
    by_cases hlt : p < (bodyS s).size
  all_goals try rw [List.drop_of_length_le (by omega)] at hp
  all_goals try
    have hne : (bodyS s).data.toList.drop p ≠ [] := fun e => by
      have := congrArg List.length e
      rw [List.length_drop] at this
      simp at this
      omega
    have hstep := digB_step _ hne
    have hdw := Lib.decodeL_width ((bodyS s).data.toList.drop p)
    rw [List.drop_drop, hp] at hstep
  repeat' (first|(first|(refine jl ?_;first|refine j7 ?_|refine j1 ?_|refine j4 ?_|refine j9 ?_|refine j23 ?_|refine j24 ?_)|(refine jc ?_;first|refine c1 ?_|refine c2 ?_|refine c3 ?_|refine c4 ?_|refine c5 ?_|refine c6 ?_|refine c7 ?_|refine c8 ?_)|refine n1 ?_|refine n2 ?_|refine n3 ?_|refine n5 ?_|refine n6 ?_|refine n7 ?_|refine n8 ?_|refine n10 ?_|refine n11 ?_)|(refine c9 (fun h=>?_) (fun h=>?_)<;>(try simp only [Bool.or_eq_true, Bool.and_eq_true, Bool.or_eq_false_iff, Bool.and_eq_false_iff, Bool.not_eq_true', Bool.not_eq_false', decide_eq_true_eq, decide_eq_false_iff_not, Bool.false_eq_true, Bool.true_eq_false, reduceCtorEq] at h)))
  all_goals try rw [decodeL_rune'] at h
  all_goals first
    | (have ha : allD s = false := by rw [hstep, decide_eq_false (by omega), Bool.false_and]
       exact gives (by (try rw [St.set_set]); exact St.le_set _ hid) (fin_three (.wk (Wk.of_eq (by rw [ha]; rfl))) (.wk (Wk.of_eq (by rw [ha]; rfl))) (.wk (Wk.of_eq (by rw [isNumB, ha]; rfl)))))
    | (rw [decide_eq_true (by omega), Bool.true_and] at hstep
       exact nx_thn ⟨p + (Utf8.decode (bodyS s) p).2, by rw [decodeL_rune']; exact hstep.symm, by rw [decodeL_rune']; omega, ⟨rfl, rfl, rfl, trivial⟩, by (try rw [St.set_set]); exact St.le_refl _⟩)
    | (have ha : allD s = true := hp.symm
       refine gives (St.le_set _ hid) (fin_three (.wk (Wk.of_eq (by rw [ha, if_pos rfl]))) (.wk (Wk.of_eq (by rw [ha, Bool.true_and]))) (.wk (Wk.of_eq ?_)))
       rw [isNumB, ha, Bool.true_and, ne_empty])
theorem p_risnum (s : ByteArray) (hz : s.size ≤ 9223372036854775807) : Pure Tryd.prog 44 [.v (.string s)] (.v (.bool (isNumB s))) := by
  refine enterW Tryd.func44 rfl rfl rfl rfl (fun σ => ?_)
  repeat' (first|(first|(refine jl ?_;first|refine j8 ?_|refine j10 ?_|refine j1 ?_|refine j4 ?_|refine j9 ?_|refine j20 ?_|refine j21 ?_)|(refine jc ?_;first|refine c1 ?_|refine c2 ?_|refine c5 ?_|refine c6 ?_)|refine n1 ?_)|(refine c9 (fun h=>?_) (fun h=>?_)<;>(try simp only [Bool.or_eq_true, Bool.and_eq_true, Bool.or_eq_false_iff, Bool.and_eq_false_iff, Bool.not_eq_true', Bool.not_eq_false', decide_eq_true_eq, decide_eq_false_iff_not, Bool.false_eq_true, Bool.true_eq_false, reduceCtorEq] at h)))
  case' refine_1 =>
    rw [sb0] at h
    have hs : sgnB s = true := (sgnB_iff s).2 (by omega)
    have hb : bodyS s = s.extract 1 s.size := by rw [bodyS, if_pos hs]
    have hlz : (bodyS s).size ≤ s.size := by rw [hb, Lib.ext_size]; omega
    refine cj_head (fun i : Nat => digB ((bodyS s).data.toList.drop i) = allD s ∧ i ≤ (bodyS s).size) (fun i => [(0, .v (.string (bodyS s))), (3, .v (.int .i64 i))]) (fun _ => σ) (fun i => (bodyS s).size - i) 0 ⟨rfl, Nat.zero_le _⟩ ⟨by rw [hb]; rfl, rfl, trivial⟩ (St.le_refl _) (fun i hi => ?_)
  case' refine_2 =>
    rw [sb0] at h
    have hs : sgnB s = false := Bool.eq_false_iff.2 fun e => by have := (sgnB_iff s).1 e; omega
    have hb : bodyS s = s := by rw [bodyS, hs]; rfl
    have hlz : (bodyS s).size ≤ s.size := by rw [hb]; exact Nat.le_refl _
    refine cj_head (fun i : Nat => digB ((bodyS s).data.toList.drop i) = allD s ∧ i ≤ (bodyS s).size) (fun i => [(0, .v (.string (bodyS s))), (3, .v (.int .i64 i))]) (fun _ => σ) (fun i => (bodyS s).size - i) 0 ⟨rfl, Nat.zero_le _⟩ ⟨by rw [hb]; rfl, rfl, trivial⟩ (St.le_refl _) (fun i hi => ?_)
  all_goals
    obtain ⟨hi1, hi2⟩ := hi
    have hlen := bl_len (bodyS s)
  repeat' (first|(first|(refine jl ?_;first|refine j7 ?_|refine j1 ?_|refine j4 ?_|refine j6 ?_|refine j9 ?_|refine j18 ?_|refine j20 ?_)|(refine jc ?_;first|refine c1 ?_|refine c2 ?_|refine c5 ?_|refine c6 ?_|refine c7 ?_|refine c8 ?_)|refine n1 ?_|refine n2 ?_|refine n3 ?_|refine n5 ?_|refine n6 ?_|refine n7 ?_|refine n8 ?_|refine n10 ?_|refine n11 ?_)|(refine c9 (fun h=>?_) (fun h=>?_)<;>((try simp only [Bool.or_eq_true, Bool.and_eq_true, Bool.or_eq_false_iff, Bool.and_eq_false_iff, Bool.not_eq_true', Bool.not_eq_false', decide_eq_true_eq, decide_eq_false_iff_not, Bool.false_eq_true, Bool.true_eq_false, reduceCtorEq] at h) <;> (try simp (disch := omega) only [sb_bt, w64, Int.reduceAdd, Int.reduceToNat, Int.toNat_natCast, not_true_eq_false, false_or] at h) <;> (try (exfalso; omega)))))
  all_goals first
    | (obtain ⟨e1, e2⟩ := drop_bt (bodyS s) i (by omega)
       have ha : allD s = false := by
         rw [← hi1, e1]
         unfold digB
         rw [e2, decide_eq_false (by omega), Bool.false_and]
       exact gives (St.le_refl _) (fin_one (.wk (Wk.of_eq (by rw [isNumB, ha]; rfl)))))
    | (obtain ⟨e1, e2⟩ := drop_bt (bodyS s) i (by omega)
       have ha : digB ((bodyS s).data.toList.drop (i + 1)) = allD s := by
         rw [← hi1, e1, digB, e2, decide_eq_true (by omega), Bool.true_and]
       exact nx_thn ⟨i + 1, ⟨ha, by omega⟩, by omega, ⟨rfl, by show some (AV.v (.int .i64 (IntKind.i64.wrap ((i : Int) + 1)))) = _; rw [w64 (by omega) (by omega)]; rfl, trivial⟩, St.le_refl _⟩)
    | (have ha : allD s = true := by rw [← hi1, List.drop_of_length_le (by omega)]; rfl
       exact gives (St.le_refl _) (fin_one (.wk (Wk.of_eq (by rw [isNumB, ha, Bool.true_and]; congr 3; exact propext (by omega))))))
/-- The number that digits tell. -/
def valN (a : Nat) (l : List UInt8) : Nat := l.foldl (fun n b => 10 * n + (b.toNat - 48)) a
theorem valN_nil (a : Nat) : valN a [] = a := by unfold valN; exact List.foldl_nil
theorem valN_cons (a : Nat) (b : UInt8) (l : List UInt8) : valN a (b :: l) = valN (10 * a + (b.toNat - 48)) l := by unfold valN; exact List.foldl_cons ..
theorem valN_le : ∀ (l : List UInt8) (a : Nat), a ≤ valN a l
  | [], a => by rw [valN_nil]; exact Nat.le_refl _
  | b :: l, a => by
    have := valN_le l (10 * a + (b.toNat - 48))
    rw [valN_cons]
    omega
theorem valN_cap (m : Nat) : ∀ (l : List UInt8) (a : Nat), min (valN (min a m) l) m = min (valN a l) m
  | [], a => by rw [valN_nil, valN_nil, Nat.min_assoc, Nat.min_self]
  | b :: l, a => by
    rw [valN_cons, valN_cons]
    by_cases h : a ≤ m
    · rw [Nat.min_eq_left h]
    · rw [Nat.min_eq_right (show m ≤ a by omega)]
      have h1 := valN_le l (10 * m + (b.toNat - 48))
      have h2 := valN_le l (10 * a + (b.toNat - 48))
      rw [Nat.min_eq_right (show m ≤ valN (10 * m + (b.toNat - 48)) l by omega), Nat.min_eq_right (show m ≤ valN (10 * a + (b.toNat - 48)) l by omega)]
theorem digB_get (s : ByteArray) (i k : Nat) (h : digB (s.data.toList.drop k) = true) (h1 : k ≤ i) (h2 : i < s.size) : dig (bt s i) := by
  have key : ∀ (n k : Nat), digB (s.data.toList.drop k) = true → k + n < s.size → dig (bt s (k + n)) := by
    intro n
    induction n with
    | zero =>
      intro k h hlt
      obtain ⟨e1, e2⟩ := drop_bt s k (by omega)
      rw [e1, digB, e2] at h
      simp only [Bool.and_eq_true, decide_eq_true_eq] at h
      exact h.1
    | succ n ih =>
      intro k h hlt
      obtain ⟨e1, e2⟩ := drop_bt s k (by omega)
      rw [e1, digB] at h
      simp only [Bool.and_eq_true] at h
      have := ih (k + 1) h.2 (by omega)
      rwa [show k + 1 + n = k + (n + 1) by omega] at this
  have := key (i - k) k h (by omega)
  rwa [show k + (i - k) = i by omega] at this
def numOf (s : ByteArray) : Nat := valN 0 (bodyS s).data.toList
end Go.Proofs.YtbpoeggmpjepfaaDoor.Ab

/- Values: numbers read; what may be. -/
set_option linter.unusedVariables false
set_option linter.unusedSimpArgs false
set_option maxRecDepth 20000
namespace Go.Proofs.YtbpoeggmpjepfaaDoor.Ab
open Go
attribute [local irreducible] thn inb endR CJ LJ OpJ DJ

/-! ### The reference's number -/
def capN : Nat := 1099511627777
/-! ### Check -/
def nilS : ByteArray := ⟨#[110, 105, 108]⟩
def checkE (k n : Int) (s : ByteArray) : Int :=
  if 2 < k then 9 else if (¬ k = 1 ∧ ¬ n = 0) ∨ (¬ k = 2 ∧ ¬ s = ⟨#[]⟩) then 4 else if n < -1099511627776 ∨ 1099511627776 < n then 12 else if k = 2 ∧ (isNumB s = true ∨ wordB s = false ∨ s = nilS) then 6 else 0
theorem St.le_new {σ : St} {a : Nat} {x : AObj} (ha : σ a = none) : σ.le (σ.set a x) := St.le_set _ ha
theorem p_check (k n : Int) (s : ByteArray) : Pure Tryd.prog 20 [vv k n s] (.v (.int .i64 (checkE k n s))) := by
  refine enterW Tryd.func20 rfl rfl rfl rfl (fun σ => ?_)
  repeat' (first|(first|(refine jl ?_;first|refine j7 ?_|refine j8 ?_|refine j1 ?_|refine j4 ?_|refine j9 ?_|refine j12 (fun id hid=>?_)|refine j14 ?_|refine j16 ?_|refine jp (p_digits _) ?_|refine jcq (hp:=fun hc=>p_word _) ?_)|(refine jc ?_;first|refine c1 ?_|refine c2 ?_|refine c3 ?_|refine c5 ?_|refine c6 ?_|refine c7 ?_)|refine n1 ?_|refine n2 ?_|refine n6 ?_|refine n10 ?_|refine n11 ?_)|(refine c9 (fun h=>?_) (fun h=>?_)<;>(try simp only [Bool.or_eq_true, Bool.and_eq_true, Bool.or_eq_false_iff, Bool.and_eq_false_iff, Bool.not_eq_true', Bool.not_eq_false', decide_eq_true_eq, decide_eq_false_iff_not, Bool.false_eq_true, Bool.true_eq_false, reduceCtorEq] at h)))
  all_goals refine gives (St.le_set _ hid) (fin_one (.wk (Wk.of_eq ?_)))
  all_goals simp only [ofLeaf, AV.v.injEq, Value.int.injEq, true_and]
  all_goals unfold checkE nilS
  all_goals grind
theorem p_rcheck (k n : Int) (s : ByteArray) (hz : s.size ≤ 9223372036854775807) : Pure Tryd.prog 23 [vv k n s] (.v (.int .i64 (checkE k n s))) := by
  refine enterW Tryd.func23 rfl rfl rfl rfl (fun σ => ?_)
  repeat' (first|(first|(refine jl ?_;first|refine j7 ?_|refine j8 ?_|refine j10 ?_|refine j11 ?_|refine j1 ?_|refine j4 ?_|refine j9 ?_|refine j12 (fun id hid=>?_)|refine j14 ?_|refine j16 ?_|refine jcq (hp:=fun hc=>p_risnum _ hz) ?_|refine jcq (hp:=fun hc=>p_rword _) ?_)|(refine jc ?_;first|refine c1 ?_|refine c2 ?_|refine c5 ?_|refine c6 ?_|refine c7 ?_)|refine n1 ?_|refine n2 ?_|refine n6 ?_|refine n10 ?_|refine n11 ?_)|(refine c9 (fun h=>?_) (fun h=>?_)<;>(try simp only [Bool.or_eq_true, Bool.and_eq_true, Bool.or_eq_false_iff, Bool.and_eq_false_iff, Bool.not_eq_true', Bool.not_eq_false', decide_eq_true_eq, decide_eq_false_iff_not, Bool.false_eq_true, Bool.true_eq_false, reduceCtorEq] at h)))
  all_goals refine gives (St.le_set _ hid) (fin_one (.wk (Wk.of_eq ?_)))
  all_goals simp only [ofLeaf, AV.v.injEq, Value.int.injEq, true_and]
  all_goals unfold checkE nilS
  all_goals grind
end Go.Proofs.YtbpoeggmpjepfaaDoor.Ab

/- Classes and facts: data, and what is found. -/
set_option linter.unusedVariables false
set_option linter.unusedSimpArgs false
set_option maxRecDepth 20000
namespace Go.Proofs.YtbpoeggmpjepfaaDoor.Ab
open Go
attribute [local irreducible] thn inb endR CJ LJ OpJ DJ

def noS : ByteArray := ⟨#[]⟩
def noC : Cls := ⟨⟨#[]⟩, []⟩
def noV : Vl := ⟨0, 0, ⟨#[]⟩⟩
def isC (nm : ByteArray) (c : Cls) : Bool := decide (c.name = nm)
def isS (nm : ByteArray) (s : ByteArray) : Bool := decide (s = nm)
def isB (nm : ByteArray) (b : Bd) : Bool := decide (b.name = nm)
def findC (nm : ByteArray) (l : List Cls) : Option Cls := l.find? (isC nm)
def attrI (nm : ByteArray) (l : List ByteArray) : Int := idxG (isS nm) l 0
def attrN (nm : ByteArray) (l : List ByteArray) : Int := if attrI nm l < 0 then 0 else attrI nm l
def attrB (nm : ByteArray) (l : List ByteArray) : Bool := decide (0 ≤ attrI nm l)
theorem q_index_classes {σ : St} {f : FuncId} {caps : List AV} (g : Cls → Bool) (hent : entered Tryd.prog f = true) (nl : Option Bool) (full : Bool) (l : List Cls) (hf : ∀ x : Cls, ACalls Tryd.prog f ([.agg (cc x)] ++ caps) σ (fun e σ' => e = .ret (.v (.bool (g x))) ∧ σ' = σ)) : ACalls Tryd.prog 77 [.sl nl full 2 (l.map cc), .fn f caps] σ (fun e σ' => e = .ret (.v (.int .i64 (idxG g l 0))) ∧ σ' = σ) := by
  refine enterS Tryd.func77 rfl rfl rfl rfl ?_
  refine cj_len 0 (fun hm => ?_)
  have hn : (l.map cc).length = l.length := List.length_map ..
  repeat (first|(refine jl ?_;first|refine j1 ?_|refine j4 ?_)|(refine jc ?_;first|refine c1 ?_|refine c2 ?_|refine c5 ?_))
  refine cj_fors (fun i : Nat => idxG g (l.drop i) i = idxG g l 0) (fun i => [(8, .v (.int .i64 i))]) (fun i => l.length - i) 0 rfl ⟨⟨_, rfl, fun _ _ h => h⟩, trivial⟩ (fun i hi => ?_)
  rcases hd : l.drop i with _ | ⟨x, r⟩
  · have h0 := dropn hd
    rw [hd, idxG] at hi
    repeat' (first|(first|(refine jl ?_;first|refine j1 ?_|refine j4 ?_)|(refine jc ?_;first|refine c1 ?_|refine c2 ?_|refine c7 ?_|refine c8 ?_)|refine n1 ?_|refine n3 ?_|refine n7 ?_|refine n8 ?_|refine n11 ?_)|(refine c9 (fun h=>?_) (fun h=>?_)<;>((try simp only [Bool.or_eq_true, Bool.and_eq_true, Bool.or_eq_false_iff, Bool.and_eq_false_iff, Bool.not_eq_true', Bool.not_eq_false', decide_eq_true_eq, decide_eq_false_iff_not, Bool.false_eq_true, Bool.true_eq_false, reduceCtorEq] at h) <;> (try simp (disch := omega) only [sb_bt, w64, Int.reduceAdd, Int.reduceToNat, Int.toNat_natCast, not_true_eq_false, false_or] at h) <;> (try (exfalso; omega)))))
    rw [← hi]
    exact ge rfl
  · obtain ⟨h1, h2, h3⟩ := dropc hd
    have h4 := get_map cc h3
    rw [hd, idxG] at hi
    repeat' (first|(first|(refine jl ?_;first|refine jbl ?_|refine j1 ?_|refine j4 ?_|refine j6 ?_|refine ji1 ?_|refine jcs hent (hf x) ?_)|(refine jc ?_;first|refine c1 ?_|refine c2 ?_|refine c5 ?_|refine c6 ?_|refine c7 ?_)|refine n1 ?_|refine n2 ?_|refine n5 ?_|refine n6 ?_|refine n10 ?_|refine n11 ?_)|(refine c9 (fun h=>?_) (fun h=>?_)<;>((try simp only [Bool.or_eq_true, Bool.and_eq_true, Bool.or_eq_false_iff, Bool.and_eq_false_iff, Bool.not_eq_true', Bool.not_eq_false', decide_eq_true_eq, decide_eq_false_iff_not, Bool.false_eq_true, Bool.true_eq_false, reduceCtorEq] at h) <;> (try simp (disch := omega) only [sb_bt, w64, Int.reduceAdd, Int.reduceToNat, Int.toNat_natCast, not_true_eq_false, false_or] at h) <;> (try (exfalso; omega)))))
    · rw [if_pos h] at hi
      rw [← hi]
      exact ge rfl
    · rw [if_neg (by rw [h]; simp), ← h2] at hi
      exact nx_for (i + 1) hi (by omega) ⟨⟨_, rfl, wk1 (by omega)⟩, trivial⟩
theorem q_index_bounds {σ : St} {f : FuncId} {caps : List AV} (g : Bd → Bool) (hent : entered Tryd.prog f = true) (nl : Option Bool) (full : Bool) (l : List Bd) (hf : ∀ x : Bd, ACalls Tryd.prog f ([.agg (bc x)] ++ caps) σ (fun e σ' => e = .ret (.v (.bool (g x))) ∧ σ' = σ)) : ACalls Tryd.prog 27 [.sl nl full 4 (l.map bc), .fn f caps] σ (fun e σ' => e = .ret (.v (.int .i64 (idxG g l 0))) ∧ σ' = σ) := by
  refine enterS Tryd.func27 rfl rfl rfl rfl ?_
  refine cj_len 0 (fun hm => ?_)
  have hn : (l.map bc).length = l.length := List.length_map ..
  repeat (first|(refine jl ?_;first|refine j1 ?_|refine j4 ?_)|(refine jc ?_;first|refine c1 ?_|refine c2 ?_|refine c5 ?_))
  refine cj_fors (fun i : Nat => idxG g (l.drop i) i = idxG g l 0) (fun i => [(8, .v (.int .i64 i))]) (fun i => l.length - i) 0 rfl ⟨⟨_, rfl, fun _ _ h => h⟩, trivial⟩ (fun i hi => ?_)
  rcases hd : l.drop i with _ | ⟨x, r⟩
  · have h0 := dropn hd
    rw [hd, idxG] at hi
    repeat' (first|(first|(refine jl ?_;first|refine j1 ?_|refine j4 ?_)|(refine jc ?_;first|refine c1 ?_|refine c2 ?_|refine c7 ?_|refine c8 ?_)|refine n1 ?_|refine n3 ?_|refine n7 ?_|refine n8 ?_|refine n11 ?_)|(refine c9 (fun h=>?_) (fun h=>?_)<;>((try simp only [Bool.or_eq_true, Bool.and_eq_true, Bool.or_eq_false_iff, Bool.and_eq_false_iff, Bool.not_eq_true', Bool.not_eq_false', decide_eq_true_eq, decide_eq_false_iff_not, Bool.false_eq_true, Bool.true_eq_false, reduceCtorEq] at h) <;> (try simp (disch := omega) only [sb_bt, w64, Int.reduceAdd, Int.reduceToNat, Int.toNat_natCast, not_true_eq_false, false_or] at h) <;> (try (exfalso; omega)))))
    rw [← hi]
    exact ge rfl
  · obtain ⟨h1, h2, h3⟩ := dropc hd
    have h4 := get_map bc h3
    rw [hd, idxG] at hi
    repeat' (first|(first|(refine jl ?_;first|refine jbl ?_|refine j1 ?_|refine j4 ?_|refine j6 ?_|refine ji1 ?_|refine jcs hent (hf x) ?_)|(refine jc ?_;first|refine c1 ?_|refine c2 ?_|refine c5 ?_|refine c6 ?_|refine c7 ?_)|refine n1 ?_|refine n2 ?_|refine n5 ?_|refine n6 ?_|refine n10 ?_|refine n11 ?_)|(refine c9 (fun h=>?_) (fun h=>?_)<;>((try simp only [Bool.or_eq_true, Bool.and_eq_true, Bool.or_eq_false_iff, Bool.and_eq_false_iff, Bool.not_eq_true', Bool.not_eq_false', decide_eq_true_eq, decide_eq_false_iff_not, Bool.false_eq_true, Bool.true_eq_false, reduceCtorEq] at h) <;> (try simp (disch := omega) only [sb_bt, w64, Int.reduceAdd, Int.reduceToNat, Int.toNat_natCast, not_true_eq_false, false_or] at h) <;> (try (exfalso; omega)))))
    · rw [if_pos h] at hi
      rw [← hi]
      exact ge rfl
    · rw [if_neg (by rw [h]; simp), ← h2] at hi
      exact nx_for (i + 1) hi (by omega) ⟨⟨_, rfl, wk1 (by omega)⟩, trivial⟩
theorem p_indexs (nl : Option Bool) (full : Bool) (l : List ByteArray) (nm : ByteArray) : Pure Tryd.prog 80 [.sl nl full 1 (l.map str1), .v (.string nm)] (.v (.int .i64 (attrI nm l))) := by
  refine enterW Tryd.func80 rfl rfl rfl rfl (fun σ => ?_)
  refine cj_len 0 (fun hm => ?_)
  have hn : (l.map str1).length = l.length := List.length_map ..
  repeat (first|(refine jl ?_;first|refine j1 ?_|refine j4 ?_)|(refine jc ?_;first|refine c1 ?_|refine c2 ?_|refine c5 ?_))
  refine cj_fors (fun i : Nat => idxG (isS nm) (l.drop i) i = attrI nm l) (fun i => [(8, .v (.int .i64 i))]) (fun i => l.length - i) 0 rfl ⟨⟨_, rfl, fun _ _ h => h⟩, trivial⟩ (fun i hi => ?_)
  rcases hd : l.drop i with _ | ⟨x, r⟩
  · have h0 := dropn hd
    rw [hd, idxG] at hi
    repeat' (first|(first|(refine jl ?_;first|refine j1 ?_|refine j4 ?_)|(refine jc ?_;first|refine c1 ?_|refine c2 ?_|refine c7 ?_|refine c8 ?_)|refine n1 ?_|refine n3 ?_|refine n7 ?_|refine n8 ?_|refine n11 ?_)|(refine c9 (fun h=>?_) (fun h=>?_)<;>((try simp only [Bool.or_eq_true, Bool.and_eq_true, Bool.or_eq_false_iff, Bool.and_eq_false_iff, Bool.not_eq_true', Bool.not_eq_false', decide_eq_true_eq, decide_eq_false_iff_not, Bool.false_eq_true, Bool.true_eq_false, reduceCtorEq] at h) <;> (try simp (disch := omega) only [sb_bt, w64, Int.reduceAdd, Int.reduceToNat, Int.toNat_natCast, not_true_eq_false, false_or] at h) <;> (try (exfalso; omega)))))
    rw [← hi]
    exact ge rfl
  · obtain ⟨h1, h2, h3⟩ := dropc hd
    have h4 := get_map str1 h3
    rw [hd, idxG] at hi
    repeat' (first|(first|(refine jl ?_;first|refine jbl ?_|refine j1 ?_|refine j4 ?_|refine j6 ?_|refine ji1 ?_)|(refine jc ?_;first|refine c1 ?_|refine c2 ?_|refine c5 ?_|refine c6 ?_|refine c7 ?_)|refine n1 ?_|refine n2 ?_|refine n5 ?_|refine n6 ?_|refine n10 ?_|refine n11 ?_)|(refine c9 (fun h=>?_) (fun h=>?_)<;>((try simp only [Bool.or_eq_true, Bool.and_eq_true, Bool.or_eq_false_iff, Bool.and_eq_false_iff, Bool.not_eq_true', Bool.not_eq_false', decide_eq_true_eq, decide_eq_false_iff_not, Bool.false_eq_true, Bool.true_eq_false, reduceCtorEq] at h) <;> (try simp (disch := omega) only [sb_bt, w64, Int.reduceAdd, Int.reduceToNat, Int.toNat_natCast, not_true_eq_false, false_or] at h) <;> (try (exfalso; omega)))))
    · rw [if_pos (by simp [isS, h])] at hi
      rw [← hi]
      exact ge rfl
    · rw [if_neg (by simp [isS, Ne.symm h]), ← h2] at hi
      exact nx_for (i + 1) hi (by omega) ⟨⟨_, rfl, wk1 (by omega)⟩, trivial⟩
theorem p_attr (c : Cls) (nm : ByteArray) : Pure Tryd.prog 66 [.agg (cc c), .v (.string nm)] (.tup [.v (.int .i64 (attrN nm c.attrs)), .v (.bool (attrB nm c.attrs))]) := by
  refine enterW Tryd.func66 rfl rfl rfl rfl (fun σ => ?_)
  repeat (first|(refine jl ?_;first|refine j1 ?_|refine j4 ?_|refine j12 (fun id hid=>?_)|refine j14 ?_|refine jp (p_indexs _ _ _ _) ?_)|(refine jc ?_;first|refine c1 ?_|refine c2 ?_|refine c7 ?_)|refine n11 ?_)
  refine gvs (fin_two (.wk (Wk.of_eq ?_)) (Fin.refl _ _ _))
  rw [attrN]
theorem q_find1 {σ : St} {id : Nat} {nm : ByteArray} (hid : σ id = some (.row 1 9 [[.v (.string nm)]])) (x : Cls) : ACalls Tryd.prog 78 [.agg (cc x), .ptr id 1 0 0] σ (fun e σ' => e = .ret (.v (.bool (isC nm x))) ∧ σ' = σ) := by
  refine enterS Tryd.func78 rfl rfl rfl rfl ?_
  repeat (first|(refine jl ?_;first|refine j1 ?_|refine j4 ?_|refine j12 (fun id hid=>?_)|refine j14 ?_)|(refine jc ?_;first|refine c1 ?_|refine c2 ?_|refine c7 ?_)|refine n11 ?_)
  exact ge rfl
theorem p_find (nl : Option Bool) (full : Bool) (l : List Cls) (nm : ByteArray) : Pure Tryd.prog 57 [.sl nl full 2 (l.map cc), .v (.string nm)] (.tup [.agg (cc ((findC nm l).getD noC)), .v (.bool (findC nm l).isSome)]) := by
  refine enterW Tryd.func57 rfl rfl rfl rfl (fun σ => ?_)
  repeat (first|(refine jl ?_;first|refine j1 ?_|refine j4 ?_|refine j12 (fun id hid=>?_)|refine j13 (fun id hid=>?_))|(refine jc ?_;first|refine c1 ?_|refine c2 ?_))
  rename_i b hb
  have h5 := idxG_lt (isC nm) l 0
  have h6 := idxG_get (isC nm) l 0
  repeat' (first|(first|(refine jl ?_;first|refine jb ?_|refine j1 ?_|refine j4 ?_|refine j17t ?_|refine lj_to rfl rfl rfl (q_index_classes (isC nm) rfl nl full l (fun x => q_find1 (St.set_ne2 (St.nn0 hid) (St.set_same _ _ _)) x)) ?_)|(refine jc ?_;first|refine c1 ?_|refine c2 ?_|refine c6 ?_|refine c7 ?_)|refine n1 ?_|refine n2 ?_|refine n15 ?_)|(refine c9 (fun h=>?_) (fun h=>?_)<;>(try simp only [Bool.or_eq_true, Bool.and_eq_true, Bool.or_eq_false_iff, Bool.and_eq_false_iff, Bool.not_eq_true', Bool.not_eq_false', decide_eq_true_eq, decide_eq_false_iff_not, Bool.false_eq_true, Bool.true_eq_false, reduceCtorEq] at h)))
  · have : findC nm l = none := by rw [findC, List.find?_eq_none]; intro x hx; simp [h5.1 h x hx]
    rw [this]
    exact gvs (fin_two (.wk (Wk.agg ⟨Wk.refl _, Wk.sl _ _ _ _, trivial⟩)) (Fin.refl _ _ _))
  · obtain ⟨j, x, e1, e2, e3, e4⟩ := h6 (by omega)
    rw [Nat.zero_add] at e1
    have h7 := get_map cc e2
    rw [e1]
    repeat (first|(refine jl ?_;first|refine jbl ?_|refine j1 ?_|refine j4 ?_|refine j17t ?_|refine ji1 ?_)|(refine jc ?_;first|refine c7 ?_)|refine n15 ?_)
    have : findC nm l = some x := e4
    rw [this]
    exact ge rfl
end Go.Proofs.YtbpoeggmpjepfaaDoor.Ab

/- Values: a number's text. -/
set_option linter.unusedVariables false
set_option linter.unusedSimpArgs false
set_option maxRecDepth 20000
namespace Go.Proofs.YtbpoeggmpjepfaaDoor.Ab
open Go
attribute [local irreducible] thn inb endR CJ LJ OpJ DJ

def dch (n : Nat) : UInt8 := UInt8.ofNat (48 + n % 10)
theorem dch_toNat (n : Nat) : (dch n).toNat = 48 + n % 10 := by
  unfold dch
  rw [UInt8.toNat_ofNat']
  omega
/-- A number's digits. -/
def decF : Nat → Nat → List UInt8
  | 0, _ => []
  | f + 1, n => if n < 10 then [dch n] else decF f (n / 10) ++ [dch n]
theorem decF_fuel : ∀ (f g n : Nat), n < 10 ^ f → n < 10 ^ g → 0 < f → 0 < g → decF f n = decF g n
  | 0, _, _, _, _, h, _ => absurd h (by omega)
  | _, 0, _, _, _, _, h => absurd h (by omega)
  | f + 1, g + 1, n, h1, h2, _, _ => by
    unfold decF
    by_cases h : n < 10
    · rw [if_pos h, if_pos h]
    · rw [if_neg h, if_neg h]
      have hf : 0 < f := by
        rcases Nat.eq_zero_or_pos f with h0 | h0
        · subst h0; simp at h1; omega
        · exact h0
      have hg : 0 < g := by
        rcases Nat.eq_zero_or_pos g with h0 | h0
        · subst h0; simp at h2; omega
        · exact h0
      rw [decF_fuel f g (n / 10) (by rw [Nat.pow_succ] at h1; omega) (by rw [Nat.pow_succ] at h2; omega) hf hg]
def dec (n : Nat) : List UInt8 := decF 19 n
theorem dec_small (n : Nat) (h : n < 10) : dec n = [dch n] := by
  show (if n < 10 then _ else _) = _
  rw [if_pos h]
theorem dec_step (n : Nat) (h : 10 ≤ n) (h' : n < 10000000000000000000) : dec n = dec (n / 10) ++ [dch n] := by
  show (if n < 10 then _ else _) = _
  rw [if_neg (by omega), decF_fuel 18 19 (n / 10) (by simp only [Nat.reducePow]; omega) (by simp only [Nat.reducePow]; omega) (by omega) (by omega)]
  rfl
theorem decF_len : ∀ (f n : Nat), (decF f n).length ≤ f
  | 0, _ => Nat.le_refl _
  | f + 1, n => by
    unfold decF
    split
    · simp
    · have := decF_len f (n / 10)
      simp only [List.length_append, List.length_cons, List.length_nil]
      omega
theorem dec_len (n : Nat) : (dec n).length ≤ 19 := decF_len 19 n
/-- What the loop still lays ahead. -/
def outD (m : Nat) (acc : List UInt8) : List UInt8 := if m = 0 ∧ acc ≠ [] then acc else dec m ++ acc
theorem outD_step (m : Nat) (acc : List UInt8) (h : 0 < m ∨ acc = []) (hm : m < 10000000000000000000) : outD (m / 10) (dch m :: acc) = outD m acc := by
  unfold outD
  rw [if_neg (c := m = 0 ∧ acc ≠ []) (by rintro ⟨h1, h2⟩; rcases h with h | h; omega; exact h2 h)]
  by_cases h10 : m < 10
  · rw [if_pos ⟨by omega, by simp⟩, dec_small m h10]; rfl
  · rw [if_neg (by rintro ⟨h1, _⟩; omega), dec_step m (by omega) hm]
    simp
theorem outD_end (acc : List UInt8) (h : acc ≠ []) : outD 0 acc = acc := by rw [outD, if_pos ⟨rfl, h⟩]
theorem outD_nil (m : Nat) : outD m [] = dec m := by
  rw [outD, if_neg (by simp), List.append_nil]
theorem outD_len (m : Nat) (acc : List UInt8) : acc.length ≤ (outD m acc).length := by
  unfold outD
  split
  · exact Nat.le_refl _
  · simp
def toldS (n : Int) : ByteArray := if n < 0 then ⟨(45 :: dec (-n).toNat).toArray⟩ else ⟨(dec n.toNat).toArray⟩
theorem u8_add (m : Nat) : IntKind.u8.wrap (IntKind.i64.wrap (48 + (m : Int).tmod 10)) = ((dch m).toNat : Int) := by
  have h1 : (m : Int).tmod 10 = ((m % 10 : Nat) : Int) := by rw [Int.tmod_eq_emod_of_nonneg (by omega)]; rfl
  rw [h1, w64 (by omega) (by omega), wu8 (by omega) (by omega), dch_toNat]
  omega
theorem p_told (n : Int) (hn : -1099511627776 ≤ n ∧ n ≤ 1099511627776) : Pure Tryd.prog 88 [.v (.int .i64 n)] (.v (.string (toldS n))) := by
  refine enterW Tryd.func88 rfl rfl rfl rfl (fun σ => ?_)
  obtain ⟨m0, mi, hm0, hmi, hlt⟩ : ∃ (m0 : Nat) (mi : Bool), (if mi then (IntKind.i64.wrap (0 - n)) else n) = (m0 : Int) ∧ decide (n < 0) = mi ∧ m0 ≤ 1099511627776 ∧ toldS n = (if mi then ⟨(45 :: dec m0).toArray⟩ else ⟨(dec m0).toArray⟩) := by
    by_cases h : n < 0
    · refine ⟨(-n).toNat, true, ?_, decide_eq_true h, by omega, ?_⟩
      · rw [if_pos rfl, w64 (by omega) (by omega)]; omega
      · rw [toldS, if_pos h, if_pos rfl]
    · refine ⟨n.toNat, false, ?_, decide_eq_false h, by omega, ?_⟩
      · rw [if_neg (by simp)]; omega
      · rw [toldS, if_neg h, if_neg (by simp)]
  obtain ⟨hm1, hm2⟩ := hlt
  rw [hm2]
  repeat (first|(refine jl ?_;first|refine j1 ?_|refine j4 ?_)|(refine jc ?_;first|refine c1 ?_|refine c2 ?_))
  rw [hmi]
  repeat' (first|(first|(refine jl ?_;first|refine j1 ?_|refine j4 ?_)|(refine jc ?_;first|refine c1 ?_|refine c2 ?_|refine c5 ?_|refine c6 ?_)|refine n1 ?_)|(refine c9 (fun h=>?_) (fun h=>?_)<;>(try simp only [Bool.or_eq_true, Bool.and_eq_true, Bool.or_eq_false_iff, Bool.and_eq_false_iff, Bool.not_eq_true', Bool.not_eq_false', decide_eq_true_eq, decide_eq_false_iff_not, Bool.false_eq_true, Bool.true_eq_false, reduceCtorEq] at h)))
  all_goals
    rw [h] at hm0
    simp only [Bool.false_eq_true, if_true, if_false] at hm0
    rw [hm0]
    refine cj_headW (fun x : Nat × List UInt8 => x.1 ≤ 1099511627776 ∧ outD x.1 x.2 = dec m0) (fun x => [(0, .v (.int .i64 x.1)), (4, .sl none false 1 (bys x.2)), (3, .v (.bool mi))]) (fun _ => σ) (fun x => 2 * x.1 + (if x.2 = [] then 1 else 0)) (m0, []) ⟨hm1, outD_nil m0⟩ ⟨⟨_, rfl, Wk.refl _⟩, ⟨_, rfl, Wk.sl _ _ _ _⟩, ⟨_, rfl, Wk.refl _⟩, trivial⟩ (St.le_refl _) (fun x hx => ?_)
    obtain ⟨m, acc⟩ := x
    obtain ⟨hx1, hx2⟩ := hx
    simp only at hx1 hx2
    have hlen : acc.length ≤ 19 := Nat.le_trans (outD_len m acc) (by rw [hx2]; exact dec_len m0)
    clear h
    dsimp only
  repeat' (first|(first|(refine jl ?_;first|refine j7 ?_|refine j1 ?_|refine j4 ?_|refine j9 ?_|refine j25 ?_|refine j26 ?_)|(refine jc ?_;first|refine c1 ?_|refine c2 ?_|refine c5 ?_|refine c6 ?_|refine c7 ?_|refine c8 ?_)|refine n1 ?_|refine n2 ?_|refine n3 ?_|refine n7 ?_|refine n8 ?_|refine n11 ?_)|(refine c9 (fun h=>?_) (fun h=>?_)<;>(try simp only [Bool.or_eq_true, Bool.and_eq_true, Bool.or_eq_false_iff, Bool.and_eq_false_iff, Bool.not_eq_true', Bool.not_eq_false', decide_eq_true_eq, decide_eq_false_iff_not, Bool.false_eq_true, Bool.true_eq_false, reduceCtorEq] at h)))
  all_goals try rw [length_bys] at *
  all_goals try
    have hm0' : m = 0 := by omega
    have hne0 : acc.length ≠ 0 := by omega
    have hne : acc ≠ [] := fun e => hne0 (by rw [e]; rfl)
    rw [hm0', outD_end acc hne] at hx2
    rw [h, ← hx2]
    exact gives (St.le_refl _) (fin_one (.wk (Wk.of_eq rfl)))
  all_goals
    rw [u8_add]
    refine lj_v rfl (fun R hR => opj_lit (sz := 1) (zs := [.v (.int .u8 0)]) (out := [.v (.int .u8 (dch m).toNat)]) rfl rfl rfl rfl rfl (by decide) (by decide) rfl rfl rfl hR) ?_
    repeat (first|(refine jl ?_;first|refine j1 ?_))
    have hst : outD (m / 10) (dch m :: acc) = dec m0 := by
      rw [← hx2]
      refine outD_step m acc ?_ (by omega)
      rcases h with h | h
      · exact .inl (by omega)
      · exact .inr (List.eq_nil_of_length_eq_zero (by omega))
    have hq : IntKind.i64.wrap ((m : Int).tdiv 10) = ((m / 10 : Nat) : Int) := by
      rw [Int.tdiv_eq_ediv_of_nonneg (by omega), w64 (by omega) (by omega)]; rfl
    refine lj_ite rfl trivial (fun R hR0 hR1 => opj_append_sl (sz := 1) (by_ := 1) (news := bys acc) rfl rfl ⟨rfl, rfl, rfl, by decide⟩ rfl rfl (.inl rfl) rfl rfl (by simp [length_bys, chunk]; omega) (by decide) hR0 hR1) (fun h0 => ?_) (fun h0 => ?_)
  all_goals
    repeat (first|(refine jl ?_;first|refine j1 ?_|refine j4 ?_|refine j6 ?_)|(refine jc ?_;first|refine c2 ?_)|refine n10 ?_)
    rw [hq]
    refine nx_thn ⟨(m / 10, dch m :: acc), ⟨by simp only; omega, hst⟩, ?_, ⟨⟨_, rfl, Wk.refl _⟩, ⟨_, rfl, ?_⟩, ⟨_, rfl, Wk.refl _⟩, trivial⟩, St.le_refl _⟩
  all_goals first
    | (simp only [reduceCtorEq, if_false]
       rcases h with h | h
       · split <;> omega
       · rw [if_pos (List.eq_nil_of_length_eq_zero (by omega))]; omega)
    | (have h1 : acc = [] := by
         cases acc with
         | nil => rfl
         | cons a l => simp [bys] at h0
       subst h1
       exact Wk.sl _ _ _ _)
    | exact Wk.sl _ _ _ _
theorem toldS_size (n : Int) : (toldS n).size ≤ 20 := by
  unfold toldS
  split
  · rw [bsz, List.length_cons]; have := dec_len (-n).toNat; omega
  · rw [bsz]; have := dec_len n.toNat; omega
/-! ### The reference -/
def digitsS : ByteArray := ⟨#[48, 49, 50, 51, 52, 53, 54, 55, 56, 57]⟩
theorem digitsS_at (k : Nat) (h : k < 10) : digitsS.extract k (k + 1) = ⟨#[UInt8.ofNat (48 + k)]⟩ := by
  have : k = 0 ∨ k = 1 ∨ k = 2 ∨ k = 3 ∨ k = 4 ∨ k = 5 ∨ k = 6 ∨ k = 7 ∨ k = 8 ∨ k = 9 := by omega
  rcases this with rfl | rfl | rfl | rfl | rfl | rfl | rfl | rfl | rfl | rfl <;> decide
theorem bconcat (a b : List UInt8) : (⟨a.toArray⟩ : ByteArray) ++ ⟨b.toArray⟩ = ⟨(a ++ b).toArray⟩ := by
  apply ByteArray.ext
  rw [ByteArray.data_append]
  exact List.append_toArray ..
end Go.Proofs.YtbpoeggmpjepfaaDoor.Ab

/- Values: texts, and what texts tell. -/
set_option linter.unusedVariables false
set_option linter.unusedSimpArgs false
set_option maxRecDepth 20000
namespace Go.Proofs.YtbpoeggmpjepfaaDoor.Ab
open Go
attribute [local irreducible] thn inb endR CJ LJ OpJ DJ

def textV (k n : Int) (s : ByteArray) : ByteArray := if ¬ checkE k n s = 0 then nilS else if k = 1 then toldS n else if k = 2 then s else nilS
theorem checkE_ok {k n : Int} {s : ByteArray} (h : checkE k n s = 0) : (-1099511627776 ≤ n ∧ n ≤ 1099511627776) := by
  unfold checkE at h
  grind
theorem p_textv (k n : Int) (s : ByteArray) : Pure Tryd.prog 75 [vv k n s] (.v (.string (textV k n s))) := by
  refine enterW Tryd.func75 rfl rfl rfl rfl (fun σ => ?_)
  repeat' (first|(first|(refine jl ?_;first|refine j1 ?_|refine j4 ?_|refine j12 (fun id hid=>?_)|refine j14 ?_|refine jp (p_check _ _ _) ?_|refine jp (p_told n (checkE_ok (by omega))) ?_)|(refine jc ?_;first|refine c1 ?_|refine c2 ?_|refine c5 ?_|refine c6 ?_|refine c7 ?_)|refine n1 ?_|refine n2 ?_|refine n6 ?_|refine n10 ?_|refine n11 ?_)|(refine c9 (fun h=>?_) (fun h=>?_)<;>(try simp only [Bool.or_eq_true, Bool.and_eq_true, Bool.or_eq_false_iff, Bool.and_eq_false_iff, Bool.not_eq_true', Bool.not_eq_false', decide_eq_true_eq, decide_eq_false_iff_not, Bool.false_eq_true, Bool.true_eq_false, reduceCtorEq] at h)))
  all_goals refine gives (St.le_set _ hid) (fin_one (.wk (Wk.of_eq ?_)))
  all_goals simp only [ofLeaf, AV.v.injEq, Value.string.injEq, true_and]
  all_goals unfold textV nilS
  all_goals grind
def parseV (s : ByteArray) : Int × Int × ByteArray × Int :=
  if wordB s = false then (0, 0, ⟨#[]⟩, 6) else if s = nilS then (0, 0, ⟨#[]⟩, 0) else if isNumB s = false then (2, 0, s, 0)
  else if 1099511627776 < numOf s then (0, 0, ⟨#[]⟩, 12) else (1, if minusB s then -(numOf s : Int) else numOf s, ⟨#[]⟩, 0)
theorem wordB_size {s : ByteArray} (h : wordB s = true) : s.size ≤ 24 := by
  unfold wordB at h
  simp only [Bool.and_eq_true, decide_eq_true_eq] at h
  exact h.2.1
theorem allD_get {s : ByteArray} (h : allD s = true) (i : Nat) (hi : i < (bodyS s).size) : dig (bt (bodyS s) i) := digB_get (bodyS s) i 0 h (Nat.zero_le _) hi
end Go.Proofs.YtbpoeggmpjepfaaDoor.Ab

/- Facts: whether they may be, and are one. -/
set_option linter.unusedVariables false
set_option linter.unusedSimpArgs false
set_option maxRecDepth 20000
namespace Go.Proofs.YtbpoeggmpjepfaaDoor.Ab
open Go
attribute [local irreducible] thn inb endR CJ LJ OpJ DJ

def tagB (n : Int) : Bool := decide (1 ≤ n) && decide (n ≤ 1099511627776)
abbrev valE (v : Vl) : Int := checkE v.k v.n v.s
def firstE : List Vl → Int
  | [] => 0
  | v :: r => if valE v = 0 then firstE r else valE v
def checkF (l : List Cls) (f : Fc) : Int := if tagB f.tag = false then 22 else match findC f.cls l with
  | none => 18
  | some c => if f.vals.length ≠ c.attrs.length then 4 else firstE f.vals
def ofC (l : List Cls) (f : Fc) : Cls := if tagB f.tag = false then noC else (findC f.cls l).getD noC
theorem p_tag (n : Int) : Pure Tryd.prog 56 [.v (.int .i64 n)] (.v (.bool (tagB n))) := by
  refine enterW Tryd.func56 rfl rfl rfl rfl (fun σ => ?_)
  repeat (first|(refine jl ?_;first|refine j8 ?_|refine j1 ?_|refine j4 ?_|refine j9 ?_)|(refine jc ?_;first|refine c1 ?_|refine c2 ?_|refine c7 ?_)|refine n11 ?_)
  exact ge rfl
theorem p_of (nl : Option Bool) (full : Bool) (l : List Cls) (f : Fc) : Pure Tryd.prog 33 [.sl nl full 2 (l.map cc), .agg (fc f)] (.tup [.agg (cc (ofC l f)), .v (.int .i64 (checkF l f))]) := by
  refine enterW Tryd.func33 rfl rfl rfl rfl (fun σ => ?_)
  obtain ⟨ft, fn, vs⟩ := f
  refine cj_lenA 1 2 (fun hm : (vs.map vc).length ≤ _ => ?_)
  have hn : (vs.map vc).length = vs.length := List.length_map ..
  have hn2 : ((((findC fn l).getD noC).attrs.map str1).length) = ((findC fn l).getD noC).attrs.length := List.length_map ..
  repeat' (first|(first|(refine jl ?_;first|refine jb ?_|refine j1 ?_|refine j4 ?_|refine j12 (fun id hid=>?_)|refine j13 (fun id hid=>?_)|refine j14 ?_|refine j17t ?_|refine j17 ?_|refine jp (p_tag _) ?_|refine jp (p_find _ _ _ _) ?_)|(refine jc ?_;first|refine c1 ?_|refine c2 ?_|refine c5 ?_|refine c6 ?_|refine c7 ?_)|refine n1 ?_|refine n2 ?_|refine n6 ?_|refine n10 ?_|refine n15 ?_)|(refine c9 (fun h=>?_) (fun h=>?_)<;>((try simp only [Bool.or_eq_true, Bool.and_eq_true, Bool.or_eq_false_iff, Bool.and_eq_false_iff, Bool.not_eq_true', Bool.not_eq_false', decide_eq_true_eq, decide_eq_false_iff_not, Bool.false_eq_true, Bool.true_eq_false, reduceCtorEq] at h) <;> (try simp (disch := omega) only [sb_bt, w64, Int.reduceAdd, Int.reduceToNat, Int.toNat_natCast, not_true_eq_false, false_or] at h) <;> (try (exfalso; omega)))))
  · rw [ofC, checkF, if_pos h, if_pos h]
    exact gvs (fin_two (.wk (Wk.agg ⟨Wk.refl _, Wk.sl _ _ _ _, trivial⟩)) (Fin.refl _ _ _))
  · have e : findC fn l = none := by simpa using h
    rw [ofC, checkF, if_neg (by simp [*]), if_neg (by simp [*]), e]
    exact ge rfl
  · obtain ⟨c, e⟩ := Option.isSome_iff_exists.1 (by assumption : (findC fn l).isSome = true)
    rw [e] at h hn2 ⊢
    rw [ofC, checkF, if_neg (by simp [*]), if_neg (by simp [*]), e]
    dsimp only [Option.getD] at h hn2 ⊢
    rw [if_pos (by omega)]
    exact ge rfl
  · obtain ⟨c, e⟩ := Option.isSome_iff_exists.1 (by assumption : (findC fn l).isSome = true)
    have h9 : checkF l ⟨ft, fn, vs⟩ = firstE vs := by
      rw [e] at h hn2
      rw [checkF, if_neg (by simp [*]), e]
      dsimp only [Option.getD] at h hn2 ⊢
      rw [if_neg (by omega)]
    have h8 : ofC l ⟨ft, fn, vs⟩ = (findC fn l).getD noC := by rw [ofC, if_neg (by simp [*])]
    rw [h8, h9]
    clear h8 h9
    refine cj_fors (fun i : Nat => firstE (vs.drop i) = firstE vs) (fun i => [(39, .v (.int .i64 i))]) (fun i => vs.length - i) 0 rfl ⟨⟨_, rfl, fun _ _ h => h⟩, trivial⟩ (fun i hi => ?_)
    rcases hd : vs.drop i with _ | ⟨x, r⟩
    · have h0 := dropn hd
      rw [hd, firstE] at hi
      repeat' (first|(first|(refine jl ?_;first|refine j1 ?_|refine j4 ?_|refine j14 ?_|refine j17 ?_)|(refine jc ?_;first|refine c1 ?_|refine c2 ?_|refine c7 ?_|refine c8 ?_)|refine n1 ?_|refine n3 ?_|refine n7 ?_|refine n8 ?_|refine n15 ?_)|(refine c9 (fun h=>?_) (fun h=>?_)<;>((try simp only [Bool.or_eq_true, Bool.and_eq_true, Bool.or_eq_false_iff, Bool.and_eq_false_iff, Bool.not_eq_true', Bool.not_eq_false', decide_eq_true_eq, decide_eq_false_iff_not, Bool.false_eq_true, Bool.true_eq_false, reduceCtorEq] at h) <;> (try simp (disch := omega) only [sb_bt, w64, Int.reduceAdd, Int.reduceToNat, Int.toNat_natCast, not_true_eq_false, false_or] at h) <;> (try (exfalso; omega)))))
      rw [← hi]
      exact ge rfl
    · obtain ⟨h1, h2, h3⟩ := dropc hd
      have h4 := get_map vc h3
      rw [hd, firstE] at hi
      repeat' (first|(first|(refine jl ?_;first|refine jbl ?_|refine j1 ?_|refine j4 ?_|refine j6 ?_|refine j13 (fun id hid=>?_)|refine j14 ?_|refine j17t ?_|refine j17 ?_|refine ji1 ?_|refine jp (p_check _ _ _) ?_)|(refine jc ?_;first|refine c1 ?_|refine c2 ?_|refine c5 ?_|refine c6 ?_|refine c7 ?_)|refine n1 ?_|refine n2 ?_|refine n5 ?_|refine n6 ?_|refine n10 ?_|refine n15 ?_)|(refine c9 (fun h=>?_) (fun h=>?_)<;>((try simp only [Bool.or_eq_true, Bool.and_eq_true, Bool.or_eq_false_iff, Bool.and_eq_false_iff, Bool.not_eq_true', Bool.not_eq_false', decide_eq_true_eq, decide_eq_false_iff_not, Bool.false_eq_true, Bool.true_eq_false, reduceCtorEq] at h) <;> (try simp (disch := omega) only [sb_bt, w64, Int.reduceAdd, Int.reduceToNat, Int.toNat_natCast, not_true_eq_false, false_or] at h) <;> (try (exfalso; omega)))))
      · rw [if_neg h] at hi
        rw [← hi]
        exact ge rfl
      · rw [if_pos (by assumption), ← h2] at hi
        exact nx_for (i + 1) hi (by omega) ⟨⟨_, rfl, wk1 (by omega)⟩, trivial⟩
theorem p_equalv (nl nl' : Option Bool) (full full' : Bool) (a b : List Vl) : Pure Tryd.prog 58 [.sl nl full 3 (a.map vc), .sl nl' full' 3 (b.map vc)] (.v (.bool (decide (a = b)))) := by
  refine enterW Tryd.func58 rfl rfl rfl rfl (fun σ => ?_)
  refine cj_len 0 (fun hm => ?_)
  refine cj_len 1 (fun hm' => ?_)
  have hn : (a.map vc).length = a.length := List.length_map ..
  have hn' : (b.map vc).length = b.length := List.length_map ..
  repeat' (first|(first|(refine jl ?_;first|refine j1 ?_|refine j4 ?_)|(refine jc ?_;first|refine c1 ?_|refine c2 ?_|refine c5 ?_|refine c6 ?_|refine c7 ?_)|refine n1 ?_|refine n2 ?_|refine n11 ?_)|(refine c9 (fun h=>?_) (fun h=>?_)<;>((try simp only [Bool.or_eq_true, Bool.and_eq_true, Bool.or_eq_false_iff, Bool.and_eq_false_iff, Bool.not_eq_true', Bool.not_eq_false', decide_eq_true_eq, decide_eq_false_iff_not, Bool.false_eq_true, Bool.true_eq_false, reduceCtorEq] at h) <;> (try simp (disch := omega) only [sb_bt, w64, Int.reduceAdd, Int.reduceToNat, Int.toNat_natCast, not_true_eq_false, false_or] at h) <;> (try (exfalso; omega)))))
  · rw [decide_eq_false (fun e => by rw [e] at h; exact h rfl)]
    exact ge rfl
  · refine cj_fors (fun i : Nat => decide (a.drop i = b.drop i) = decide (a = b)) (fun i => [(13, .v (.int .i64 i))]) (fun i => a.length - i) 0 rfl ⟨⟨_, rfl, fun _ _ h => h⟩, trivial⟩ (fun i hi => ?_)
    rcases hd : a.drop i with _ | ⟨x, r⟩
    · have h0 := dropn hd
      have hd' : b.drop i = [] := List.drop_of_length_le (by omega)
      rw [hd, hd', decide_eq_true rfl] at hi
      repeat' (first|(first|(refine jl ?_;first|refine j1 ?_|refine j4 ?_)|(refine jc ?_;first|refine c1 ?_|refine c2 ?_|refine c7 ?_|refine c8 ?_)|refine n1 ?_|refine n3 ?_|refine n7 ?_|refine n8 ?_|refine n11 ?_)|(refine c9 (fun h=>?_) (fun h=>?_)<;>((try simp only [Bool.or_eq_true, Bool.and_eq_true, Bool.or_eq_false_iff, Bool.and_eq_false_iff, Bool.not_eq_true', Bool.not_eq_false', decide_eq_true_eq, decide_eq_false_iff_not, Bool.false_eq_true, Bool.true_eq_false, reduceCtorEq] at h) <;> (try simp (disch := omega) only [sb_bt, w64, Int.reduceAdd, Int.reduceToNat, Int.toNat_natCast, not_true_eq_false, false_or] at h) <;> (try (exfalso; omega)))))
      rw [← hi]
      exact ge rfl
    · obtain ⟨h1, h2, h3⟩ := dropc hd
      rcases hd' : b.drop i with _ | ⟨y, r'⟩
      · have := dropn hd'; omega
      obtain ⟨h1', h2', h3'⟩ := dropc hd'
      have h4 := get_map vc h3
      have h4' := get_map vc h3'
      rw [hd, hd'] at hi
      repeat' (first|(first|(refine jl ?_;first|refine j1 ?_|refine j4 ?_|refine j6 ?_)|(refine dl ?_;first|refine dbl ?_|refine d1 ?_|refine d4 ?_|refine dne ?_|refine di1 ?_)|(refine jc ?_;first|refine c1 ?_|refine c2 ?_|refine c5 ?_|refine c6 ?_|refine c7 ?_|refine cq ?_)|refine n1 ?_|refine n2 ?_|refine n5 ?_|refine n6 ?_|refine n10 ?_|refine n11 ?_)|(refine c9 (fun h=>?_) (fun h=>?_)<;>((try simp only [Bool.or_eq_true, Bool.and_eq_true, Bool.or_eq_false_iff, Bool.and_eq_false_iff, Bool.not_eq_true', Bool.not_eq_false', decide_eq_true_eq, decide_eq_false_iff_not, Bool.false_eq_true, Bool.true_eq_false, reduceCtorEq] at h) <;> (try simp (disch := omega) only [sb_bt, w64, Int.reduceAdd, Int.reduceToNat, Int.toNat_natCast, not_true_eq_false, false_or] at h) <;> (try (exfalso; omega)))))
      · rw [← hi, decide_eq_false (fun e => by have := (List.cons.inj e).1; subst this; simp at h)]
        exact ge rfl
      · have e : x = y := by cases x; cases y; simp_all
        have e2 : decide (x :: r = y :: r') = decide (r = r') := decide_eq_decide.2 (by rw [e]; simp)
        rw [e2, ← h2, ← h2'] at hi
        exact nx_for (i + 1) hi (by omega) ⟨⟨_, rfl, wk1 (by omega)⟩, trivial⟩
theorem p_ccheck (nl : Option Bool) (full : Bool) (l : List Cls) (f : Fc) : Pure Tryd.prog 15 [.sl nl full 2 (l.map cc), .agg (fc f)] (.v (.int .i64 (checkF l f))) := by
  refine enterW Tryd.func15 rfl rfl rfl rfl (fun σ => ?_)
  repeat (first|(refine jl ?_;first|refine j1 ?_|refine j4 ?_|refine j12 (fun id hid=>?_)|refine j13 (fun id hid=>?_)|refine j14 ?_|refine j17t ?_|refine jp (p_of _ _ _ _) ?_)|(refine jc ?_;first|refine c1 ?_|refine c2 ?_|refine c7 ?_)|refine n11 ?_)
  exact ge rfl
def sameF (a b : Fc) : Bool := decide (a.tag = b.tag) && decide (a.cls = b.cls) && decide (a.vals = b.vals)
theorem p_csame (a b : Fc) : Pure Tryd.prog 36 [.agg (fc a), .agg (fc b)] (.v (.bool (sameF a b))) := by
  refine enterW Tryd.func36 rfl rfl rfl rfl (fun σ => ?_)
  repeat (first|(refine jl ?_;first|refine j8 ?_|refine j1 ?_|refine j4 ?_|refine j9 ?_|refine j12 (fun id hid=>?_)|refine j14 ?_|refine j16 ?_|refine jcq (hp:=fun hc=>p_equalv _ _ _ _ _ _) ?_)|(refine jc ?_;first|refine c1 ?_|refine c2 ?_|refine c7 ?_)|refine n11 ?_)
  exact ge rfl
end Go.Proofs.YtbpoeggmpjepfaaDoor.Ab

/- Classes, facts and sets that are small enough. -/
set_option linter.unusedVariables false
set_option linter.unusedSimpArgs false
set_option maxRecDepth 20000
namespace Go.Proofs.YtbpoeggmpjepfaaDoor.Ab
open Go
attribute [local irreducible] thn inb endR CJ LJ OpJ DJ

abbrev smallC (c : Cls) : Prop := c.attrs.length ≤ 20 ∧ c.name.size ≤ 60 ∧ ∀ a ∈ c.attrs, a.size ≤ 60
abbrev smallV (v : Vl) : Prop := v.s.size ≤ 60
abbrev smallB (b : Bd) : Prop := b.name.size ≤ 60 ∧ b.val.s.size ≤ 60
def lightP (l : List Cls) (f : Fc) (sets : List Bd) : Prop := (l.length ≤ 20 ∧ f.vals.length ≤ 20 ∧ f.cls.size ≤ 60 ∧ sets.length ≤ 20) ∧ (∀ c ∈ l, smallC c) ∧ (∀ v ∈ f.vals, smallV v) ∧ (∀ b ∈ sets, smallB b)
noncomputable def lightB (l : List Cls) (f : Fc) (sets : List Bd) : Bool := @decide (lightP l f sets) (Classical.propDecidable _)
theorem lightB_false {l : List Cls} {f : Fc} {sets : List Bd} (h : ¬ lightP l f sets) : lightB l f sets = false := @decide_eq_false _ (Classical.propDecidable _) h
theorem lightB_true {l : List Cls} {f : Fc} {sets : List Bd} (h : lightP l f sets) : lightB l f sets = true := @decide_eq_true _ (Classical.propDecidable _) h
theorem lightB_iff {l : List Cls} {f : Fc} {sets : List Bd} (h : lightB l f sets = true) : lightP l f sets := @of_decide_eq_true _ (Classical.propDecidable _) h
theorem take_succ_all {α : Type} {p : α → Prop} {l : List α} {i : Nat} {x : α} (h : ∀ y ∈ l.take i, p y) (hx : l[i]? = some x) (hp : p x) : ∀ y ∈ l.take (i + 1), p y := by
  rw [List.take_add_one, hx]
  intro y hy
  rcases List.mem_append.1 hy with hy | hy
  · exact h y hy
  · simp at hy; exact hy ▸ hp
theorem take_all {α : Type} {p : α → Prop} {l : List α} {i : Nat} (h : ∀ y ∈ l.take i, p y) (hi : l.length ≤ i) : ∀ y ∈ l, p y := by rwa [List.take_of_length_le hi] at h
theorem p_light (nl nl' : Option Bool) (full full' : Bool) (l : List Cls) (f : Fc) (sets : List Bd) : Pure Tryd.prog 30 [.sl nl full 2 (l.map cc), .agg (fc f), .sl nl' full' 4 (sets.map bc)] (.v (.bool (lightB l f sets))) := by
  refine enterW Tryd.func30 rfl rfl rfl rfl (fun σ => ?_)
  obtain ⟨ft, fn, vs⟩ := f
  have hn : (l.map cc).length = l.length := List.length_map ..
  have hn2 : (vs.map vc).length = vs.length := List.length_map ..
  have hn3 : (sets.map bc).length = sets.length := List.length_map ..
  repeat' (first|(first|(refine jl ?_;first|refine j7 ?_|refine j1 ?_|refine j4 ?_|refine j9 ?_|refine j12 (fun id hid=>?_)|refine j16 ?_)|(refine jc ?_;first|refine c1 ?_|refine c2 ?_|refine c5 ?_|refine c6 ?_|refine c7 ?_)|refine n1 ?_|refine n2 ?_|refine n11 ?_)|(refine c9 (fun h=>?_) (fun h=>?_)<;>((try simp only [Bool.or_eq_true, Bool.and_eq_true, Bool.or_eq_false_iff, Bool.and_eq_false_iff, Bool.not_eq_true', Bool.not_eq_false', decide_eq_true_eq, decide_eq_false_iff_not, Bool.false_eq_true, Bool.true_eq_false, reduceCtorEq] at h) <;> (try simp (disch := omega) only [sb_bt, w64, Int.reduceAdd, Int.reduceToNat, Int.toNat_natCast, not_true_eq_false, false_or] at h) <;> (try (exfalso; omega)))))
  · rw [lightB_false (fun e => by obtain ⟨⟨e1, e2, e3, e4⟩, _⟩ := e; dsimp only at e2 e3; omega)]
    exact ge rfl
  have hc : l.length ≤ 20 ∧ vs.length ≤ 20 ∧ fn.size ≤ 60 ∧ sets.length ≤ 20 := by omega
  refine cj_fors (fun i : Nat => ∀ c ∈ l.take i, smallC c) (fun i => [(7, .v (.int .i64 i))]) (fun i => l.length - i) 0 (by simp) ⟨⟨_, rfl, fun _ _ h => h⟩, trivial⟩ (fun i hi => ?_)
  rcases hd : l.drop i with _ | ⟨x, r⟩
  · have h0 := dropn hd
    have hl := take_all hi h0
    clear hi
    repeat' (first|(first|(refine jl ?_;first|refine j1 ?_|refine j4 ?_)|(refine jc ?_;first|refine c1 ?_|refine c2 ?_|refine c5 ?_|refine c8 ?_)|refine n1 ?_|refine n3 ?_|refine n7 ?_|refine n8 ?_)|(refine c9 (fun h=>?_) (fun h=>?_)<;>((try simp only [Bool.or_eq_true, Bool.and_eq_true, Bool.or_eq_false_iff, Bool.and_eq_false_iff, Bool.not_eq_true', Bool.not_eq_false', decide_eq_true_eq, decide_eq_false_iff_not, Bool.false_eq_true, Bool.true_eq_false, reduceCtorEq] at h) <;> (try simp (disch := omega) only [sb_bt, w64, Int.reduceAdd, Int.reduceToNat, Int.toNat_natCast, not_true_eq_false, false_or] at h) <;> (try (exfalso; omega)))))
    refine cj_fors (fun i : Nat => ∀ c ∈ vs.take i, smallV c) (fun i => [(9, .v (.int .i64 i))]) (fun i => vs.length - i) 0 (by simp) ⟨⟨_, rfl, fun _ _ h => h⟩, trivial⟩ (fun j hi => ?_)
    rcases hd' : vs.drop j with _ | ⟨x, r⟩
    · have h0 := dropn hd'
      have hv := take_all hi h0
      clear hi
      repeat' (first|(first|(refine jl ?_;first|refine j1 ?_|refine j4 ?_|refine j14 ?_)|(refine jc ?_;first|refine c1 ?_|refine c2 ?_|refine c5 ?_|refine c8 ?_)|refine n1 ?_|refine n3 ?_|refine n7 ?_|refine n8 ?_)|(refine c9 (fun h=>?_) (fun h=>?_)<;>((try simp only [Bool.or_eq_true, Bool.and_eq_true, Bool.or_eq_false_iff, Bool.and_eq_false_iff, Bool.not_eq_true', Bool.not_eq_false', decide_eq_true_eq, decide_eq_false_iff_not, Bool.false_eq_true, Bool.true_eq_false, reduceCtorEq] at h) <;> (try simp (disch := omega) only [sb_bt, w64, Int.reduceAdd, Int.reduceToNat, Int.toNat_natCast, not_true_eq_false, false_or] at h) <;> (try (exfalso; omega)))))
      refine cj_fors (fun i : Nat => ∀ c ∈ sets.take i, smallB c) (fun i => [(10, .v (.int .i64 i))]) (fun i => sets.length - i) 0 (by simp) ⟨⟨_, rfl, fun _ _ h => h⟩, trivial⟩ (fun k hi => ?_)
      rcases hd'' : sets.drop k with _ | ⟨x, r⟩
      · have h0 := dropn hd''
        have hs := take_all hi h0
        repeat' (first|(first|(refine jl ?_;first|refine j1 ?_|refine j4 ?_)|(refine jc ?_;first|refine c1 ?_|refine c2 ?_|refine c7 ?_|refine c8 ?_)|refine n1 ?_|refine n3 ?_|refine n7 ?_|refine n8 ?_|refine n11 ?_)|(refine c9 (fun h=>?_) (fun h=>?_)<;>((try simp only [Bool.or_eq_true, Bool.and_eq_true, Bool.or_eq_false_iff, Bool.and_eq_false_iff, Bool.not_eq_true', Bool.not_eq_false', decide_eq_true_eq, decide_eq_false_iff_not, Bool.false_eq_true, Bool.true_eq_false, reduceCtorEq] at h) <;> (try simp (disch := omega) only [sb_bt, w64, Int.reduceAdd, Int.reduceToNat, Int.toNat_natCast, not_true_eq_false, false_or] at h) <;> (try (exfalso; omega)))))
        rw [lightB_true ⟨hc, hl, hv, hs⟩]
        exact ge rfl
      · obtain ⟨h1, h2, h3⟩ := dropc hd''
        have h4 := get_map bc h3
        repeat' (first|(first|(refine jl ?_;first|refine j7 ?_|refine jbl ?_|refine j1 ?_|refine j4 ?_|refine j6 ?_|refine j9 ?_|refine ji1 ?_|refine ji3 ?_)|(refine jc ?_;first|refine c1 ?_|refine c2 ?_|refine c5 ?_|refine c6 ?_|refine c7 ?_)|refine n1 ?_|refine n2 ?_|refine n5 ?_|refine n6 ?_|refine n10 ?_|refine n11 ?_)|(refine c9 (fun h=>?_) (fun h=>?_)<;>((try simp only [Bool.or_eq_true, Bool.and_eq_true, Bool.or_eq_false_iff, Bool.and_eq_false_iff, Bool.not_eq_true', Bool.not_eq_false', decide_eq_true_eq, decide_eq_false_iff_not, Bool.false_eq_true, Bool.true_eq_false, reduceCtorEq] at h) <;> (try simp (disch := omega) only [sb_bt, w64, Int.reduceAdd, Int.reduceToNat, Int.toNat_natCast, not_true_eq_false, false_or] at h) <;> (try (exfalso; omega)))))
        · rw [lightB_false (fun e => by have := e.2.2.2 x (List.mem_of_getElem? h3); unfold smallB at this; omega)]
          exact ge rfl
        · exact nx_for (k + 1) (take_succ_all hi h3 (by unfold smallB; omega)) (by omega) ⟨⟨_, rfl, wk1 (by omega)⟩, trivial⟩
    · obtain ⟨h1, h2, h3⟩ := dropc hd'
      have h4 := get_map vc h3
      repeat' (first|(first|(refine jl ?_;first|refine jbl ?_|refine j1 ?_|refine j4 ?_|refine j6 ?_|refine j14 ?_|refine ji1 ?_)|(refine jc ?_;first|refine c1 ?_|refine c2 ?_|refine c5 ?_|refine c6 ?_|refine c7 ?_)|refine n1 ?_|refine n2 ?_|refine n5 ?_|refine n6 ?_|refine n10 ?_|refine n11 ?_)|(refine c9 (fun h=>?_) (fun h=>?_)<;>((try simp only [Bool.or_eq_true, Bool.and_eq_true, Bool.or_eq_false_iff, Bool.and_eq_false_iff, Bool.not_eq_true', Bool.not_eq_false', decide_eq_true_eq, decide_eq_false_iff_not, Bool.false_eq_true, Bool.true_eq_false, reduceCtorEq] at h) <;> (try simp (disch := omega) only [sb_bt, w64, Int.reduceAdd, Int.reduceToNat, Int.toNat_natCast, not_true_eq_false, false_or] at h) <;> (try (exfalso; omega)))))
      · rw [lightB_false (fun e => by have := e.2.2.1 x (List.mem_of_getElem? h3); unfold smallV at this; omega)]
        exact ge rfl
      · exact nx_for (j + 1) (take_succ_all hi h3 (by unfold smallV; omega)) (by omega) ⟨⟨_, rfl, wk1 (by omega)⟩, trivial⟩
  · obtain ⟨h1, h2, h3⟩ := dropc hd
    have h4 := get_map cc h3
    obtain ⟨xn, xa⟩ := x
    have hn4 : (xa.map str1).length = xa.length := List.length_map ..
    repeat' (first|(first|(refine jl ?_;first|refine j7 ?_|refine jbl ?_|refine j1 ?_|refine j4 ?_|refine j9 ?_|refine ji1 ?_|refine ji3 ?_)|(refine jc ?_;first|refine c1 ?_|refine c2 ?_|refine c5 ?_|refine c6 ?_|refine c7 ?_)|refine n1 ?_|refine n2 ?_|refine n5 ?_|refine n6 ?_|refine n11 ?_)|(refine c9 (fun h=>?_) (fun h=>?_)<;>((try simp only [Bool.or_eq_true, Bool.and_eq_true, Bool.or_eq_false_iff, Bool.and_eq_false_iff, Bool.not_eq_true', Bool.not_eq_false', decide_eq_true_eq, decide_eq_false_iff_not, Bool.false_eq_true, Bool.true_eq_false, reduceCtorEq] at h) <;> (try simp (disch := omega) only [sb_bt, w64, Int.reduceAdd, Int.reduceToNat, Int.toNat_natCast, not_true_eq_false, false_or] at h) <;> (try (exfalso; omega)))))
    · rw [lightB_false (fun e => by have := e.2.1 _ (List.mem_of_getElem? h3); unfold smallC at this; dsimp only at *; omega)]
      exact ge rfl
    · refine cj_fors (fun i : Nat => ∀ c ∈ xa.take i, c.size ≤ 60) (fun i => [(8, .v (.int .i64 i))]) (fun i => xa.length - i) 0 (by simp) ⟨⟨_, rfl, fun _ _ h => h⟩, trivial⟩ (fun j hj => ?_)
      rcases hd' : xa.drop j with _ | ⟨y, r'⟩
      · have h0 := dropn hd'
        have ha := take_all hj h0
        repeat' (first|(first|(refine jl ?_;first|refine jbl ?_|refine j1 ?_|refine j4 ?_|refine j6 ?_|refine ji1 ?_)|(refine jc ?_;first|refine c1 ?_|refine c2 ?_|refine c8 ?_)|refine n1 ?_|refine n3 ?_|refine n7 ?_|refine n8 ?_|refine n10 ?_)|(refine c9 (fun h=>?_) (fun h=>?_)<;>((try simp only [Bool.or_eq_true, Bool.and_eq_true, Bool.or_eq_false_iff, Bool.and_eq_false_iff, Bool.not_eq_true', Bool.not_eq_false', decide_eq_true_eq, decide_eq_false_iff_not, Bool.false_eq_true, Bool.true_eq_false, reduceCtorEq] at h) <;> (try simp (disch := omega) only [sb_bt, w64, Int.reduceAdd, Int.reduceToNat, Int.toNat_natCast, not_true_eq_false, false_or] at h) <;> (try (exfalso; omega)))))
        exact nx_for (i + 1) (take_succ_all hi h3 (by unfold smallC; dsimp only at *; exact ⟨by omega, by omega, ha⟩)) (by omega) ⟨⟨_, rfl, wk1 (by omega)⟩, trivial⟩
      · obtain ⟨h1', h2', h3'⟩ := dropc hd'
        have h4' := get_map str1 h3'
        repeat' (first|(first|(refine jl ?_;first|refine jbl ?_|refine j1 ?_|refine j4 ?_|refine j6 ?_|refine ji1 ?_)|(refine jc ?_;first|refine c1 ?_|refine c2 ?_|refine c5 ?_|refine c6 ?_|refine c7 ?_)|refine n1 ?_|refine n2 ?_|refine n5 ?_|refine n6 ?_|refine n10 ?_|refine n11 ?_)|(refine c9 (fun h=>?_) (fun h=>?_)<;>((try simp only [Bool.or_eq_true, Bool.and_eq_true, Bool.or_eq_false_iff, Bool.and_eq_false_iff, Bool.not_eq_true', Bool.not_eq_false', decide_eq_true_eq, decide_eq_false_iff_not, Bool.false_eq_true, Bool.true_eq_false, reduceCtorEq] at h) <;> (try simp (disch := omega) only [sb_bt, w64, Int.reduceAdd, Int.reduceToNat, Int.toNat_natCast, not_true_eq_false, false_or] at h) <;> (try (exfalso; omega)))))
        · rw [lightB_false (fun e => by have := (e.2.1 _ (List.mem_of_getElem? h3)).2.2 y (List.mem_of_getElem? h3'); omega)]
          exact ge rfl
        · exact nx_for (j + 1) (take_succ_all hj h3' (by omega)) (by omega) ⟨⟨_, rfl, wk1 (by omega)⟩, trivial⟩
end Go.Proofs.YtbpoeggmpjepfaaDoor.Ab

/- Facts changed. -/
set_option linter.unusedVariables false
set_option linter.unusedSimpArgs false
set_option maxRecDepth 20000
namespace Go.Proofs.YtbpoeggmpjepfaaDoor.Ab
open Go
attribute [local irreducible] thn inb endR CJ LJ OpJ DJ DA DB AllocK

theorem p_clonev (nl : Option Bool) (full : Bool) (l : List Vl) (hl : l.length ≤ 65536) : Pure Tryd.prog 85 [.sl nl full 3 (l.map vc)] (.sl none false 3 (l.map vc)) := by
  refine enterW Tryd.func85 rfl rfl rfl rfl (fun σ => ?_)
  have hn : (l.map vc).length = l.length := List.length_map ..
  repeat (first|(refine jl ?_;first|refine j1 ?_|refine j4 ?_)|(refine jc ?_;first|refine c1 ?_|refine c2 ?_))
  refine lj_v_any rfl (fun R hR => opj_isnil_sl rfl rfl rfl rfl hR) (fun b hb => ?_)
  repeat' (first|(first|(refine jl ?_;first|refine j1 ?_|refine j4 ?_)|(refine jc ?_;first|refine c1 ?_|refine c2 ?_|refine c6 ?_|refine c7 ?_)|refine n1 ?_|refine n2 ?_|refine n11 ?_)|(refine c9 (fun h=>?_) (fun h=>?_)<;>(try simp only [Bool.or_eq_true, Bool.and_eq_true, Bool.or_eq_false_iff, Bool.and_eq_false_iff, Bool.not_eq_true', Bool.not_eq_false', decide_eq_true_eq, decide_eq_false_iff_not, Bool.false_eq_true, Bool.true_eq_false, reduceCtorEq] at h)))
  · rw [hb h]
    exact gvs (.wk (Wk.nil _ _ _ _))
  · refine jlit ?_
    repeat (first|(refine jl ?_;first|refine j1 ?_))
    refine japp 32 ?_
    repeat (first|(refine jl ?_;first|refine j1 ?_|refine j4 ?_)|(refine jc ?_;first|refine c7 ?_)|refine n11 ?_)
    exact ge rfl
theorem q_clonev (nl : Option Bool) (full : Bool) (l : List Vl) (hl : l.length ≤ 65536) (h0 : l ≠ []) (σ : St) : ACalls Tryd.prog 85 [.sl nl full 3 (l.map vc)] σ (fun e σ' => ∃ id, σ id = none ∧ e = .ret (.osl id 3 0 l.length) ∧ σ' = σ.set id (.row 3 30 (l.map vc))) := by
  refine enter Tryd.func85 rfl rfl rfl rfl ?_
  have hn : (l.map vc).length = l.length := List.length_map ..
  repeat (first|(refine jl ?_;first|refine j1 ?_|refine j4 ?_)|(refine jc ?_;first|refine c1 ?_|refine c2 ?_))
  refine lj_v_any rfl (fun R hR => opj_isnil_sl rfl rfl rfl rfl hR) (fun b hb => ?_)
  repeat' (first|(first|(refine jl ?_;first|refine j1 ?_|refine j4 ?_)|(refine jc ?_;first|refine c1 ?_|refine c2 ?_|refine c6 ?_|refine c7 ?_)|refine n1 ?_|refine n2 ?_|refine n11 ?_)|(refine c9 (fun h=>?_) (fun h=>?_)<;>(try simp only [Bool.or_eq_true, Bool.and_eq_true, Bool.or_eq_false_iff, Bool.and_eq_false_iff, Bool.not_eq_true', Bool.not_eq_false', decide_eq_true_eq, decide_eq_false_iff_not, Bool.false_eq_true, Bool.true_eq_false, reduceCtorEq] at h)))
  · exact absurd (List.map_eq_nil_iff.1 (hb h)) h0
  · refine jlit ?_
    repeat (first|(refine jl ?_;first|refine j1 ?_))
    refine lj_fc rfl (fun R hR => opj_append_new (sz := 3) (by_ := 32) (news := l.map vc) rfl rfl ⟨rfl, rfl, rfl, by decide⟩ rfl rfl (.inl rfl) rfl rfl (fun e => h0 (List.map_eq_nil_iff.1 e)) (by rw [hn]; show (0 + _) * 32 ≤ _; omega) (by decide) hR) (fun a ha => ?_)
    repeat (first|(refine jl ?_;first|refine j1 ?_|refine j4 ?_)|(refine jc ?_;first|refine c7 ?_)|refine n11 ?_)
    refine ⟨a, ha, ?_, rfl⟩
    show AEnd.ret (.osl a 3 0 (0 + (l.map vc).length)) = _
    rw [hn, Nat.zero_add]
theorem q_with1 {σ : St} {id : Nat} {b : Bd} (hid : σ id = some (.row 4 73 [bc b])) (x : Bd) : ACalls Tryd.prog 87 [.agg (bc x), .ptr id 4 0 0] σ (fun e σ' => e = .ret (.v (.bool (isB b.name x))) ∧ σ' = σ) := by
  refine enterS Tryd.func87 rfl rfl rfl rfl ?_
  repeat (first|(refine jl ?_;first|refine j1 ?_|refine j4 ?_|refine j12 (fun id hid=>?_)|refine j14 ?_)|(refine jc ?_;first|refine c1 ?_|refine c2 ?_|refine c7 ?_)|refine n11 ?_)
  exact ge rfl
theorem q_containsb {σ : St} {f : FuncId} {caps : List AV} (g : Bd → Bool) (hent : entered Tryd.prog f = true) (nl : Option Bool) (full : Bool) (l : List Bd) (hf : ∀ x : Bd, ACalls Tryd.prog f ([.agg (bc x)] ++ caps) σ (fun e σ' => e = .ret (.v (.bool (g x))) ∧ σ' = σ)) : ACalls Tryd.prog 86 [.sl nl full 4 (l.map bc), .fn f caps] σ (fun e σ' => e = .ret (.v (.bool (l.any g))) ∧ σ' = σ) := by
  refine enterS Tryd.func86 rfl rfl rfl rfl ?_
  repeat (first|(refine jl ?_;first|refine j1 ?_|refine j4 ?_|refine lj_to rfl rfl rfl (q_index_bounds g hent nl full l hf) ?_)|(refine jc ?_;first|refine c1 ?_|refine c2 ?_|refine c7 ?_)|refine n11 ?_)
  refine ge (congrArg (fun b => AV.v (Value.bool b)) ?_)
  have h5 := idxG_lt g l 0
  by_cases h : l.any g = true
  · rw [h, decide_eq_true]
    rw [List.any_eq_true] at h
    obtain ⟨x, hx, hg⟩ := h
    by_cases h6 : idxG g l 0 < 0
    · rw [h5.1 h6 x hx] at hg; cases hg
    · omega
  · rw [Bool.not_eq_true] at h
    rw [h, decide_eq_false]
    have := h5.2 (fun x hx => by
      rw [List.any_eq_false] at h
      simpa using h x hx)
    omega
end Go.Proofs.YtbpoeggmpjepfaaDoor.Ab

/- Abstract values over the model's memory: regions that draw their order, in which some operations turn the store, one behind the other, and all else stands where it may. -/
set_option linter.unusedVariables false
set_option linter.unusedSimpArgs false
set_option maxRecDepth 20000
namespace Go.Proofs.YtbpoeggmpjepfaaDoor.Ab
open Go
/-- An operation in the walk: its place; whether it turns the store; whether the next one that does, if there is one, stands behind it. -/
structure WO where
  i : Nat
  eff : Bool
  ex : Bool
  o : Oper
def nextE (es : List Nat) : List Nat → Option Nat
  | [] => none
  | i :: r => bif inN i es then some i else nextE es r
def exB (c : List (List Nat)) (i : Nat) : Option Nat → Bool
  | some e => inN i (c.getD e [])
  | none => true
def wos (l : List Oper) (c : List (List Nat)) (es : List Nat) : List Nat → List WO
  | [] => []
  | i :: r => match l[i]? with
    | some o => ⟨i, inN i es, exB c i (nextE es r), o⟩ :: wos l c es r
    | none => wos l c es r
/-- How many of some stand ahead of it. -/
def cntE (c : List (List Nat)) (j : Nat) : List Nat → Nat
  | [] => 0
  | e :: r => bif inN e (c.getD j []) then cntE c j r + 1 else cntE c j r
def layE (c : List (List Nat)) (es : List Nat) (k : Nat) : List Nat → List Nat
  | [] => []
  | j :: r => bif inN j es || !Nat.beq (cntE c j es) k then layE c es k r else j :: layE c es k r
def ordE (n : Nat) (c : List (List Nat)) (es : List Nat) : Nat → List Nat → List Nat
  | k, [] => layE c es k (List.range n)
  | k, e :: r => layE c es k (List.range n) ++ e :: ordE n c es (k + 1) r
def subN : List Nat → List Nat → Bool
  | [], _ => true
  | j :: r, d => bif inN j d then subN r d else false
def allAn (c : List (List Nat)) (e : Nat) : List Nat → Bool
  | [] => true
  | j :: r => bif inN e (c.getD j []) then allAn c e r else false
def chkL (c : List (List Nat)) (es : List Nat) (n : Nat) : List Nat → List Nat → Bool
  | d, [] => true
  | d, i :: r => bif Nat.blt i n then bif subN (c.getD i []) d then bif inN i d then false else bif (bif inN i es then allAn c i r else true) then chkL c es n (i :: d) r else false else false else false
theorem subN_iff : ∀ {l d : List Nat}, subN l d = true → ∀ j ∈ l, j ∈ d
  | [], d, _, j, h => by cases h
  | x :: r, d, h, j, hj => by
    unfold subN at h
    cases hx : inN x d with
    | false => rw [hx] at h; cases h
    | true =>
      rw [hx, cond_true] at h
      rcases List.mem_cons.1 hj with rfl | hj
      · exact (inN_iff _ _).1 hx
      · exact subN_iff h j hj
theorem memB_iff {c : List (List Nat)} {i j : Nat} : memB c i j = true ↔ j ∈ c.getD i [] := by
  unfold memB
  rw [List.contains_iff_mem]
theorem allAn_iff {c : List (List Nat)} {e : Nat} : ∀ {l : List Nat}, allAn c e l = true → ∀ j ∈ l, memB c j e = true
  | [], _, j, h => by cases h
  | x :: r, h, j, hj => by
    unfold allAn at h
    cases hx : inN e (c.getD x []) with
    | false => rw [hx] at h; cases h
    | true =>
      rw [hx, cond_true] at h
      rcases List.mem_cons.1 hj with rfl | hj
      · exact memB_iff.2 ((inN_iff _ _).1 hx)
      · exact allAn_iff h j hj
theorem chkL_cons {c : List (List Nat)} {es : List Nat} {n i : Nat} {d r : List Nat} (h : chkL c es n d (i :: r) = true) : i < n ∧ (∀ j, memB c i j = true → j ∈ d) ∧ i ∉ d ∧ (i ∈ es → ∀ j ∈ r, memB c j i = true) ∧ chkL c es n (i :: d) r = true := by
  unfold chkL at h
  cases h1 : Nat.blt i n with
  | false => rw [h1] at h; cases h
  | true =>
    rw [h1, cond_true] at h
    cases h2 : subN (c.getD i []) d with
    | false => rw [h2] at h; cases h
    | true =>
      rw [h2, cond_true] at h
      cases h3 : inN i d with
      | true => rw [h3] at h; cases h
      | false =>
        rw [h3, cond_false] at h
        have h3' : i ∉ d := fun hm => by rw [(inN_iff _ _).2 hm] at h3; cases h3
        cases h4 : (bif inN i es then allAn c i r else true) with
        | false => rw [h4] at h; cases h
        | true =>
          rw [h4, cond_true] at h
          refine ⟨Nat.blt_eq.mp h1, fun j hj => subN_iff h2 j (memB_iff.1 hj), h3', fun hi => ?_, h⟩
          rw [(inN_iff _ _).2 hi, cond_true] at h4
          exact allAn_iff h4
theorem chkL_notin {c : List (List Nat)} {es : List Nat} {n : Nat} : ∀ {r d : List Nat}, chkL c es n d r = true → ∀ j ∈ r, j ∉ d
  | [], d, _, j, h => by cases h
  | i :: r, d, h, j, hj => by
    obtain ⟨_, _, h3, _, h5⟩ := chkL_cons h
    rcases List.mem_cons.1 hj with rfl | hj
    · exact h3
    · exact fun hd => chkL_notin h5 j hj (List.mem_cons_of_mem _ hd)
section
variable {P : Program} {l : List Oper} {c : List (List Nat)} {es : List Nat} {nt : Nat} {fr : Fr} {K : Fr → St → Prop}
theorem FrameOk.src2 {F : Fr} {X : Nat → Prop} {val : Nat → AV} (hp : PlanL l nt c) (hF : FrameOk l fr X val F) {i : Nat} {o : Oper} (ho : l[i]? = some o) (hX : ∀ j, memB c i j = true → X j) (hX2 : ∀ j, X j → j ≠ i ∧ memB c j i = false) :
    ∀ t a, t ∈ o.looksAt l.toArray → lk F t = some a → Src l.toArray fr val i t a := fun t a ht hta => by
  have := hp.src i o ho t ht
  simp only [srcB, Bool.or_eq_true, List.any_eq_true, List.all_eq_true, List.mem_range, Bool.and_eq_true, beq_iff_eq, Bool.not_eq_true', beq_eq_false_iff_ne] at this
  rcases this with ⟨j, hj, ⟨hjt, hij⟩, hji⟩ | hall
  · obtain ⟨oj, hoj, hojt⟩ := dstOf_some hjt
    have hxj := hX j hij
    rcases hF t a hta with ⟨j', h1, h2, h3⟩ | ⟨h1, h2⟩
    · have := hp.dist j j' t hjt h2
      subst this
      exact .inl ⟨j', oj, by simpa using hoj, hojt, hp.dep i j' hij, h3⟩
    · exact absurd hjt (h1 j hxj)
  · have hw : ∀ j, dstOf l j = some t → memB c j i = true ∨ j = i := fun j hj => by
      obtain ⟨oj, hoj, _⟩ := dstOf_some hj
      rcases hall j (List.getElem?_eq_some_iff.1 hoj).1 with (h' | h') | h'
      · exact absurd hj h'
      · exact .inl h'
      · exact .inr (by simpa using h')
    rcases hF t a hta with ⟨j', h1, h2, h3⟩ | ⟨h1, h2⟩
    · obtain ⟨h4, h5⟩ := hX2 j' h1
      rcases hw j' h2 with h6 | h6
      · rw [h5] at h6; cases h6
      · exact absurd h6 h4
    · exact .inr ⟨fun j oj hoj hjt => (hw j (dstOf_of (by simpa using hoj) hjt)).imp (hp.dep j i) id, h2⟩
def OnL (P : Program) (ex : Bool) (σ : St) (o : Oper) (E : Operand → Option AV) (r : AV) : Prop :=
  (∀ σ', OpW P o E σ' (fun r' σ2 => r' = r ∧ σ2 = σ')) ∨ (ex = true ∧ OpW P o E σ (fun r' σ2 => r' = r ∧ σ2 = σ))
def FactY (P : Program) (l : List Oper) (ex : Bool) (σ : St) (F : Fr) (o : Oper) (r : AV) : Prop :=
  match o.guard with
  | none => OnL P ex σ o (ev F) r
  | some (g, want) => ∃ t b cc, dstOf l g = some t ∧ lk F t = some b ∧ gc b want = some cc ∧ ((cc = true → OnL P ex σ o (ev F) r) ∧ (cc = false → ∀ k, Rep k r undef))
theorem FactY.any {ex : Bool} {σ σ' : St} {F : Fr} {o : Oper} {r : AV} (h : FactY P l ex σ F o r) (he : ex = false) : FactY P l false σ' F o r := by
  have hon : OnL P ex σ o (ev F) r → OnL P false σ' o (ev F) r := fun h => by
    rcases h with h | ⟨h1, h2⟩
    · exact .inl h
    · rw [he] at h1; cases h1
  unfold FactY at h ⊢
  cases hg : o.guard with
  | none => rw [hg] at h; exact hon h
  | some p =>
    obtain ⟨g, want⟩ := p
    rw [hg] at h
    obtain ⟨t, b, cc, h1, h2, h3, h4, h5⟩ := h
    exact ⟨t, b, cc, h1, h2, h3, fun e => hon (h4 e), h5⟩
def EffG (l : List Oper) (F : Fr) (o : Oper) : Prop := o.guard = none ∨ ∃ g want t b, o.guard = some (g, want) ∧ dstOf l g = some t ∧ lk F t = some b ∧ gc b want = some true
/-- The walk. -/
inductive LY (P : Program) (l : List Oper) (K : Fr → St → Prop) : List WO → Fr → St → Prop
  | nil {F : Fr} {σ : St} (h : K F σ) : LY P l K [] F σ
  | pure {w : WO} {rest : List WO} {F : Fr} {σ : St} {r : AV} (he : w.eff = false) (hf : FactY P l w.ex σ F w.o r) (h : LY P l K rest (Ab.put F w.o.dst (some r)) σ) : LY P l K (w :: rest) F σ
  | eff {w : WO} {rest : List WO} {F : Fr} {σ : St} {R : AV → St → Prop} (he : w.eff = true) (hg : EffG l F w.o) (hw : OpW P w.o (ev F) σ R) (h : ∀ r σ1, R r σ1 → LY P l K rest (Ab.put F w.o.dst (some r)) σ1) : LY P l K (w :: rest) F σ
def FactsL (P : Program) (l : List Oper) (c : List (List Nat)) (es : List Nat) (fr : Fr) (done todo : List Nat) (val : Nat → AV) (listed : Array Bool) (cur : St) : Prop :=
  ∀ x ∈ done, listed.getD x false = false → ∀ o, l[x]? = some o → ∃ (F' : Fr) (D : Nat → Prop) (ex : Bool), FrameOk l fr D val F' ∧ (∀ j, D j → j ∈ done ∧ j ≠ x ∧ memB c j x = false) ∧ (∀ j, memB c x j = true → D j) ∧ FactY P l ex cur F' o (val x) ∧ (ex = true → nextE es todo = none ∨ ∃ e, nextE es todo = some e ∧ memB c e x = true)
structure GoodS (P : Program) (l : List Oper) (c : List (List Nat)) (es : List Nat) (fr : Fr) (K : Fr → St → Prop) (val : Nat → AV) (listed : Array Bool) (cur : St) (done todo : List Nat) (F : Fr) : Prop where
  chk : chkL c es l.length done todo = true
  all : ∀ j, j < l.length → j ∈ done ∨ j ∈ todo
  cl : ∀ x ∈ done, ∀ y, memB c x y = true → y ∈ done
  fo : FrameOk l fr (· ∈ done) val F
  ly : LY P l K (wos l c es todo) F cur
  facts : FactsL P l c es fr done todo val listed cur
  unl : ∀ x ∈ todo, listed.getD x false = false
def GoodL (P : Program) (l : List Oper) (c : List (List Nat)) (es : List Nat) (fr : Fr) (K : Fr → St → Prop) (val : Nat → AV) (listed : Array Bool) (cur : St) : Prop :=
  ∃ done todo F, GoodS P l c es fr K val listed cur done todo F ∧ (todo = [] ∨ ∃ e r, todo = e :: r ∧ e ∈ es)
theorem wos_cons {i : Nat} {r : List Nat} {o : Oper} (h : l[i]? = some o) : wos l c es (i :: r) = ⟨i, inN i es, exB c i (nextE es r), o⟩ :: wos l c es r := by
  rw [wos, h]
theorem advL {listed : Array Bool} {cur : St} : ∀ (todo done : List Nat) (F : Fr) (val : Nat → AV), GoodS P l c es fr K val listed cur done todo F → ∃ val' : Nat → AV, (∀ j, j ∉ todo → val' j = val j) ∧ GoodL P l c es fr K val' listed cur
  | [], done, F, val, h => ⟨val, fun _ _ => rfl, done, [], F, h, .inl rfl⟩
  | i :: r, done, F, val, h => by
    by_cases hi : i ∈ es
    · exact ⟨val, fun _ _ => rfl, done, i :: r, F, h, .inr ⟨i, r, rfl, hi⟩⟩
    · obtain ⟨c1, c2, c3, _, c5⟩ := chkL_cons h.chk
      obtain ⟨o, ho⟩ : ∃ o, l[i]? = some o := ⟨_, List.getElem?_eq_getElem c1⟩
      have hie : inN i es = false := by
        cases hh : inN i es with
        | false => rfl
        | true => exact absurd ((inN_iff _ _).1 hh) hi
      have hly := h.ly
      rw [wos_cons ho] at hly
      cases hly with
      | eff he _ _ _ => dsimp only at he; rw [hie] at he; cases he
      | @pure _ _ _ _ v he hf hr =>
        dsimp only at hf hr
        have hne : ∀ j, j ∈ done → (fun j => if j = i then v else val j) j = val j := fun j hj => if_neg fun e : j = i => c3 (e ▸ hj)
        have hd : dstOf l i = o.dst := by unfold dstOf; rw [ho]
        have hF : FrameOk l fr (· ∈ i :: done) (fun j => if j = i then v else val j) (Ab.put F o.dst (some v)) := by
          have h6 := ((h.fo.congr (val' := fun j => if j = i then v else val j) (fun _ => Iff.rfl) hne).put i).congr (X' := (· ∈ i :: done)) (val' := fun j => if j = i then v else val j) (fun j => by rw [List.mem_cons]; exact or_comm) (fun _ _ => rfl)
          rw [hd] at h6
          simpa using h6
        have hnx : nextE es (i :: r) = nextE es r := by rw [nextE, hie, cond_false]
        obtain ⟨val', g1, g2⟩ := advL r (i :: done) (Ab.put F o.dst (some v)) (fun j => if j = i then v else val j) ⟨c5, fun j hj => by
            rcases h.all j hj with h | h
            · exact .inl (List.mem_cons_of_mem _ h)
            · rcases List.mem_cons.1 h with rfl | h
              · exact .inl (List.mem_cons_self ..)
              · exact .inr h, fun x hx y hy => by
            rcases List.mem_cons.1 hx with rfl | hx
            · exact List.mem_cons_of_mem _ (c2 y hy)
            · exact List.mem_cons_of_mem _ (h.cl x hx y hy), hF, hr, fun x hx hxl o' ho' => by
            rcases List.mem_cons.1 hx with rfl | hx
            · rw [ho] at ho'; cases ho'
              refine ⟨F, (· ∈ done), _, h.fo.congr (fun _ => Iff.rfl) hne, fun j hj => ⟨List.mem_cons_of_mem _ hj, fun e => c3 (e ▸ hj), ?_⟩, c2, by rw [if_pos rfl]; exact hf, fun he => ?_⟩
              · cases hm : memB c j x with
                | false => rfl
                | true => exact absurd (h.cl j hj x hm) c3
              · cases hn : nextE es r with
                | none => exact .inl rfl
                | some e =>
                  rw [hn] at he
                  exact .inr ⟨e, rfl, memB_iff.2 ((inN_iff _ _).1 he)⟩
            · obtain ⟨F', D, ex, f1, f2, f3, f4, f5⟩ := h.facts x hx hxl o' ho'
              refine ⟨F', D, ex, f1.congr (fun _ => Iff.rfl) (fun j hj => hne j (f2 j hj).1), fun j hj => ⟨List.mem_cons_of_mem _ (f2 j hj).1, (f2 j hj).2⟩, f3, by have e := hne x hx; dsimp only at e; rw [e]; exact f4, fun he => by rw [← hnx]; exact f5 he⟩, fun x hx => h.unl x (List.mem_cons_of_mem _ hx)⟩
        refine ⟨val', fun j hj => ?_, g2⟩
        rw [g1 j (fun hm => hj (List.mem_cons_of_mem _ hm))]
        exact if_neg fun e : j = i => hj (e ▸ List.mem_cons_self ..)
theorem stepL (hpl : PlanL l nt c) {val : Nat → AV} {listed : Array Bool} {cur : St} {i : Nat} {o : Oper} (hsz : listed.size = l.toArray.size) (hgood : GoodL P l c es fr K val listed cur) (hcl : ∀ x y, depT l.toArray x y → listed.getD x false = true → listed.getD y false = true) (hdeps : ∀ y, depT l.toArray i y → listed.getD y false = true) (hun : listed.getD i false = false) (ho : l.toArray[i]? = some o) : StepG P l.toArray fr (GoodL P l c es fr K) val listed cur i o := by
  obtain ⟨done, todo, F, h, htop⟩ := hgood
  have ho' : l[i]? = some o := by simpa using ho
  have hil : i < l.length := (List.getElem?_eq_some_iff.1 ho').1
  have hlt : i < listed.size := by rw [hsz]; simpa using hil
  have hgn : ∀ j, j ≠ i → (listed.setIfInBounds i true).getD j false = listed.getD j false := fun j hj => getD_set_ne false (Ne.symm hj)
  by_cases hid : i ∈ done
  · obtain ⟨F', D, ex, f1, f2, f3, f4, f5⟩ := h.facts i hid hun o ho'
    have hgood : GoodL P l c es fr K val (listed.setIfInBounds i true) cur := by
      refine ⟨done, todo, F, ⟨h.chk, h.all, h.cl, h.fo, h.ly, fun x hx hxl o' ho' => h.facts x hx (set_false hxl hlt).2 o' ho', fun x hx => ?_⟩, htop⟩
      rw [hgn x fun e => chkL_notin h.chk x hx (e ▸ hid)]
      exact h.unl x hx
    have hon : ∀ {E : Operand → Option AV}, OnL P ex cur o E (val i) → OpW P o E cur (fun r σ' => ∃ val' : Nat → AV, (∀ j, listed.getD j false = true → val' j = val j) ∧ r = val' i ∧ GoodL P l c es fr K val' (listed.setIfInBounds i true) σ') := fun {E} hO => by
      have hO' : OpW P o E cur (fun r' σ2 => r' = val i ∧ σ2 = cur) := by
        rcases hO with h | ⟨_, h⟩
        · exact h cur
        · exact h
      exact hO'.mono fun r σ' ⟨e1, e2⟩ => ⟨val, fun _ _ => rfl, e1, e2 ▸ hgood⟩
    refine ⟨F', f1.src2 hpl ho' f3 fun j hj => (f2 j hj).2, ?_⟩
    unfold FactY at f4
    cases hg : o.guard with
    | none => rw [hg] at f4; exact .inl ⟨rfl, hon f4⟩
    | some p =>
      obtain ⟨g, want⟩ := p
      rw [hg] at f4
      obtain ⟨t, b, cc, h1, h2, h3, h4, h5⟩ := f4
      obtain ⟨og, hog, hogt⟩ := dstOf_some h1
      exact .inr ⟨g, want, t, b, cc, rfl, by simp [hog, hogt], h2, h3, fun e => hon (h4 e), fun e => ⟨hgood, fun k => h5 e k⟩⟩
  · rcases htop with rfl | ⟨e, r, rfl, hee⟩
    · rcases h.all i hil with h | h
      · exact absurd h hid
      · cases h
    · obtain ⟨c1, c2, c3, c4, c5⟩ := chkL_cons h.chk
      have hie : i = e := by
        rcases h.all i hil with h1 | h1
        · exact absurd h1 hid
        · rcases List.mem_cons.1 h1 with h1 | h1
          · exact h1
          · have := hdeps e (hpl.dep _ _ (c4 hee i h1))
            rw [h.unl e (List.mem_cons_self ..)] at this; cases this
      subst hie
      have hly := h.ly
      rw [wos_cons ho'] at hly
      cases hly with
      | pure he _ _ => dsimp only at he; rw [(inN_iff _ _).2 hee] at he; cases he
      | @eff _ _ _ _ R he hg hw hr =>
        dsimp only at hg hw hr
        have key : OpW P o (ev F) cur (fun r σ' => ∃ val' : Nat → AV, (∀ j, listed.getD j false = true → val' j = val j) ∧ r = val' i ∧ GoodL P l c es fr K val' (listed.setIfInBounds i true) σ') := by
          refine hw.mono fun v σ1 hR => ?_
          have hne : ∀ j, j ∈ done → (fun j => if j = i then v else val j) j = val j := fun j hj => if_neg fun e : j = i => c3 (e ▸ hj)
          have hd : dstOf l i = o.dst := by unfold dstOf; rw [ho']
          have hF : FrameOk l fr (· ∈ i :: done) (fun j => if j = i then v else val j) (Ab.put F o.dst (some v)) := by
            have h6 := ((h.fo.congr (val' := fun j => if j = i then v else val j) (fun _ => Iff.rfl) hne).put i).congr (X' := (· ∈ i :: done)) (val' := fun j => if j = i then v else val j) (fun j => by rw [List.mem_cons]; exact or_comm) (fun _ _ => rfl)
            rw [hd] at h6
            simpa using h6
          obtain ⟨val', g1, g2⟩ := advL (P := P) (K := K) (es := es) (fr := fr) (listed := listed.setIfInBounds i true) (cur := σ1) r (i :: done) (Ab.put F o.dst (some v)) (fun j => if j = i then v else val j) ⟨c5, fun j hj => by
              rcases h.all j hj with h | h
              · exact .inl (List.mem_cons_of_mem _ h)
              · rcases List.mem_cons.1 h with rfl | h
                · exact .inl (List.mem_cons_self ..)
                · exact .inr h, fun x hx y hy => by
              rcases List.mem_cons.1 hx with rfl | hx
              · exact List.mem_cons_of_mem _ (c2 y hy)
              · exact List.mem_cons_of_mem _ (h.cl x hx y hy), hF, hr v σ1 hR, fun x hx hxl o' ho2 => by
              obtain ⟨k1, k2⟩ := set_false hxl hlt
              rcases List.mem_cons.1 hx with e | hx
              · exact absurd e k1
              · obtain ⟨F', D, ex, f1, f2, f3, f4, f5⟩ := h.facts x hx k2 o' ho2
                have hex : ex = false := by
                  cases hex : ex with
                  | false => rfl
                  | true =>
                    have f5 := f5 hex
                    rw [nextE, (inN_iff _ _).2 hee, cond_true] at f5
                    obtain ⟨e', q1, q2⟩ := f5.resolve_left (by simp)
                    cases q1
                    have := hdeps x (hpl.dep _ _ q2)
                    rw [k2] at this; cases this
                exact ⟨F', D, false, f1.congr (fun _ => Iff.rfl) (fun j hj => hne j (f2 j hj).1), fun j hj => ⟨List.mem_cons_of_mem _ (f2 j hj).1, (f2 j hj).2⟩, f3, by have e := hne x hx; dsimp only at e; rw [e]; exact f4.any hex, fun he => by cases he⟩, fun x hx => by
              have hxi : x ≠ i := fun e => chkL_notin c5 x hx (e ▸ List.mem_cons_self ..)
              rw [hgn x hxi]
              exact h.unl x (List.mem_cons_of_mem _ hx)⟩
          have hir : i ∉ r := fun hm => chkL_notin c5 i hm (List.mem_cons_self ..)
          refine ⟨val', fun j hj => ?_, ?_, g2⟩
          · have hji : j ≠ i := fun e => by rw [e, hun] at hj; cases hj
            rw [g1 j fun hm => by rw [h.unl j (List.mem_cons_of_mem _ hm)] at hj; cases hj]
            exact if_neg hji
          · rw [g1 i hir]
            exact (if_pos rfl).symm
        refine ⟨F, h.fo.src2 hpl ho' c2 fun j hj => ⟨fun e => c3 (e ▸ hj), ?_⟩, ?_⟩
        · cases hm : memB c j i with
          | false => rfl
          | true => exact absurd (h.cl j hj i hm) c3
        · rcases hg with hg | ⟨g, want, t, b, hg, h1, h2, h3⟩
          · exact .inl ⟨hg, key⟩
          · obtain ⟨og, hog, hogt⟩ := dstOf_some h1
            exact .inr ⟨g, want, t, b, true, hg, by simp [hog, hogt], h2, h3, fun _ => key, fun e => by cases e⟩
theorem cj_lay {id : Nat} {Q : Post} {σ : St} {ord : List Nat} (hmix : P.follows .mixedOrders = true) (hc : clo l [] = c) (hp : planB l nt c = true) (hch : chkL c es l.length [] ord = true) (hall : (List.range l.length).all (fun j => inN j ord) = true) (hly : LY P l (fun F s => Q .normal F s) (wos l c es ord) fr σ) : CJ P nt (.region id l.toArray true) Q fr σ := fun k a hσ hk hz hf => by
  have hpl := planL hc hp
  have hstep : ∀ (val : Nat → AV) (listed : Array Bool) (cur : St) (i : Nat) (o : Oper), listed.size = l.toArray.size → GoodL P l c es fr (fun F s => Q .normal F s) val listed cur → (∀ x y, depT l.toArray x y → listed.getD x false = true → listed.getD y false = true) → (∀ y, depT l.toArray i y → listed.getD y false = true) → listed.getD i false = false → l.toArray[i]? = some o → StepG P l.toArray fr (GoodL P l c es fr (fun F s => Q .normal F s)) val listed cur i o :=
    fun val listed cur i o hsz hg hcl hdeps hun ho => stepL hpl hsz hg hcl hdeps hun ho
  obtain ⟨hok', hst'⟩ := hk.drawn (k.w.drawn + 1)
  refine wp_region_any hmix ?_
  have hrepl : ∀ x, (Array.replicate l.toArray.size false).getD x false = false := fun x => by
    rw [Array.getD_eq_getD_getElem?, Array.getElem?_replicate]
    split <;> rfl
  obtain ⟨val0, _, hgood0⟩ := advL (P := P) (c := c) (es := es) (fr := fr) (K := fun F s => Q .normal F s) (listed := Array.replicate l.toArray.size false) (cur := σ) ord [] fr (fun _ => .tup []) ⟨hch, fun j hj => .inr ((inN_iff _ _).1 (List.all_eq_true.1 hall j (List.mem_range.2 hj))), fun x hx => (by cases hx), (FrameOk.start l fr _).congr (fun j => by simp) (fun _ _ => rfl), hly, fun x hx => (by cases hx), fun x _ => hrepl x⟩
  have := run_planG (fr := fr) (Q := Q) (k0 := k) (a0 := a) hpl.plan hstep (fun val listed cur k' a' hsz hg hall hs hdf hσ' hok hz' hnew hold => ?_) l.toArray.size (Array.replicate l.toArray.size false) { k with w := { k.w with drawn := k.w.drawn + 1 } } a val0 σ (by simp) (by simp) hgood0
    ⟨hσ, hok', hz, (fun i j hi => by rw [hrepl] at hi; cases hi), fun j oj t _ _ h => (by rw [hrepl] at h; cases h), fun t av h _ => (hf.step hst') t av h⟩ hst' rfl
  · exact this
  · obtain ⟨done, todo, F, h, htop⟩ := hg
    have ht : todo = [] := by
      rcases htop with h | ⟨e, r, rfl, _⟩
      · exact h
      · obtain ⟨c1, _⟩ := chkL_cons h.chk
        have := hall e (by simpa using c1)
        rw [h.unl e (List.mem_cons_self ..)] at this; cases this
    subst ht
    have hly := h.ly
    cases hly with
    | nil hK =>
      refine ⟨hdf, hz'.trans hz.symm, k', .normal, F, rfl, hok, hs, fun t av ht => ?_, trivial, by rw [hσ']; exact hK⟩
      rcases h.fo t av ht with ⟨j, h1, h2, rfl⟩ | ⟨h1, h2⟩
      · obtain ⟨oj, hoj, hojt⟩ := dstOf_some h2
        exact hnew j oj t (by simpa using hoj) hojt
      · exact hold t av h2 fun j oj hoj hojt => h1 j (by
          have hj := (List.getElem?_eq_some_iff.1 (show l[j]? = some oj by simpa using hoj)).1
          rcases h.all j hj with h | h
          · exact h
          · cases h) (dstOf_of (by simpa using hoj) hojt)
end
end Go.Proofs.YtbpoeggmpjepfaaDoor.Ab

/- Abstract values over the model's memory: the steps of AbLy's regions. -/
set_option linter.unusedVariables false
set_option linter.unusedSimpArgs false
set_option maxRecDepth 20000
namespace Go.Proofs.YtbpoeggmpjepfaaDoor.Ab
open Go
def wosO (l : List Oper) (c : List (List Nat)) (es : List Nat) : List Nat → Option (List WO)
  | [] => some []
  | i :: r => match l[i]?, wosO l c es r with
    | some o, some ws => some (⟨i, inN i es, exB c i (nextE es r), o⟩ :: ws)
    | _, _ => none
theorem wosO_eq {l : List Oper} {c : List (List Nat)} {es : List Nat} : ∀ {ord : List Nat} {ws : List WO}, wosO l c es ord = some ws → wos l c es ord = ws
  | [], ws, h => by cases h; rfl
  | i :: r, ws, h => by
    unfold wosO at h
    unfold wos
    cases ho : l[i]? with
    | none => rw [ho] at h; cases h
    | some o =>
      cases hr : wosO l c es r with
      | none => rw [ho, hr] at h; cases h
      | some w =>
        rw [ho, hr] at h
        cases h
        dsimp only
        rw [wosO_eq hr]
/-- A nil slice, whatever its kind. -/
theorem Wk.nilk {f : Bool} {s : Nat} (sz : Nat) : Wk (.sl (some true) f s []) (.sl none false sz []) := fun k u h => Wk.sl _ _ _ _ k u (reNil_rep (r := some (.sl (some true) f s [])) (sz := sz) (fun b hb => by cases hb; exact h) rfl)
/-- A nil slice that is made is a row of our own. -/
theorem opw_ghostnil {P : Program} {o : Oper} {E : Operand → Option AV} {σ : St} {f : Bool} {s : Nat} (sz : Nat) (et : TypeId) (h : OpW P o E σ (fun r σ' => r = .sl (some true) f s [] ∧ σ' = σ)) : OpW P o E σ (fun r σ' => ∃ id, σ id = none ∧ r = .osl id sz 0 0 ∧ σ' = σ.set id (.row sz et [])) := fun k a K Q hσ hk hr hK => h k a K Q hσ hk hr fun k' v r hok hst hR hrep => by
  obtain ⟨rfl, hσ'⟩ := hR
  obtain ⟨hok2, hst2⟩ := hok.nilRow sz et
  have hv : v = .slice none 0 0 := by
    cases hrep with
    | slnil => rfl
    | sle hn => exact absurd rfl hn
    | sl hn => exact absurd rfl hn
  subst hv
  exact hK { k' with ρ := fun x => if x = k'.top then none else k'.ρ x, top := k'.top + 1, σ := k'.σ.set k'.top (.row sz et []) } _ (.osl k'.top sz 0 0) hok2 (hst.trans hst2) ⟨k'.top, hσ' ▸ hok.fresh, rfl, by rw [hσ']⟩ (.oslnil (by simp) (by simp))
/-- A method's value is called. -/
theorem opw_callb {P : Program} {dst : Option Tmp} {ty : TypeId} {pos : String} {aft : Array Edge} {gd : Option (Nat × Bool)} {f : FuncId} {x : Operand} {xs : Array Operand} {ts : Array TypeId} {fr : Fr} {pre us : List AV} {σ : St} {r : AV} (hx : ev fr x = some (.bf f pre)) (has : evs fr xs.toList = some us) (hent : entered P f = true) (hp : Pure P f (pre ++ us) r) : OpW P ⟨dst, .call { callee := .value x, args := xs, argTypes := ts }, ty, pos, aft, gd⟩ (ev fr) σ (fun r' σ' => r' = r ∧ σ' = σ) :=
  OpW.forget fun k a K Q hσ hk hr hK => by
    have hargs := evs_reps_on hr xs.toList us (fun x hx => by simp [Op.operands, Call.operands]; exact .inr (by simpa using hx)) (evs_mapM fr _ _ has)
    have hxr := hr x (by simp [Op.operands, Call.operands]) _ hx
    generalize hu : a.eval x = u at hxr
    cases hxr with
    | bf hl hcap =>
      rename_i vs
      have hcaps : Reps k pre vs.toList := ⟨by simp [hl], fun j b v hj hv => hcap j b v hj (by simpa using hv)⟩
      have hrun : (execOp a.eval ⟨dst, .call { callee := .value x, args := xs, argTypes := ts }, ty, pos, aft, gd⟩).run P k.w = .ok (.enter f (vs ++ xs.map a.eval)) k.w := by
        unfold execOp
        simp only [resolve, hu, Deferred.ofValue, invoke, Sem.run_bind, Sem.run_pure, Result.andThen_ok, run_callFunc hent]
        simp
      unfold Oper.wp
      rw [hrun]
      simp only [Oper.upon]
      have hvs : (vs ++ xs.map a.eval) = (vs.toList ++ xs.toList.map a.eval).toArray := by simp
      rw [hvs]
      refine (hp σ k _ hσ hk (hcaps.append hargs)).mono fun e w' ⟨k', e', h1, h2, h3, h4, h5⟩ => ?_
      subst h1
      obtain ⟨h5, h6⟩ := h5
      subst h5
      cases e with
      | returned v => exact hK k' v r h2 h3 ⟨rfl, h6⟩ h4
      | panicked ch => exact h4.elim
      | outgrown => exact h4.elim
section
variable {P : Program} {l : List Oper} {c : List (List Nat)} {es : List Nat} {nt : Nat} {ef ex : Bool} {σ : St} {K : Fr → St → Prop} {i : Nat} {fr : Fr} {rest : List WO} {t : Tmp} {op : Op} {ty : TypeId} {pos : String} {aft : Array Edge} {av : AV} {dst : Option Tmp}
/-- A region that draws its order; the operations that turn the store, and the order of the walk. -/
theorem cqy (es ord : List Nat) {ws : List WO} {id : Nat} {Q : Post} (h : LY P l (fun F s => Q .normal F s) ws fr σ) (hc : clo l [] = c := by exact rfl) (hw : wosO l c es ord = some ws := by exact rfl) (hmix : P.follows .mixedOrders = true := by kernel_rfl) (hp : planB l nt c = true := by kernel_rfl) (hch : chkL c es l.length [] ord = true := by kernel_rfl) (hall : (List.range l.length).all (fun j => inN j ord) = true := by kernel_rfl) : CJ P nt (.region id l.toArray true) Q fr σ :=
  cj_lay hmix hc hp hch hall (by rw [wosO_eq hw]; exact h)
theorem yl {ws : List WO} (h : LY P l K ws fr σ) : LY P l K ws fr σ := h
theorem ynil (h : K fr σ) : LY P l K [] fr σ := .nil h
theorem fy_none {o : Oper} {r : AV} (hg : o.guard = none) (h : OnL P ex σ o (ev fr) r) : FactY P l ex σ fr o r := by
  unfold FactY; rw [hg]; exact h
theorem fy_yes {o : Oper} {r : AV} {g u : Nat} {b : Bool} (hg : o.guard = some (g, b)) (hj : dstOf l g = some u) (hl : lk fr u = some (.v (.bool b))) (h : OnL P ex σ o (ev fr) r) : FactY P l ex σ fr o r := by
  unfold FactY; rw [hg]
  cases b with
  | true => exact ⟨_, _, true, hj, hl, rfl, fun _ => h, fun e => by cases e⟩
  | false => exact ⟨_, _, true, hj, hl, rfl, fun _ => h, fun e => by cases e⟩
theorem fy_q {o : Oper} {r b : AV} {g u : Nat} {w cc : Bool} (hg : o.guard = some (g, w)) (hj : dstOf l g = some u) (hl : lk fr u = some b) (hgc : gc b w = some cc) (h : cc = true → OnL P ex σ o (ev fr) (.mb cc r)) : FactY P l ex σ fr o (.mb cc r) := by
  unfold FactY; rw [hg]
  exact ⟨_, b, cc, hj, hl, hgc, h, fun e k => Rep.mb_false e⟩
theorem ly_n {j u : Nat} {b w : Bool} (he : ef = false) (hj : dstOf l j = some u) (hl : lk fr u = some (.v (.bool b))) (hne : (b == w) = false) (h : LY P l K rest (put fr dst (some (.tup []))) σ) : LY P l K (⟨i, ef, ex, ⟨dst, op, ty, pos, aft, some (j, w)⟩⟩ :: rest) fr σ :=
  .pure he (r := .tup []) (by
    unfold FactY
    have hu : ∀ k, Rep k (.tup []) undef := fun k => .tup (by simp [undef]) (fun j a u h _ => by simp at h)
    cases b <;> cases w <;> first | (cases hne; done) | exact ⟨_, _, false, hj, hl, rfl, (fun e => by cases e), fun _ => hu⟩) h
theorem ly_v (he : ef = false) (hJ : ∀ (σ' : St) (R : Option AV → St → Prop), R (some av) σ' → OpJ P ⟨some t, op, ty, pos, aft, none⟩ (ev fr) σ' R) (h : LY P l K rest ((t, av) :: fr) σ) : LY P l K (⟨i, ef, ex, ⟨some t, op, ty, pos, aft, none⟩⟩ :: rest) fr σ :=
  .pure he (fy_none rfl (.inl fun σ' => opw_of (r := some av) (hJ σ'))) h
theorem ly_vy {j u : Nat} {b : Bool} (he : ef = false) (hj : dstOf l j = some u) (hl : lk fr u = some (.v (.bool b))) (hJ : ∀ (σ' : St) (R : Option AV → St → Prop), R (some av) σ' → OpJ P ⟨some t, op, ty, pos, aft, some (j, b)⟩ (ev fr) σ' R) (h : LY P l K rest ((t, av) :: fr) σ) : LY P l K (⟨i, ef, ex, ⟨some t, op, ty, pos, aft, some (j, b)⟩⟩ :: rest) fr σ :=
  .pure he (fy_yes rfl hj hl (.inl fun σ' => opw_of (r := some av) (hJ σ'))) h
theorem ly_vq {j u : Nat} {w cc : Bool} {b : AV} (he : ef = false) (hj : dstOf l j = some u) (hl : lk fr u = some b) (hgc : gc b w = some cc) (hn : Needs cc fr op.operands.toList) (hJ : cc = true → ∀ (σ' : St) (R : Option AV → St → Prop), R (some av) σ' → OpJ P ⟨some t, op, ty, pos, aft, some (j, w)⟩ (ev (strip fr)) σ' R) (h : LY P l K rest ((t, .mb cc av) :: fr) σ) : LY P l K (⟨i, ef, ex, ⟨some t, op, ty, pos, aft, some (j, w)⟩⟩ :: rest) fr σ :=
  .pure he (fy_q rfl hj hl hgc fun hc => .inl fun σ' => (OpW.strip (o := ⟨some t, op, ty, pos, aft, some (j, w)⟩) hn hc (opw_of (r := some av) (hJ hc σ'))).mb hc) h
theorem ly_vq0 {j u : Nat} {w cc : Bool} {b : AV} (he : ef = false) (hj : dstOf l j = some u) (hl : lk fr u = some b) (hgc : gc b w = some cc) (hJ : cc = true → ∀ (σ' : St) (R : Option AV → St → Prop), R (some av) σ' → OpJ P ⟨some t, op, ty, pos, aft, some (j, w)⟩ (ev fr) σ' R) (h : LY P l K rest ((t, .mb cc av) :: fr) σ) : LY P l K (⟨i, ef, ex, ⟨some t, op, ty, pos, aft, some (j, w)⟩⟩ :: rest) fr σ :=
  .pure he (fy_q rfl hj hl hgc fun hc => .inl fun σ' => (opw_of (r := some av) (hJ hc σ')).mb hc) h
/-- One that reads what is there now. -/
theorem ly_l (he : ef = false) (hm : ex = true) (hJ : ∀ (R : Option AV → St → Prop), R (some av) σ → OpJ P ⟨some t, op, ty, pos, aft, none⟩ (ev fr) σ R) (h : LY P l K rest ((t, av) :: fr) σ) : LY P l K (⟨i, ef, ex, ⟨some t, op, ty, pos, aft, none⟩⟩ :: rest) fr σ :=
  .pure he (fy_none rfl (.inr ⟨hm, opw_of (r := some av) hJ⟩)) h
theorem ly_ly {j u : Nat} {b : Bool} (he : ef = false) (hm : ex = true) (hj : dstOf l j = some u) (hl : lk fr u = some (.v (.bool b))) (hJ : ∀ (R : Option AV → St → Prop), R (some av) σ → OpJ P ⟨some t, op, ty, pos, aft, some (j, b)⟩ (ev fr) σ R) (h : LY P l K rest ((t, av) :: fr) σ) : LY P l K (⟨i, ef, ex, ⟨some t, op, ty, pos, aft, some (j, b)⟩⟩ :: rest) fr σ :=
  .pure he (fy_yes rfl hj hl (.inr ⟨hm, opw_of (r := some av) hJ⟩)) h
theorem ly_lq {j u : Nat} {w cc : Bool} {b : AV} (he : ef = false) (hm : ex = true) (hj : dstOf l j = some u) (hl : lk fr u = some b) (hgc : gc b w = some cc) (hn : Needs cc fr op.operands.toList) (hJ : cc = true → ∀ (R : Option AV → St → Prop), R (some av) σ → OpJ P ⟨some t, op, ty, pos, aft, some (j, w)⟩ (ev (strip fr)) σ R) (h : LY P l K rest ((t, .mb cc av) :: fr) σ) : LY P l K (⟨i, ef, ex, ⟨some t, op, ty, pos, aft, some (j, w)⟩⟩ :: rest) fr σ :=
  .pure he (fy_q rfl hj hl hgc fun hc => .inr ⟨hm, (OpW.strip (o := ⟨some t, op, ty, pos, aft, some (j, w)⟩) hn hc (opw_of (r := some av) (hJ hc))).mb hc⟩) h
/-- One that turns the store. -/
theorem ly_e {o : Oper} {R : AV → St → Prop} (he : ef = true) (hg : o.guard = none) (hw : OpW P o (ev fr) σ R) (h : ∀ r σ1, R r σ1 → LY P l K rest (put fr o.dst (some r)) σ1) : LY P l K (⟨i, ef, ex, o⟩ :: rest) fr σ :=
  .eff he (.inl hg) hw h
theorem ybd {bt : TypeId} {parts : Array (Nat × Operand)} {av0 : AV} (h : LY P l K rest ((t, av) :: fr) σ) (hbs : ef = false := by exact rfl) (hv : valOp P fr (.build bt parts) = some av0 := by exact rfl) (hn : av0 = av := by (first | (apply nf_agg; (repeat' (first | exact nf_nil | apply nf_cons | exact nf_v | exact nf_sl | exact nf_osl | exact nf_ptr | exact nf_fp | exact nf_mp | exact nf_fn | exact nf_ifc | exact nf_it | exact nf_mb | exact rfl))) | exact nf_v | exact nf_sl | exact nf_osl | exact nf_ptr | exact nf_fp | exact nf_mp | exact nf_fn | exact nf_ifc | exact nf_it | exact nf_mb | exact rfl)) : LY P l K (⟨i, ef, ex, ⟨some t, .build bt parts, ty, pos, aft, none⟩⟩ :: rest) fr σ := ly_v hbs (fun _ R hR => opj_valOp (hn ▸ hv) hR) h
theorem ybl {lt : TypeId} {x : Operand} {av0 : AV} (h : LY P l K rest ((t, av) :: fr) σ) (hbs : ef = false := by exact rfl) (hv : valOp P fr (.load lt x) = some av0 := by exact rfl) (hn : av0 = av := by (first | (apply nf_agg; (repeat' (first | exact nf_nil | apply nf_cons | exact nf_v | exact nf_sl | exact nf_osl | exact nf_ptr | exact nf_fp | exact nf_mp | exact nf_fn | exact nf_ifc | exact nf_it | exact nf_mb | exact rfl))) | exact nf_v | exact nf_sl | exact nf_osl | exact nf_ptr | exact nf_fp | exact nf_mp | exact nf_fn | exact nf_ifc | exact nf_it | exact nf_mb | exact rfl)) : LY P l K (⟨i, ef, ex, ⟨some t, .load lt x, ty, pos, aft, none⟩⟩ :: rest) fr σ := ly_v hbs (fun _ R hR => opj_valOp (hn ▸ hv) hR) h
theorem y1 (h : LY P l K rest ((t, av) :: fr) σ) (hbs : ef = false := by exact rfl) (hv : valOp P fr op = some av := by exact rfl) : LY P l K (⟨i, ef, ex, ⟨some t, op, ty, pos, aft, none⟩⟩ :: rest) fr σ := ly_v hbs (fun _ R hR => opj_valOp hv hR) h
theorem y2 {j u : Nat} {b : Bool} {a : AV} (h : LY P l K rest ((t, av) :: fr) σ) (hbs : ef = false := by exact rfl) (hj : dstOf l j = some u := by exact rfl) (hl : lk fr u = some a := by exact rfl) (hb : a = .v (.bool b) := by with_reducible rfl) (hv : valOp P fr op = some av := by exact rfl) : LY P l K (⟨i, ef, ex, ⟨some t, op, ty, pos, aft, some (j, b)⟩⟩ :: rest) fr σ := ly_vy hbs hj (hb ▸ hl) (fun _ R hR => opj_valOp hv hR) h
theorem y3 {j u : Nat} {a : AV} (h : LY P l K rest ((t, .tup []) :: fr) σ) (hbs : ef = false := by exact rfl) (hj : dstOf l j = some u := by exact rfl) (hl : lk fr u = some a := by exact rfl) (hb : a = .v (.bool false) := by with_reducible rfl) : LY P l K (⟨i, ef, ex, ⟨some t, op, ty, pos, aft, some (j, true)⟩⟩ :: rest) fr σ := ly_n (dst := some t) hbs hj (hb ▸ hl) rfl h
theorem y3f {j u : Nat} {a : AV} (h : LY P l K rest ((t, .tup []) :: fr) σ) (hbs : ef = false := by exact rfl) (hj : dstOf l j = some u := by exact rfl) (hl : lk fr u = some a := by exact rfl) (hb : a = .v (.bool true) := by with_reducible rfl) : LY P l K (⟨i, ef, ex, ⟨some t, op, ty, pos, aft, some (j, false)⟩⟩ :: rest) fr σ := ly_n (dst := some t) hbs hj (hb ▸ hl) rfl h
theorem y7 {x y z : Operand} {b vy : Bool} (h : LY P l K rest ((t, .v (.bool (b || vy))) :: fr) σ) (hbs : ef = false := by exact rfl) (hc : ev fr x = some (.v (.bool b)) := by exact rfl) (hx : ev fr y = some (.v (.bool true)) := by exact rfl) (hy : ev fr z = some (.mb (!b) (.v (.bool vy))) := by exact rfl) : LY P l K (⟨i, ef, ex, ⟨some t, .pick x y z, ty, pos, aft, none⟩⟩ :: rest) fr σ := ly_v hbs (fun _ R hR => opj_or rfl hc hx hy hR) h
theorem y8 {x y z : Operand} {b vy : Bool} (h : LY P l K rest ((t, .v (.bool (b && vy))) :: fr) σ) (hbs : ef = false := by exact rfl) (hc : ev fr x = some (.v (.bool b)) := by exact rfl) (hx : ev fr y = some (.mb b (.v (.bool vy))) := by exact rfl) (hy : ev fr z = some (.v (.bool false)) := by exact rfl) : LY P l K (⟨i, ef, ex, ⟨some t, .pick x y z, ty, pos, aft, none⟩⟩ :: rest) fr σ := ly_v hbs (fun _ R hR => opj_and rfl hc hx hy hR) h
theorem y9 {j u : Nat} {w cc : Bool} {a : AV} (h : LY P l K rest ((t, .mb cc av) :: fr) σ) (hbs : ef = false := by exact rfl) (hj : dstOf l j = some u := by exact rfl) (hl : lk fr u = some a := by exact rfl) (hg : gc a w = some cc := by exact rfl) (hv : valOp P (strip fr) op = some av := by exact rfl) (hn : Needs cc fr op.operands.toList := by repeat' (first | exact True.intro | refine And.intro ?_ ?_ | exact nd0 rfl | exact nd1 rfl | exact nd2 rfl | exact nd3 rfl | exact nd4 rfl)) : LY P l K (⟨i, ef, ex, ⟨some t, op, ty, pos, aft, some (j, w)⟩⟩ :: rest) fr σ := ly_vq hbs hj hl hg hn (fun _ _ R hR => opj_valOp hv hR) h
theorem y10 {j u : Nat} {w cc : Bool} {a : AV} {x y z : Operand} {b vy : Bool} (h : LY P l K rest ((t, .mb cc (.v (.bool (b || vy)))) :: fr) σ) (hbs : ef = false := by exact rfl) (hj : dstOf l j = some u := by exact rfl) (hl : lk fr u = some a := by exact rfl) (hg : gc a w = some cc := by exact rfl) (hc : ev fr x = some (.mb cc (.v (.bool b))) := by exact rfl) (hx : ev fr y = some (.v (.bool true)) := by exact rfl) (hy : ev fr z = some (.mb (cc && !b) (.v (.bool vy))) := by exact rfl) : LY P l K (⟨i, ef, ex, ⟨some t, .pick x y z, ty, pos, aft, some (j, w)⟩⟩ :: rest) fr σ := ly_vq0 hbs hj hl hg (fun h σ R hR => opj_orq rfl hc hx hy h hR) h
theorem y11 {j u : Nat} {w cc : Bool} {a : AV} {x y z : Operand} {b vy : Bool} (h : LY P l K rest ((t, .mb cc (.v (.bool (b && vy)))) :: fr) σ) (hbs : ef = false := by exact rfl) (hj : dstOf l j = some u := by exact rfl) (hl : lk fr u = some a := by exact rfl) (hg : gc a w = some cc := by exact rfl) (hc : ev fr x = some (.mb cc (.v (.bool b))) := by exact rfl) (hx : ev fr y = some (.mb (cc && b) (.v (.bool vy))) := by exact rfl) (hy : ev fr z = some (.v (.bool false)) := by exact rfl) : LY P l K (⟨i, ef, ex, ⟨some t, .pick x y z, ty, pos, aft, some (j, w)⟩⟩ :: rest) fr σ := ly_vq0 hbs hj hl hg (fun h σ R hR => opj_andq rfl hc hx hy h hR) h
theorem y14 {lt : TypeId} {x : Operand} {q : Option Nat} {id sz ii jj : Nat} {elem : TypeId} {els : List (List AV)} {el : List AV} {av0 : AV} (h : LY P l K rest ((t, av) :: fr) σ) (hbs : ef = false := by exact rfl) (hx : ev fr x = some (.ptr id sz ii jj) := by exact rfl) (hq : shapeOf P lt = some q := by exact rfl) (hσ : σ id = some (.row sz elem els) := by first | exact St.set_same _ _ _ | assumption | (repeat' (first | exact St.set_same _ _ _ | assumption | refine St.set_keep (by assumption) ?_ | refine St.set_ne2 (by first | assumption | exact St.nn0 (by assumption) | exact St.nn1 (by assumption) | exact St.nn2 (by assumption) | exact St.nn3 (by assumption) | exact St.nn4 (by assumption) | exact St.nn5 (by assumption) | exact St.nn6 (by assumption) | exact St.nn7 (by assumption) | exact St.nn8 (by assumption) | exact St.nn9 (by assumption) | exact St.nn10 (by assumption) | exact St.nn11 (by assumption) | exact St.nn12 (by assumption) | exact St.nn13 (by assumption) | exact Ne.symm (St.nn0 (by assumption)) | exact Ne.symm (St.nn1 (by assumption)) | exact Ne.symm (St.nn2 (by assumption)) | exact Ne.symm (St.nn3 (by assumption)) | exact Ne.symm (St.nn4 (by assumption)) | exact Ne.symm (St.nn5 (by assumption)) | exact Ne.symm (St.nn6 (by assumption)) | exact Ne.symm (St.nn7 (by assumption)) | exact Ne.symm (St.nn8 (by assumption)) | exact Ne.symm (St.nn9 (by assumption)) | exact Ne.symm (St.nn10 (by assumption)) | exact Ne.symm (St.nn11 (by assumption)) | exact Ne.symm (St.nn12 (by assumption)) | exact Ne.symm (St.nn13 (by assumption)) | exact St.ne_ns (by assumption) (by repeat' (first | exact St.sn_of (by assumption) | refine St.setn ?_))) ?_))) (he : els[ii]? = some el := by exact rfl) (hp : load? (el.drop jj) q = some av0 := by exact rfl) (hnn : av0 = av := by (first | (apply nf_agg; (repeat' (first | exact nf_nil | apply nf_cons | exact nf_v | exact nf_sl | exact nf_osl | exact nf_ptr | exact nf_fp | exact nf_mp | exact nf_fn | exact nf_ifc | exact nf_it | exact nf_mb | exact rfl))) | exact nf_v | exact nf_sl | exact nf_osl | exact nf_ptr | exact nf_fp | exact nf_mp | exact nf_fn | exact nf_ifc | exact nf_it | exact nf_mb | exact rfl)) (hm : ex = true := by kernel_rfl) : LY P l K (⟨i, ef, ex, ⟨some t, .load lt x, ty, pos, aft, none⟩⟩ :: rest) fr σ := ly_l hbs hm (fun R hR => opj_load_ptr rfl hq hx hσ he (hnn ▸ hp) hR) h
theorem y15 {lt : TypeId} {x : Operand} {q : Option Nat} {id sz ii jj : Nat} {elem : TypeId} {els : List (List AV)} {el : List AV} {av0 : AV} {j u : Nat} {b : Bool} {a : AV} (h : LY P l K rest ((t, av) :: fr) σ) (hbs : ef = false := by exact rfl) (hj : dstOf l j = some u := by exact rfl) (hl : lk fr u = some a := by exact rfl) (hb : a = .v (.bool b) := by with_reducible rfl) (hx : ev fr x = some (.ptr id sz ii jj) := by exact rfl) (hq : shapeOf P lt = some q := by exact rfl) (hσ : σ id = some (.row sz elem els) := by first | exact St.set_same _ _ _ | assumption | (repeat' (first | exact St.set_same _ _ _ | assumption | refine St.set_keep (by assumption) ?_ | refine St.set_ne2 (by first | assumption | exact St.nn0 (by assumption) | exact St.nn1 (by assumption) | exact St.nn2 (by assumption) | exact St.nn3 (by assumption) | exact St.nn4 (by assumption) | exact St.nn5 (by assumption) | exact St.nn6 (by assumption) | exact St.nn7 (by assumption) | exact St.nn8 (by assumption) | exact St.nn9 (by assumption) | exact St.nn10 (by assumption) | exact St.nn11 (by assumption) | exact St.nn12 (by assumption) | exact St.nn13 (by assumption) | exact Ne.symm (St.nn0 (by assumption)) | exact Ne.symm (St.nn1 (by assumption)) | exact Ne.symm (St.nn2 (by assumption)) | exact Ne.symm (St.nn3 (by assumption)) | exact Ne.symm (St.nn4 (by assumption)) | exact Ne.symm (St.nn5 (by assumption)) | exact Ne.symm (St.nn6 (by assumption)) | exact Ne.symm (St.nn7 (by assumption)) | exact Ne.symm (St.nn8 (by assumption)) | exact Ne.symm (St.nn9 (by assumption)) | exact Ne.symm (St.nn10 (by assumption)) | exact Ne.symm (St.nn11 (by assumption)) | exact Ne.symm (St.nn12 (by assumption)) | exact Ne.symm (St.nn13 (by assumption)) | exact St.ne_ns (by assumption) (by repeat' (first | exact St.sn_of (by assumption) | refine St.setn ?_))) ?_))) (he : els[ii]? = some el := by exact rfl) (hp : load? (el.drop jj) q = some av0 := by exact rfl) (hnn : av0 = av := by (first | (apply nf_agg; (repeat' (first | exact nf_nil | apply nf_cons | exact nf_v | exact nf_sl | exact nf_osl | exact nf_ptr | exact nf_fp | exact nf_mp | exact nf_fn | exact nf_ifc | exact nf_it | exact nf_mb | exact rfl))) | exact nf_v | exact nf_sl | exact nf_osl | exact nf_ptr | exact nf_fp | exact nf_mp | exact nf_fn | exact nf_ifc | exact nf_it | exact nf_mb | exact rfl)) (hm : ex = true := by kernel_rfl) : LY P l K (⟨i, ef, ex, ⟨some t, .load lt x, ty, pos, aft, some (j, b)⟩⟩ :: rest) fr σ := ly_ly hbs hm hj (hb ▸ hl) (fun R hR => opj_load_ptr rfl hq hx hσ he (hnn ▸ hp) hR) h
theorem y16 {lt : TypeId} {x : Operand} {q : Option Nat} {id sz ii jj : Nat} {elem : TypeId} {els : List (List AV)} {el : List AV} {av0 : AV} {j u : Nat} {w cc : Bool} {a : AV} (h : LY P l K rest ((t, .mb cc av) :: fr) σ) (hbs : ef = false := by exact rfl) (hj : dstOf l j = some u := by exact rfl) (hl : lk fr u = some a := by exact rfl) (hg : gc a w = some cc := by exact rfl) (hx : ev (strip fr) x = some (.ptr id sz ii jj) := by exact rfl) (hq : shapeOf P lt = some q := by exact rfl) (hσ : σ id = some (.row sz elem els) := by first | exact St.set_same _ _ _ | assumption | (repeat' (first | exact St.set_same _ _ _ | assumption | refine St.set_keep (by assumption) ?_ | refine St.set_ne2 (by first | assumption | exact St.nn0 (by assumption) | exact St.nn1 (by assumption) | exact St.nn2 (by assumption) | exact St.nn3 (by assumption) | exact St.nn4 (by assumption) | exact St.nn5 (by assumption) | exact St.nn6 (by assumption) | exact St.nn7 (by assumption) | exact St.nn8 (by assumption) | exact St.nn9 (by assumption) | exact St.nn10 (by assumption) | exact St.nn11 (by assumption) | exact St.nn12 (by assumption) | exact St.nn13 (by assumption) | exact Ne.symm (St.nn0 (by assumption)) | exact Ne.symm (St.nn1 (by assumption)) | exact Ne.symm (St.nn2 (by assumption)) | exact Ne.symm (St.nn3 (by assumption)) | exact Ne.symm (St.nn4 (by assumption)) | exact Ne.symm (St.nn5 (by assumption)) | exact Ne.symm (St.nn6 (by assumption)) | exact Ne.symm (St.nn7 (by assumption)) | exact Ne.symm (St.nn8 (by assumption)) | exact Ne.symm (St.nn9 (by assumption)) | exact Ne.symm (St.nn10 (by assumption)) | exact Ne.symm (St.nn11 (by assumption)) | exact Ne.symm (St.nn12 (by assumption)) | exact Ne.symm (St.nn13 (by assumption)) | exact St.ne_ns (by assumption) (by repeat' (first | exact St.sn_of (by assumption) | refine St.setn ?_))) ?_))) (he : els[ii]? = some el := by exact rfl) (hp : load? (el.drop jj) q = some av0 := by exact rfl) (hnn : av0 = av := by (first | (apply nf_agg; (repeat' (first | exact nf_nil | apply nf_cons | exact nf_v | exact nf_sl | exact nf_osl | exact nf_ptr | exact nf_fp | exact nf_mp | exact nf_fn | exact nf_ifc | exact nf_it | exact nf_mb | exact rfl))) | exact nf_v | exact nf_sl | exact nf_osl | exact nf_ptr | exact nf_fp | exact nf_mp | exact nf_fn | exact nf_ifc | exact nf_it | exact nf_mb | exact rfl)) (hm : ex = true := by kernel_rfl) (hn : Needs cc fr (Op.load lt x).operands.toList := by repeat' (first | exact True.intro | refine And.intro ?_ ?_ | exact nd0 rfl | exact nd1 rfl | exact nd2 rfl | exact nd3 rfl | exact nd4 rfl)) : LY P l K (⟨i, ef, ex, ⟨some t, .load lt x, ty, pos, aft, some (j, w)⟩⟩ :: rest) fr σ := ly_lq hbs hm hj hl hg hn (fun _ R hR => opj_load_ptr rfl hq hx hσ he (hnn ▸ hp) hR) h
theorem y18 {st : TypeId} {x ix : Operand} {s : ByteArray} {kk : IntKind} {n : Int} (h : LY P l K rest ((t, .v (.int .u8 (sb s n))) :: fr) σ) (hbs : ef = false := by exact rfl) (ht : P.underlying st = some .string := by exact rfl) (hx : ev fr x = some (.v (.string s)) := by exact rfl) (hi : ev fr ix = some (.v (.int kk n)) := by exact rfl) (h0 : 0 ≤ n := by first | omega | (simp (disch := omega) only [w64, sb_bt, Int.toNat_zero, Int.toNat_one]; omega)) (h1 : n < s.size := by first | omega | (simp (disch := omega) only [w64, sb_bt, Int.toNat_zero, Int.toNat_one]; omega)) : LY P l K (⟨i, ef, ex, ⟨some t, .index st x ix, ty, pos, aft, none⟩⟩ :: rest) fr σ := ly_v hbs (fun _ R hR => opj_index_str rfl ht hx hi h0 h1 hR) h
theorem y21 {st : TypeId} {x : Operand} {lo hi : Option Operand} {s : ByteArray} {b k : Int} (h : LY P l K rest ((t, .v (.string (s.extract b.toNat k.toNat))) :: fr) σ) (hbs : ef = false := by exact rfl) (ht : P.underlying st = some .string := by exact rfl) (hx : ev fr x = some (.v (.string s)) := by exact rfl) (hlo : bound (ev fr) 0 lo = some b := by exact rfl) (hhi : bound (ev fr) s.size hi = some k := by exact rfl) (h0 : 0 ≤ b := by first | omega | (simp (disch := omega) only [w64, sb_bt, Int.toNat_zero, Int.toNat_one]; omega)) (h1 : b ≤ k := by first | omega | (simp (disch := omega) only [w64, sb_bt, Int.toNat_zero, Int.toNat_one]; omega)) (h2 : k ≤ s.size := by first | omega | (simp (disch := omega) only [w64, sb_bt, Int.toNat_zero, Int.toNat_one]; omega)) : LY P l K (⟨i, ef, ex, ⟨some t, .slice st x lo hi none, ty, pos, aft, none⟩⟩ :: rest) fr σ := ly_v hbs (fun _ R hR => opj_slice_str rfl ht hx hlo hhi h0 h1 h2 hR) h
theorem yi1 {it et : TypeId} {x ix : Operand} {nl : Option Bool} {full : Bool} {sz : Nat} {els : List (List AV)} {kk : IntKind} {n : Int} {el : List AV} (h : LY P l K rest ((t, .fp el) :: fr) σ) (hbs : ef = false := by exact rfl) (ht : P.underlying it = some (.slice et) := by exact rfl) (hs : sizeIs P et = some sz := by exact rfl) (hx : ev fr x = some (.sl nl full sz els) := by exact rfl) (hi : ev fr ix = some (.v (.int kk n)) := by exact rfl) (h0 : 0 ≤ n := by first | omega | (simp (disch := omega) only [w64, sb_bt, Int.toNat_zero, Int.toNat_one]; omega)) (hel : els[n.toNat]? = some el := by first | assumption | exact rfl) : LY P l K (⟨i, ef, ex, ⟨some t, .indexAddr it x ix, ty, pos, aft, none⟩⟩ :: rest) fr σ := ly_v hbs (fun _ R hR => opj_indexAddr_sl rfl ht hs hx hi h0 hel hR) h
theorem yi2 {it et : TypeId} {x ix : Operand} {nl : Option Bool} {full : Bool} {sz : Nat} {els : List (List AV)} {kk : IntKind} {n : Int} {el : List AV} {j u : Nat} {b : Bool} {a : AV} (h : LY P l K rest ((t, .fp el) :: fr) σ) (hbs : ef = false := by exact rfl) (hj : dstOf l j = some u := by exact rfl) (hl : lk fr u = some a := by exact rfl) (hb : a = .v (.bool b) := by with_reducible rfl) (ht : P.underlying it = some (.slice et) := by exact rfl) (hs : sizeIs P et = some sz := by exact rfl) (hx : ev fr x = some (.sl nl full sz els) := by exact rfl) (hi : ev fr ix = some (.v (.int kk n)) := by exact rfl) (h0 : 0 ≤ n := by first | omega | (simp (disch := omega) only [w64, sb_bt, Int.toNat_zero, Int.toNat_one]; omega)) (hel : els[n.toNat]? = some el := by first | assumption | exact rfl) : LY P l K (⟨i, ef, ex, ⟨some t, .indexAddr it x ix, ty, pos, aft, some (j, b)⟩⟩ :: rest) fr σ := ly_vy hbs hj (hb ▸ hl) (fun _ R hR => opj_indexAddr_sl rfl ht hs hx hi h0 hel hR) h
theorem yi3 {it et : TypeId} {x ix : Operand} {nl : Option Bool} {full : Bool} {sz : Nat} {els : List (List AV)} {kk : IntKind} {n : Int} {el : List AV} {j u : Nat} {w cc : Bool} {a : AV} (h : LY P l K rest ((t, .mb cc (.fp el)) :: fr) σ) (hbs : ef = false := by exact rfl) (hj : dstOf l j = some u := by exact rfl) (hl : lk fr u = some a := by exact rfl) (hg : gc a w = some cc := by exact rfl) (ht : P.underlying it = some (.slice et) := by exact rfl) (hs : sizeIs P et = some sz := by exact rfl) (hx : ev (strip fr) x = some (.sl nl full sz els) := by exact rfl) (hi : ev (strip fr) ix = some (.v (.int kk n)) := by exact rfl) (h0 : cc = true → 0 ≤ n := by intro h; first | omega | (simp only [Bool.and_eq_true, decide_eq_true_eq, Bool.not_eq_true', decide_eq_false_iff_not] at h; omega) | (simp only [Bool.and_eq_true, decide_eq_true_eq, Bool.not_eq_true', decide_eq_false_iff_not] at h; simp (disch := omega) only [w64, sb_bt, Int.toNat_zero, Int.toNat_one] at h ⊢; omega)) (hel : cc = true → els[n.toNat]? = some el := by intro h; first | assumption | exact rfl) (hn : Needs cc fr (Op.indexAddr it x ix).operands.toList := by repeat' (first | exact True.intro | refine And.intro ?_ ?_ | exact nd0 rfl | exact nd1 rfl | exact nd2 rfl | exact nd3 rfl | exact nd4 rfl)) : LY P l K (⟨i, ef, ex, ⟨some t, .indexAddr it x ix, ty, pos, aft, some (j, w)⟩⟩ :: rest) fr σ := ly_vq hbs hj hl hg hn (fun hc _ R hR => opj_indexAddr_sl rfl ht hs hx hi (h0 hc) (hel hc) hR) h
theorem yi6 {it et : TypeId} {x ix : Operand} {id sz sz' n ii j : Nat} {kk : IntKind} {m : Int} (h : LY P l K rest ((t, .ptr id sz ii (j + m.toNat * sz')) :: fr) σ) (hbs : ef = false := by exact rfl) (ht : P.underlying it = some (.array n et) := by exact rfl) (hs : sizeIs P et = some sz' := by exact rfl) (hx : ev fr x = some (.ptr id sz ii j) := by exact rfl) (hi : ev fr ix = some (.v (.int kk m)) := by exact rfl) (h0 : 0 ≤ m := by first | omega | (simp (disch := omega) only [w64, sb_bt, Int.toNat_zero, Int.toNat_one]; omega)) (h1 : m < n := by first | omega | (simp (disch := omega) only [w64, sb_bt, Int.toNat_zero, Int.toNat_one]; omega)) : LY P l K (⟨i, ef, ex, ⟨some t, .indexAddr it x ix, ty, pos, aft, none⟩⟩ :: rest) fr σ := ly_v hbs (fun _ R hR => opj_indexAddr_arr rfl ht hs hx hi h0 h1 hR) h
theorem y25 {x y : Operand} {a b : ByteArray} {t1 t2 : TypeId} (h : LY P l K rest ((t, .v (.string (a ++ b))) :: fr) σ) (hbs : ef = false := by exact rfl) (hx : ev fr x = some (.v (.string a)) := by exact rfl) (hy : ev fr y = some (.v (.string b)) := by exact rfl) (hb : a.size + b.size ≤ 9223372036854775807 := by (first | omega | (simp only [bsz, ByteArray.size_append, List.length_cons, List.length_nil, List.length_append, Nat.reduceAdd]; omega) | (simp only [bsz, ByteArray.size_append, List.length_cons, List.length_nil, List.length_append, Nat.reduceAdd] at *; omega))) : LY P l K (⟨i, ef, ex, ⟨some t, .binOp .add t1 x y t2, ty, pos, aft, none⟩⟩ :: rest) fr σ := ly_v hbs (fun _ R hR => opj_concat rfl hx hy hb hR) h
theorem yi4 {it et : TypeId} {x ix : Operand} {id sz off len : Nat} {kk : IntKind} {n : Int} (h : LY P l K rest ((t, .ptr id sz (off + n.toNat) 0) :: fr) σ) (hbs : ef = false := by exact rfl) (ht : P.underlying it = some (.slice et) := by exact rfl) (hs : sizeIs P et = some sz := by exact rfl) (hx : ev fr x = some (.osl id sz off len) := by exact rfl) (hi : ev fr ix = some (.v (.int kk n)) := by exact rfl) (h0 : 0 ≤ n := by first | omega | (simp (disch := omega) only [w64, sb_bt, Int.toNat_zero, Int.toNat_one]; omega)) (h1 : n < len := by first | omega | (simp (disch := omega) only [w64, sb_bt, Int.toNat_zero, Int.toNat_one]; omega)) : LY P l K (⟨i, ef, ex, ⟨some t, .indexAddr it x ix, ty, pos, aft, none⟩⟩ :: rest) fr σ := ly_v hbs (fun _ R hR => opj_indexAddr_osl rfl ht hs hx hi h0 h1 hR) h
theorem yff {j u : Nat} {w cc : Bool} {a : AV} (h : LY P l K rest ((t, .mb cc (.v (.bool false))) :: fr) σ) (hbs : ef = false := by exact rfl) (hj : dstOf l j = some u := by exact rfl) (hl : lk fr u = some a := by exact rfl) (hg : gc a w = some cc := by exact rfl) (hf : cc = false := by exact rfl) : LY P l K (⟨i, ef, ex, ⟨some t, op, ty, pos, aft, some (j, w)⟩⟩ :: rest) fr σ := LY.pure hbs (fy_q rfl hj hl hg fun hc => by rw [hf] at hc; cases hc) h
theorem ycf {lt et : TypeId} {x : Operand} {lo hi : Option Operand} {nl : Option Bool} {full : Bool} {sz : Nat} {els all : List (List AV)} {b k : Int} (hall : (els.take k.toNat).drop b.toNat = all) (h0 : 0 ≤ b) (h1 : b ≤ k) (h2 : k ≤ els.length) (h : LY P l K rest ((t, .sl nl false sz all) :: fr) σ) (hbs : ef = false := by exact rfl) (ht : P.underlying lt = some (.slice et) := by exact rfl) (hs : sizeIs P et = some sz := by exact rfl) (hx : ev fr x = some (.sl nl full sz els) := by exact rfl) (hlo : bound (ev fr) 0 lo = some b := by exact rfl) (hhi : bound (ev fr) els.length hi = some k := by exact rfl) : LY P l K (⟨i, ef, ex, ⟨some t, .slice lt x lo hi none, ty, pos, aft, none⟩⟩ :: rest) fr σ := by
  subst hall
  exact ly_v hbs (fun _ R hR => opj_cut_sl rfl ht hs hx hlo hhi h0 h1 h2 hR) h
theorem yp {f : FuncId} {xs : Array Operand} {ts : Array TypeId} {us : List AV} {r : AV} (hp : Pure P f us r) (h : LY P l K rest ((t, r) :: fr) σ) (hbs : ef = false := by exact rfl) (has : evs fr xs.toList = some us := by exact rfl) (hent : entered P f = true := by exact rfl) : LY P l K (⟨i, ef, ex, ⟨some t, .call { callee := .value (.func f), args := xs, argTypes := ts }, ty, pos, aft, none⟩⟩ :: rest) fr σ := LY.pure hbs (fy_none rfl (.inl fun _ => opw_pure has hent hp)) h
theorem ypw {f : FuncId} {xs : Array Operand} {ts : Array TypeId} {us : List AV} {r : AV} {bb : List AV} (hp : Pure P f bb r) (hw : WkL us bb) (h : LY P l K rest ((t, r) :: fr) σ) (hbs : ef = false := by exact rfl) (has : evs fr xs.toList = some us := by exact rfl) (hent : entered P f = true := by exact rfl) : LY P l K (⟨i, ef, ex, ⟨some t, .call { callee := .value (.func f), args := xs, argTypes := ts }, ty, pos, aft, none⟩⟩ :: rest) fr σ := LY.pure hbs (fy_none rfl (.inl fun _ => opw_pure has hent (hp.wka hw))) h
theorem ypy {f : FuncId} {xs : Array Operand} {ts : Array TypeId} {us : List AV} {r : AV} {j u : Nat} {b : Bool} {a : AV} (hp : Pure P f us r) (h : LY P l K rest ((t, r) :: fr) σ) (hbs : ef = false := by exact rfl) (hj : dstOf l j = some u := by exact rfl) (hl : lk fr u = some a := by exact rfl) (hb : a = .v (.bool b) := by with_reducible rfl) (has : evs fr xs.toList = some us := by exact rfl) (hent : entered P f = true := by exact rfl) : LY P l K (⟨i, ef, ex, ⟨some t, .call { callee := .value (.func f), args := xs, argTypes := ts }, ty, pos, aft, some (j, b)⟩⟩ :: rest) fr σ := LY.pure hbs (fy_yes rfl hj (hb ▸ hl) (.inl fun _ => opw_pure has hent hp)) h
theorem ypq {f : FuncId} {xs : Array Operand} {ts : Array TypeId} {us : List AV} {r : AV} {j u : Nat} {w cc : Bool} {a : AV} (hp : cc = true → Pure P f us r) (h : LY P l K rest ((t, .mb cc r) :: fr) σ) (hbs : ef = false := by exact rfl) (hj : dstOf l j = some u := by exact rfl) (hl : lk fr u = some a := by exact rfl) (hg : gc a w = some cc := by exact rfl) (has : evs (strip fr) xs.toList = some us := by exact rfl) (hent : entered P f = true := by exact rfl) (hn : Needs cc fr (Op.call { callee := .value (.func f), args := xs, argTypes := ts }).operands.toList := by repeat' (first | exact True.intro | refine And.intro ?_ ?_ | exact nd0 rfl | exact nd1 rfl | exact nd2 rfl | exact nd3 rfl | exact nd4 rfl)) : LY P l K (⟨i, ef, ex, ⟨some t, .call { callee := .value (.func f), args := xs, argTypes := ts }, ty, pos, aft, some (j, w)⟩⟩ :: rest) fr σ := LY.pure hbs (fy_q rfl hj hl hg fun hc => .inl fun σ' => (OpW.strip (o := ⟨some t, .call { callee := .value (.func f), args := xs, argTypes := ts }, ty, pos, aft, some (j, w)⟩) hn hc (opw_pure has hent (hp hc))).mb hc) h
theorem yclb {f : FuncId} {xs : Array Operand} {ts : Array TypeId} {us : List AV} {r : AV} {x : Operand} {pre bb : List AV} (hp : Pure P f bb r) (h : LY P l K rest ((t, r) :: fr) σ) (hbs : ef = false := by exact rfl) (hx : ev fr x = some (.bf f pre) := by exact rfl) (has : evs fr xs.toList = some us := by exact rfl) (hbb : pre ++ us = bb := by exact rfl) (hent : entered P f = true := by exact rfl) : LY P l K (⟨i, ef, ex, ⟨some t, .call { callee := .value x, args := xs, argTypes := ts }, ty, pos, aft, none⟩⟩ :: rest) fr σ := LY.pure hbs (fy_none rfl (.inl fun _ => opw_callb hx has hent (hbb ▸ hp))) h
theorem yclbq {f : FuncId} {xs : Array Operand} {ts : Array TypeId} {us : List AV} {r : AV} {x : Operand} {pre bb : List AV} {j u : Nat} {w cc : Bool} {a : AV} (hp : cc = true → Pure P f bb r) (h : LY P l K rest ((t, .mb cc r) :: fr) σ) (hbs : ef = false := by exact rfl) (hj : dstOf l j = some u := by exact rfl) (hl : lk fr u = some a := by exact rfl) (hg : gc a w = some cc := by exact rfl) (hx : ev (strip fr) x = some (.bf f pre) := by exact rfl) (has : evs (strip fr) xs.toList = some us := by exact rfl) (hbb : pre ++ us = bb := by exact rfl) (hent : entered P f = true := by exact rfl) (hn : Needs cc fr (Op.call { callee := .value x, args := xs, argTypes := ts }).operands.toList := by repeat' (first | exact True.intro | refine And.intro ?_ ?_ | exact nd0 rfl | exact nd1 rfl | exact nd2 rfl | exact nd3 rfl | exact nd4 rfl)) : LY P l K (⟨i, ef, ex, ⟨some t, .call { callee := .value x, args := xs, argTypes := ts }, ty, pos, aft, some (j, w)⟩⟩ :: rest) fr σ := LY.pure hbs (fy_q rfl hj hl hg fun hc => .inl fun σ' => (OpW.strip (o := ⟨some t, .call { callee := .value x, args := xs, argTypes := ts }, ty, pos, aft, some (j, w)⟩) hn hc (opw_callb hx has hent (hbb ▸ hp hc))).mb hc) h
theorem yi4q {it et : TypeId} {x ix : Operand} {id sz off len : Nat} {kk : IntKind} {n : Int} {j u : Nat} {w cc : Bool} {a : AV} (h : LY P l K rest ((t, .mb cc (.ptr id sz (off + n.toNat) 0)) :: fr) σ) (hbs : ef = false := by exact rfl) (hj : dstOf l j = some u := by exact rfl) (hl : lk fr u = some a := by exact rfl) (hg : gc a w = some cc := by exact rfl) (ht : P.underlying it = some (.slice et) := by exact rfl) (hs : sizeIs P et = some sz := by exact rfl) (hx : ev (strip fr) x = some (.osl id sz off len) := by exact rfl) (hi : ev (strip fr) ix = some (.v (.int kk n)) := by exact rfl) (h0 : cc = true → 0 ≤ n := by intro h; first | omega | (simp only [Bool.and_eq_true, decide_eq_true_eq, Bool.not_eq_true', decide_eq_false_iff_not] at h; omega) | (simp only [Bool.and_eq_true, decide_eq_true_eq, Bool.not_eq_true', decide_eq_false_iff_not] at h; simp (disch := omega) only [w64, sb_bt, Int.toNat_zero, Int.toNat_one] at h ⊢; omega)) (h1 : cc = true → n < len := by intro h; first | omega | (simp only [Bool.and_eq_true, decide_eq_true_eq, Bool.not_eq_true', decide_eq_false_iff_not] at h; omega) | (simp only [Bool.and_eq_true, decide_eq_true_eq, Bool.not_eq_true', decide_eq_false_iff_not] at h; simp (disch := omega) only [w64, sb_bt, Int.toNat_zero, Int.toNat_one] at h ⊢; omega)) (hn : Needs cc fr (Op.indexAddr it x ix).operands.toList := by repeat' (first | exact True.intro | refine And.intro ?_ ?_ | exact nd0 rfl | exact nd1 rfl | exact nd2 rfl | exact nd3 rfl | exact nd4 rfl)) : LY P l K (⟨i, ef, ex, ⟨some t, .indexAddr it x ix, ty, pos, aft, some (j, w)⟩⟩ :: rest) fr σ := ly_vq hbs hj hl hg hn (fun hc _ R hR => opj_indexAddr_osl rfl ht hs hx hi (h0 hc) (h1 hc) hR) h
theorem ylit {lt et : TypeId} {n sz : Nat} {parts : Array (Nat × Operand)} {zs out : List AV} {qs : List (Nat × AV)} {els : List (List AV)} (h : LY P l K rest ((t, .sl (some false) true sz els) :: fr) σ) (hbs : ef = false := by exact rfl) (ht : P.underlying lt = some (.slice et) := by exact rfl) (hs : sizeIs P et = some sz := by exact rfl) (hz : zeroIs P et = some zs := by exact rfl) (hzl : zs.length = sz := by exact rfl) (hpos : Nat.blt 0 sz = true := by exact rfl) (hn : Nat.ble (n * sz) 16777216 = true := by exact rfl) (hq : evParts (ev fr) parts.toList = some qs := by exact rfl) (hf : afill (fun i => some (i * sz, sz)) ((List.replicate n zs).flatten) qs = some out := by exact rfl) (hol : out.length = n * sz := by exact rfl) (hnn : chunk sz n out = els := by (repeat' (first | exact nfl_nil | apply nfl_cons | exact nf_nil | apply nf_cons | exact nf_v | exact nf_sl | exact nf_osl | exact nf_ptr | exact nf_fp | exact nf_mp | exact nf_fn | exact nf_ifc | exact nf_it | exact nf_mb | exact rfl))) : LY P l K (⟨i, ef, ex, ⟨some t, .buildSlice lt n parts, ty, pos, aft, none⟩⟩ :: rest) fr σ := by
  subst hnn
  exact ly_v hbs (fun _ R hR => opj_lit rfl ht hs hz hzl (Nat.blt_eq.mp hpos) (Nat.le_of_ble_eq_true hn) hq hf hol hR) h
theorem yapp (by_ : Nat) {lt et : TypeId} {sz : Nat} {x y : Operand} {nl : Option Bool} {full : Bool} {els news : List (List AV)} {ts : Array TypeId} {a : AV} {all : List (List AV)} (h : LY P l K rest ((t, .sl none false sz all) :: fr) σ) (hbs : ef = false := by exact rfl) (hts : ts = #[lt, lt] := by exact rfl) (ht : P.underlying lt = some (.slice et) := by exact rfl) (hsz : sizeIs P et = some sz := by exact rfl) (hz : (zeroIs P et).map (·.length) = some sz := by exact rfl) (hpos : Nat.blt 0 sz = true := by exact rfl) (hby : bytesIs P et = some by_ := by exact rfl) (hb1 : Nat.blt 0 by_ = true := by exact rfl) (hx : ev fr x = some (.sl nl full sz els) := by exact rfl) (hfull : full = true ∨ nl = some true := by first | exact .inl rfl | exact .inr rfl) (hy : ev fr y = some a := by exact rfl) (hs : ∀ σ', srcOf σ' a = some (sz, news) := by exact fun _ => rfl) (hb : (els.length + news.length) * by_ ≤ 140737488355328 := by first | omega | (simp only [length_bys, length_chunk, List.length_nil, List.length_cons, List.length_map, Nat.mul_one]; omega)) (hall : els ++ news = all := by (first | exact List.nil_append _ | exact rfl)) : LY P l K (⟨i, ef, ex, ⟨some t, .call { callee := .builtin .append, args := #[x, y], argTypes := ts }, ty, pos, aft, none⟩⟩ :: rest) fr σ := by
  subst hall
  exact ly_v hbs (fun σ' R hR => OpJ.weak (opj_append_sl rfl hts (elem_of ht hsz hz hpos) hby hx hfull hy (hs σ') hb (Nat.blt_eq.mp hb1) (fun h0 => ⟨rfl, _, rfl, by rw [h0, List.append_nil]; exact Wk.sl _ _ _ _⟩) (fun _ => ⟨rfl, _, rfl, Wk.sl _ _ _ _⟩)) hR) h
theorem y17 {st elem : TypeId} {x y : Operand} {id sz ii jj k : Nat} {els : List (List AV)} {el cs nel : List AV} {els' : List (List AV)} {a : AV} (h : LY P l K rest fr (σ.set id (.row sz elem els'))) (hx : ev fr x = some (.ptr id sz ii jj) := by exact rfl) (hy : ev fr y = some a := by exact rfl) (hm : sizeIs P st = some k := by exact rfl) (hσ : σ id = some (.row sz elem els) := by first | exact St.set_same _ _ _ | assumption | (repeat' (first | exact St.set_same _ _ _ | assumption | refine St.set_keep (by assumption) ?_ | refine St.set_ne2 (by first | assumption | exact St.nn0 (by assumption) | exact St.nn1 (by assumption) | exact St.nn2 (by assumption) | exact St.nn3 (by assumption) | exact St.nn4 (by assumption) | exact St.nn5 (by assumption) | exact St.nn6 (by assumption) | exact St.nn7 (by assumption) | exact St.nn8 (by assumption) | exact St.nn9 (by assumption) | exact St.nn10 (by assumption) | exact St.nn11 (by assumption) | exact St.nn12 (by assumption) | exact St.nn13 (by assumption) | exact Ne.symm (St.nn0 (by assumption)) | exact Ne.symm (St.nn1 (by assumption)) | exact Ne.symm (St.nn2 (by assumption)) | exact Ne.symm (St.nn3 (by assumption)) | exact Ne.symm (St.nn4 (by assumption)) | exact Ne.symm (St.nn5 (by assumption)) | exact Ne.symm (St.nn6 (by assumption)) | exact Ne.symm (St.nn7 (by assumption)) | exact Ne.symm (St.nn8 (by assumption)) | exact Ne.symm (St.nn9 (by assumption)) | exact Ne.symm (St.nn10 (by assumption)) | exact Ne.symm (St.nn11 (by assumption)) | exact Ne.symm (St.nn12 (by assumption)) | exact Ne.symm (St.nn13 (by assumption)) | exact St.ne_ns (by assumption) (by repeat' (first | exact St.sn_of (by assumption) | refine St.setn ?_))) ?_))) (he : els[ii]? = some el := by exact rfl) (hc : cellsOf a = some cs := by exact rfl) (hl : cs.length = k := by exact rfl) (hj : Nat.ble (jj + cs.length) el.length = true := by exact rfl) (hn1 : el.take jj ++ cs ++ el.drop (jj + cs.length) = nel := by (repeat' (first | exact nf_nil | apply nf_cons | exact nf_v | exact nf_sl | exact nf_osl | exact nf_ptr | exact nf_fp | exact nf_mp | exact nf_fn | exact nf_ifc | exact nf_it | exact nf_mb | exact rfl))) (hn2 : els.set ii nel = els' := by (first | exact nf_set0 | exact rfl)) (hbs : ef = true := by exact rfl) : LY P l K (⟨i, ef, ex, ⟨none, .store st x y, ty, pos, aft, none⟩⟩ :: rest) fr σ := by
  subst hn1
  subst hn2
  exact ly_e (R := fun r σ1 => r = .tup [] ∧ σ1 = σ.set id (.row sz elem (els.set ii (el.take jj ++ cs ++ el.drop (jj + cs.length))))) hbs rfl (opw_of (r := none) fun R hR => opj_store rfl hm hx hy hσ he hc hl (Nat.le_of_ble_eq_true hj) hR) fun r σ1 ⟨e1, e2⟩ => by subst e1; subst e2; exact h
theorem y12 {et : TypeId} {us us' : List AV} {k : Nat} (h : ∀ id, σ id = none → LY P l K rest ((t, .ptr id k 0 0) :: fr) (σ.set id (.row k et [us']))) (hz : zeroIs P et = some us := by exact rfl) (hn : us = us' := by (repeat' (first | exact nf_nil | apply nf_cons | exact nf_v | exact nf_sl | exact nf_osl | exact nf_ptr | exact nf_fp | exact nf_mp | exact nf_fn | exact nf_ifc | exact nf_it | exact nf_mb | exact rfl))) (hk : us.length = k := by exact rfl) (hbs : ef = true := by exact rfl) : LY P l K (⟨i, ef, ex, ⟨some t, .alloc et, ty, pos, aft, none⟩⟩ :: rest) fr σ := by
  subst hn
  subst hk
  exact ly_e (R := fun r σ1 => ∃ id, σ id = none ∧ r = .ptr id us.length 0 0 ∧ σ1 = σ.set id (.row us.length et [us])) hbs rfl (.of_opj (opj_alloc rfl hz fun id hid => ⟨id, hid, rfl, rfl⟩)) fun r σ1 ⟨id, h1, h2, h3⟩ => by subst h2; subst h3; exact h id h1
theorem yapn (by_ : Nat) {lt et : TypeId} {sz : Nat} {x y : Operand} {nl : Option Bool} {full : Bool} {els news : List (List AV)} {ts : Array TypeId} {a : AV} {all : List (List AV)} {n : Nat} (h : ∀ id, σ id = none → LY P l K rest ((t, .osl id sz 0 n) :: fr) (σ.set id (.row sz et all))) (hne : news ≠ []) (hall : els ++ news = all := by (first | exact List.nil_append _ | exact rfl)) (hlen : els.length + news.length = n := by (first | exact Nat.zero_add _ | exact rfl)) (hts : ts = #[lt, lt] := by exact rfl) (ht : P.underlying lt = some (.slice et) := by exact rfl) (hsz : sizeIs P et = some sz := by exact rfl) (hz : (zeroIs P et).map (·.length) = some sz := by exact rfl) (hpos : Nat.blt 0 sz = true := by exact rfl) (hby : bytesIs P et = some by_ := by exact rfl) (hb1 : Nat.blt 0 by_ = true := by exact rfl) (hx : ev fr x = some (.sl nl full sz els) := by exact rfl) (hfull : full = true ∨ nl = some true := by first | exact .inl rfl | exact .inr rfl) (hy : ev fr y = some a := by exact rfl) (hs : ∀ σ', srcOf σ' a = some (sz, news) := by exact fun _ => rfl) (hb : (els.length + news.length) * by_ ≤ 140737488355328 := by first | omega | (simp only [length_bys, length_chunk, List.length_nil, List.length_cons, List.length_map, Nat.mul_one]; omega)) (hbs : ef = true := by exact rfl) : LY P l K (⟨i, ef, ex, ⟨some t, .call { callee := .builtin .append, args := #[x, y], argTypes := ts }, ty, pos, aft, none⟩⟩ :: rest) fr σ := by
  subst hall
  subst hlen
  exact ly_e (R := fun r σ1 => ∃ id, σ id = none ∧ r = .osl id sz 0 (els.length + news.length) ∧ σ1 = σ.set id (.row sz et (els ++ news))) hbs rfl (.of_opj (opj_append_new rfl hts (elem_of ht hsz hz hpos) hby hx hfull hy (hs σ) hne hb (Nat.blt_eq.mp hb1) fun id hid => ⟨id, hid, rfl, rfl⟩)) fun r σ1 ⟨id, h1, h2, h3⟩ => by subst h2; subst h3; exact h id h1
theorem yapo {lt et : TypeId} {sz by_ n m : Nat} {x y : Operand} {id : Nat} {els news all : List (List AV)} {ts : Array TypeId} {a : AV} (h : ∀ id', σ id' = none → LY P l K rest ((t, .osl id' sz 0 m) :: fr) ((σ.del id).set id' (.row sz et all))) (hall : els.take n ++ news = all) (hm : n + news.length = m) (hts : ts = #[lt, lt] := by exact rfl) (ht : P.underlying lt = some (.slice et) := by exact rfl) (hsz : sizeIs P et = some sz := by exact rfl) (hz : (zeroIs P et).map (·.length) = some sz := by exact rfl) (hpos : Nat.blt 0 sz = true := by exact rfl) (hby : bytesIs P et = some by_ := by exact rfl) (hb1 : Nat.blt 0 by_ = true := by exact rfl) (hble : Nat.ble by_ 1024 = true := by exact rfl) (hx : ev fr x = some (.osl id sz 0 n) := by exact rfl) (hσ : σ id = some (.row sz et els) := by first | exact St.set_same _ _ _ | assumption | (repeat' (first | exact St.set_same _ _ _ | assumption | refine St.set_keep (by assumption) ?_ | refine St.set_ne2 (by first | assumption | exact St.nn0 (by assumption) | exact St.nn1 (by assumption) | exact St.nn2 (by assumption) | exact St.nn3 (by assumption) | exact St.nn4 (by assumption) | exact St.nn5 (by assumption) | exact St.nn6 (by assumption) | exact St.nn7 (by assumption) | exact St.nn8 (by assumption) | exact St.nn9 (by assumption) | exact St.nn10 (by assumption) | exact St.nn11 (by assumption) | exact St.nn12 (by assumption) | exact St.nn13 (by assumption) | exact Ne.symm (St.nn0 (by assumption)) | exact Ne.symm (St.nn1 (by assumption)) | exact Ne.symm (St.nn2 (by assumption)) | exact Ne.symm (St.nn3 (by assumption)) | exact Ne.symm (St.nn4 (by assumption)) | exact Ne.symm (St.nn5 (by assumption)) | exact Ne.symm (St.nn6 (by assumption)) | exact Ne.symm (St.nn7 (by assumption)) | exact Ne.symm (St.nn8 (by assumption)) | exact Ne.symm (St.nn9 (by assumption)) | exact Ne.symm (St.nn10 (by assumption)) | exact Ne.symm (St.nn11 (by assumption)) | exact Ne.symm (St.nn12 (by assumption)) | exact Ne.symm (St.nn13 (by assumption)) | exact St.ne_ns (by assumption) (by repeat' (first | exact St.sn_of (by assumption) | refine St.setn ?_))) ?_))) (hn : n ≤ els.length := by omega) (hy : ev fr y = some a := by exact rfl) (hs : srcOf σ a = some (sz, news) := by exact rfl) (hb : (n + news.length) * 1024 ≤ 140737488355328 := by omega) (hbs : ef = true := by exact rfl) : LY P l K (⟨i, ef, ex, ⟨some t, .call { callee := .builtin .append, args := #[x, y], argTypes := ts }, ty, pos, aft, none⟩⟩ :: rest) fr σ := by
  subst hall
  subst hm
  exact ly_e (R := fun r σ1 => ∃ id', σ id' = none ∧ r = .osl id' sz 0 (n + news.length) ∧ σ1 = (σ.del id).set id' (.row sz et (els.take n ++ news))) hbs rfl (.of_opj (opj_append_osl rfl hts (elem_of ht hsz hz hpos) hby hx hσ hn hy hs (Nat.le_trans (Nat.mul_le_mul_left _ (Nat.le_of_ble_eq_true hble)) hb) (Nat.blt_eq.mp hb1) fun id' hid => ⟨id', hid, rfl, rfl⟩)) fun r σ1 ⟨id', h1, h2, h3⟩ => by subst h2; subst h3; exact h id' h1
theorem ycall {f : FuncId} {xs : Array Operand} {ts : Array TypeId} {us : List AV} {C : AEnd → St → Prop} (hp : ACalls P f us σ C) (h : ∀ r σ', C (.ret r) σ' → LY P l K rest ((t, r) :: fr) σ') (hnp : ∀ x σ', ¬ C (.panic x) σ') (has : evs fr xs.toList = some us := by exact rfl) (hent : entered P f = true := by exact rfl) (hbs : ef = true := by exact rfl) : LY P l K (⟨i, ef, ex, ⟨some t, .call { callee := .value (.func f), args := xs, argTypes := ts }, ty, pos, aft, none⟩⟩ :: rest) fr σ := ly_e (R := fun r σ' => C (.ret r) σ') hbs rfl (OpW.of_calls (R := fun r σ' => C (.ret r) σ') has hent hp (fun e σ' he => by
  cases e with
  | ret r => exact ⟨r, rfl, he⟩
  | panic x => exact absurd he (hnp x σ'))) h
theorem yapg {lt et : TypeId} {sz by_ m : Nat} {x y : Operand} {f : Bool} {news : List (List AV)} {ts : Array TypeId} {a : AV} (h : ∀ id, σ id = none → LY P l K rest ((t, .osl id sz 0 m) :: fr) (σ.set id (.row sz et news))) (hm : news.length = m) (hts : ts = #[lt, lt] := by exact rfl) (ht : P.underlying lt = some (.slice et) := by exact rfl) (hsz : sizeIs P et = some sz := by exact rfl) (hz : (zeroIs P et).map (·.length) = some sz := by exact rfl) (hpos : Nat.blt 0 sz = true := by exact rfl) (hby : bytesIs P et = some by_ := by exact rfl) (hb1 : Nat.blt 0 by_ = true := by exact rfl) (hble : Nat.ble by_ 1024 = true := by exact rfl) (hx : reNil sz (ev fr x) = some (.sl (some true) f sz []) := by exact rfl) (hy : reNil sz (ev fr y) = some a := by exact rfl) (hs : srcOf σ a = some (sz, news) := by exact rfl) (hb : news.length * 1024 ≤ 140737488355328 := by omega) (hbs : ef = true := by exact rfl) : LY P l K (⟨i, ef, ex, ⟨some t, .call { callee := .builtin .append, args := #[x, y], argTypes := ts }, ty, pos, aft, none⟩⟩ :: rest) fr σ := by
  subst hm
  have hb2 : (([] : List (List AV)).length + news.length) * by_ ≤ 140737488355328 := by
    rw [List.length_nil, Nat.zero_add]
    exact Nat.le_trans (Nat.mul_le_mul_left _ (Nat.le_of_ble_eq_true hble)) hb
  refine ly_e (R := fun r σ1 => ∃ id, σ id = none ∧ r = .osl id sz 0 news.length ∧ σ1 = σ.set id (.row sz et news)) hbs rfl ?_ fun r σ1 ⟨id, h1, h2, h3⟩ => by subst h2; subst h3; exact h id h1
  by_cases h0 : news = []
  · subst h0
    exact opw_ghostnil sz et (f := f) (s := sz) (.of_opj (OpJ.renil sz (opj_append_sl rfl hts (elem_of ht hsz hz hpos) hby hx (.inr rfl) hy hs hb2 (Nat.blt_eq.mp hb1) (fun _ => ⟨rfl, rfl⟩) (fun h => absurd rfl h))))
  · exact .of_opj (OpJ.renil sz (opj_append_new rfl hts (elem_of ht hsz hz hpos) hby hx (.inr rfl) hy hs h0 hb2 (Nat.blt_eq.mp hb1) fun id hid => ⟨id, hid, by rw [List.length_nil, Nat.zero_add]; rfl, by rw [List.nil_append]⟩))
end
end Go.Proofs.YtbpoeggmpjepfaaDoor.Ab

/- The program's data: rules. -/
set_option linter.unusedVariables false
set_option linter.unusedSimpArgs false
set_option maxRecDepth 20000
namespace Go.Proofs.YtbpoeggmpjepfaaDoor.Ab
open Go
structure Itm where
  k : Int
  val : Vl
  var : ByteArray
structure Sgl where
  attr : ByteArray
  expr : List Itm
structure Acn where
  k : Int
  cls : ByteArray
  n : Int
  var : ByteArray
  sets : List Sgl
  exprs : List (List Itm)
structure Rul where
  name : ByteArray
  conds : List Cnd
  acts : List Acn
structure Prg where
  classes : List Cls
  rules : List Rul
abbrev itc (x : Itm) : List AV := [.v (.int .u8 x.k), .v (.int .u8 x.val.k), .v (.int .i64 x.val.n), .v (.string x.val.s), .v (.string x.var)]
abbrev itl (l : List Itm) : List AV := [.sl none false 5 (l.map itc)]
abbrev sgc (x : Sgl) : List AV := [.v (.string x.attr), .sl none false 5 (x.expr.map itc)]
abbrev anc (a : Acn) : List AV := [.v (.int .u8 a.k), .v (.string a.cls), .v (.int .i64 a.n), .v (.string a.var), .sl none false 2 (a.sets.map sgc), .sl none false 1 (a.exprs.map itl)]
abbrev ruc (r : Rul) : List AV := [.v (.string r.name), .sl none false 3 (r.conds.map dc), .sl none false 6 (r.acts.map anc)]
abbrev pgc (p : Prg) : List AV := [.sl none false 2 (p.classes.map cc), .sl none false 3 (p.rules.map ruc)]
end Go.Proofs.YtbpoeggmpjepfaaDoor.Ab

/- What a rule does: one operation. -/
set_option linter.unusedVariables false
set_option linter.unusedSimpArgs false
set_option maxRecDepth 20000
namespace Go.Proofs.YtbpoeggmpjepfaaDoor.Ab
open Go
attribute [local irreducible] thn inb endR CJ LJ OpJ DJ DA DB AllocK
def opE (k : Int) (a b : Vl) : Int := if 4 < k then 4 else if a.k ≠ 1 ∨ b.k ≠ 1 ∨ inI a.n = false ∨ inI b.n = false then 23 else if (rk k a.n b.n).2 = true then 0 else 23
def opV (k : Int) (a b : Vl) : Vl := ⟨1, (rk k a.n b.n).1, ⟨#[]⟩⟩
theorem rk_in {k a b : Int} (h : (rk k a b).2 = true) : inI (rk k a b).1 = true := by
  unfold rk at *
  by_cases h2 : k = 2
  · rw [if_pos h2] at *; exact h
  · rw [if_neg h2] at *
    by_cases h3 : k = 3
    · rw [if_pos h3] at *; exact h
    · rw [if_neg h3] at *
      by_cases h4 : a.natAbs * b.natAbs ≤ 1099511627776
      · rw [if_pos h4]
        have := mul_abs a b
        exact inI_iff.2 (by dsimp only; omega)
      · rw [if_neg h4] at h; cases h
set_option maxHeartbeats 4000000 in
theorem p_rop (k : Int) (a b : Vl) : Pure Tryd.prog 25 [.v (.int .u8 k), .agg (vc a), .agg (vc b)] (.tup [.agg (vc (if opE k a b = 0 then opV k a b else a)), .v (.int .i64 (opE k a b))]) := by
  refine enterW Tryd.func25 rfl rfl rfl rfl (fun σ => ?_)
  obtain ⟨ak, an, as_⟩ := a
  obtain ⟨bk, bn, bs_⟩ := b
  have k1 := p_rin27 an
  have k2 := p_rin27 bn
  by_cases hk : 4 < k
  · have e : opE k ⟨ak, an, as_⟩ ⟨bk, bn, bs_⟩ = 4 := if_pos hk
    rw [e, if_neg (by decide)]
    repeat' (first|(first|(refine jl ?_;first|refine j1 ?_|refine j4 ?_|refine j12 (fun id hid=>?_)|refine j13 (fun id hid=>?_)|refine j14 ?_|refine j17t ?_)|(refine jc ?_;first|refine c1 ?_|refine c2 ?_|refine c5 ?_|refine c7 ?_)|refine n2 ?_|refine n6 ?_|refine n15 ?_)|(refine c9 (fun h=>?_) (fun h=>?_)<;>((try simp only [Bool.or_eq_true, Bool.and_eq_true, Bool.or_eq_false_iff, Bool.and_eq_false_iff, Bool.not_eq_true', Bool.not_eq_false', decide_eq_true_eq, decide_eq_false_iff_not, Bool.false_eq_true, Bool.true_eq_false, reduceCtorEq] at h) <;> (try simp (disch := omega) only [sb_bt, w64, Int.reduceAdd, Int.reduceToNat, Int.toNat_natCast, not_true_eq_false, false_or] at h) <;> (try (exfalso; omega)))))
    exact gives (by repeat' (first | exact St.le_refl _ | refine St.le_any ?_)) (Fin.refl _ _ _)
  · by_cases hb : ak ≠ 1 ∨ bk ≠ 1 ∨ inI an = false ∨ inI bn = false
    · have e : opE k ⟨ak, an, as_⟩ ⟨bk, bn, bs_⟩ = 23 := by unfold opE; rw [if_neg hk, if_pos hb]
      rw [e, if_neg (by decide)]
      repeat' (first|(first|(refine jl ?_;first|refine j7 ?_|refine j1 ?_|refine j4 ?_|refine j6 ?_|refine j9 ?_|refine j12 (fun id hid=>?_)|refine j13 (fun id hid=>?_)|refine j14 ?_|refine j17t ?_|refine j16 ?_|refine jcq (hp:=fun hc=>k1) ?_|refine jcq (hp:=fun hc=>k2) ?_)|(refine jc ?_;first|refine c1 ?_|refine c2 ?_|refine c5 ?_|refine c6 ?_|refine c7 ?_)|refine n1 ?_|refine n2 ?_|refine n6 ?_|refine n10 ?_|refine n15 ?_)|(refine c9 (fun h=>?_) (fun h=>?_)<;>((try simp only [Bool.or_eq_true, Bool.and_eq_true, Bool.or_eq_false_iff, Bool.and_eq_false_iff, Bool.not_eq_true', Bool.not_eq_false', decide_eq_true_eq, decide_eq_false_iff_not, Bool.false_eq_true, Bool.true_eq_false, reduceCtorEq] at h) <;> (try simp (disch := omega) only [sb_bt, w64, Int.reduceAdd, Int.reduceToNat, Int.toNat_natCast, not_true_eq_false, false_or] at h) <;> (try (exfalso; omega)))))
      all_goals first
        | exact gives (by repeat' (first | exact St.le_refl _ | refine St.le_any ?_)) (Fin.refl _ _ _)
        | (exfalso; simp_all; done)
    · have hbad : ¬ (ak ≠ 1 ∨ bk ≠ 1 ∨ inI an = false ∨ inI bn = false) := hb
      simp only [not_or, ne_eq, Decidable.not_not, Bool.not_eq_false] at hb
      obtain ⟨rfl, rfl, ha, hb⟩ := hb
      have k3 := p_product an bn ha hb
      rw [ha] at k1
      rw [hb] at k2
      have ha' := inI_iff.1 ha
      have hb' := inI_iff.1 hb
      have e : opE k ⟨1, an, as_⟩ ⟨1, bn, bs_⟩ = if (rk k an bn).2 = true then 0 else 23 := by unfold opE; rw [if_neg hk, if_neg hbad]
      rw [e]
      have hr := @rk_in k an bn
      by_cases h2 : k = 2
      · subst h2
        have hw : IntKind.i64.wrap (an + bn) = an + bn := w64 (by omega) (by omega)
        have k4 := p_rin27 (IntKind.i64.wrap (an + bn))
        have er : rk 2 an bn = (an + bn, inI (an + bn)) := rfl
        unfold opV
        rw [er]
        dsimp only
        repeat' (first|(first|(refine jl ?_;first|refine j7 ?_|refine jb ?_|refine j1 ?_|refine j4 ?_|refine j6 ?_|refine j9 ?_|refine j12 (fun id hid=>?_)|refine j13 (fun id hid=>?_)|refine j14 ?_|refine j17t ?_|refine j16 ?_|refine jcq (hp:=fun hc=>k1) ?_|refine jcq (hp:=fun hc=>k2) ?_|refine jcq (hp:=fun hc=>k4) ?_)|(refine jc ?_;first|refine c1 ?_|refine c2 ?_|refine c5 ?_|refine c6 ?_|refine c7 ?_)|refine n1 ?_|refine n2 ?_|refine n10 ?_|refine n15 ?_)|(refine c9 (fun h=>?_) (fun h=>?_)<;>((try simp only [Bool.or_eq_true, Bool.and_eq_true, Bool.or_eq_false_iff, Bool.and_eq_false_iff, Bool.not_eq_true', Bool.not_eq_false', decide_eq_true_eq, decide_eq_false_iff_not, Bool.false_eq_true, Bool.true_eq_false, reduceCtorEq] at h) <;> (try simp (disch := omega) only [sb_bt, w64, Int.reduceAdd, Int.reduceToNat, Int.toNat_natCast, not_true_eq_false, false_or] at h) <;> (try (exfalso; omega)))))
        all_goals first | (exfalso; simp at h; done) | ((try rw [hw] at h) <;> (try simp only [true_and] at h))
        · rw [h]
          exact gives (by repeat' (first | exact St.le_refl _ | refine St.le_any ?_)) (Fin.refl _ _ _)
        · rw [if_pos h, if_pos rfl]
          exact gives (by repeat' (first | exact St.le_refl _ | refine St.le_any ?_)) (fin_two (.wk (Wk.of_eq (by rw [hw]; rfl))) (Fin.refl _ _ _))
      · by_cases h3 : k = 3
        · subst h3
          have hw : IntKind.i64.wrap (an - bn) = an - bn := w64 (by omega) (by omega)
          have k4 := p_rin27 (IntKind.i64.wrap (an - bn))
          have er : rk 3 an bn = (an - bn, inI (an - bn)) := rfl
          unfold opV
          rw [er]
          dsimp only
          repeat' (first|(first|(refine jl ?_;first|refine j7 ?_|refine jb ?_|refine j1 ?_|refine j4 ?_|refine j6 ?_|refine j9 ?_|refine j12 (fun id hid=>?_)|refine j13 (fun id hid=>?_)|refine j14 ?_|refine j17t ?_|refine j16 ?_|refine jcq (hp:=fun hc=>k1) ?_|refine jcq (hp:=fun hc=>k2) ?_|refine jcq (hp:=fun hc=>k4) ?_)|(refine jc ?_;first|refine c1 ?_|refine c2 ?_|refine c5 ?_|refine c6 ?_|refine c7 ?_)|refine n1 ?_|refine n2 ?_|refine n10 ?_|refine n15 ?_)|(refine c9 (fun h=>?_) (fun h=>?_)<;>((try simp only [Bool.or_eq_true, Bool.and_eq_true, Bool.or_eq_false_iff, Bool.and_eq_false_iff, Bool.not_eq_true', Bool.not_eq_false', decide_eq_true_eq, decide_eq_false_iff_not, Bool.false_eq_true, Bool.true_eq_false, reduceCtorEq] at h) <;> (try simp (disch := omega) only [sb_bt, w64, Int.reduceAdd, Int.reduceToNat, Int.toNat_natCast, not_true_eq_false, false_or] at h) <;> (try (exfalso; omega)))))
          all_goals first | (exfalso; simp at h; done) | ((try rw [hw] at h) <;> (try simp only [true_and] at h))
          · rw [h]
            exact gives (by repeat' (first | exact St.le_refl _ | refine St.le_any ?_)) (Fin.refl _ _ _)
          · rw [if_pos h, if_pos rfl]
            exact gives (by repeat' (first | exact St.le_refl _ | refine St.le_any ?_)) (fin_two (.wk (Wk.of_eq (by rw [hw]; rfl))) (Fin.refl _ _ _))
        · by_cases hm : an.natAbs * bn.natAbs ≤ 1099511627776
          · have er : rk k an bn = (an * bn, true) := by unfold rk; rw [if_neg h2, if_neg h3, if_pos hm]
            rw [if_pos hm, decide_eq_true hm] at k3
            rw [er] at hr
            have k4 := p_rin27 (an * bn)
            rw [hr rfl] at k4
            unfold opV
            rw [er]
            dsimp only
            repeat' (first|(first|(refine jl ?_;first|refine j7 ?_|refine jb ?_|refine j1 ?_|refine j4 ?_|refine j6 ?_|refine j9 ?_|refine j12 (fun id hid=>?_)|refine j13 (fun id hid=>?_)|refine j14 ?_|refine j17t ?_|refine j16 ?_|refine jcq (hp:=fun hc=>k1) ?_|refine jcq (hp:=fun hc=>k2) ?_|refine jp (k3) ?_|refine jcq (hp:=fun hc=>k4) ?_)|(refine jc ?_;first|refine c1 ?_|refine c2 ?_|refine c5 ?_|refine c6 ?_|refine c7 ?_)|refine n1 ?_|refine n10 ?_|refine n15 ?_)|(refine c9 (fun h=>?_) (fun h=>?_)<;>((try simp only [Bool.or_eq_true, Bool.and_eq_true, Bool.or_eq_false_iff, Bool.and_eq_false_iff, Bool.not_eq_true', Bool.not_eq_false', decide_eq_true_eq, decide_eq_false_iff_not, Bool.false_eq_true, Bool.true_eq_false, reduceCtorEq] at h) <;> (try simp (disch := omega) only [sb_bt, w64, Int.reduceAdd, Int.reduceToNat, Int.toNat_natCast, not_true_eq_false, false_or] at h) <;> (try (exfalso; omega)))))
            all_goals first
              | exact gives (by repeat' (first | exact St.le_refl _ | refine St.le_any ?_)) (Fin.refl _ _ _)
              | (exfalso; omega)
              | (exfalso; simp at h; done)
          · have er : rk k an bn = (0, false) := by unfold rk; rw [if_neg h2, if_neg h3, if_neg hm]
            rw [if_neg hm, decide_eq_false hm] at k3
            unfold opV
            rw [er]
            dsimp only
            repeat' (first|(first|(refine jl ?_;first|refine j7 ?_|refine jb ?_|refine j1 ?_|refine j4 ?_|refine j6 ?_|refine j9 ?_|refine j12 (fun id hid=>?_)|refine j13 (fun id hid=>?_)|refine j14 ?_|refine j17t ?_|refine j16 ?_|refine jcq (hp:=fun hc=>k1) ?_|refine jcq (hp:=fun hc=>k2) ?_|refine jp (k3) ?_|refine jff ?_)|(refine jc ?_;first|refine c1 ?_|refine c2 ?_|refine c5 ?_|refine c6 ?_|refine c7 ?_)|refine n1 ?_|refine n2 ?_|refine n10 ?_|refine n15 ?_)|(refine c9 (fun h=>?_) (fun h=>?_)<;>((try simp only [Bool.or_eq_true, Bool.and_eq_true, Bool.or_eq_false_iff, Bool.and_eq_false_iff, Bool.not_eq_true', Bool.not_eq_false', decide_eq_true_eq, decide_eq_false_iff_not, Bool.false_eq_true, Bool.true_eq_false, reduceCtorEq] at h) <;> (try simp (disch := omega) only [sb_bt, w64, Int.reduceAdd, Int.reduceToNat, Int.toNat_natCast, not_true_eq_false, false_or] at h) <;> (try (exfalso; omega)))))
            all_goals first
              | exact gives (by repeat' (first | exact St.le_refl _ | refine St.le_any ?_)) (Fin.refl _ _ _)
              | (exfalso; omega)
              | (exfalso; simp at h; done)
              | trace_state
end Go.Proofs.YtbpoeggmpjepfaaDoor.Ab

/- Abstract values over the model's memory: loads of an own row's element that is told. -/
set_option linter.unusedVariables false
set_option linter.unusedSimpArgs false
set_option maxRecDepth 20000
namespace Go.Proofs.YtbpoeggmpjepfaaDoor.Ab
open Go
section
variable {P : Program} {l : List Oper} {c : List (List Nat)} {n0 nt : Nat} {kp : Bool} {bs : List Nat} {σ σb : St} {K : Fr → St → Prop} {i : Nat} {fr : Fr} {rest : List Oper} {t : Tmp} {ty : TypeId} {pos : String} {aft : Array Edge} {av : AV}
theorem ale {lt : TypeId} {x : Operand} {q : Option Nat} {id sz ii jj : Nat} {elem : TypeId} {els : List (List AV)} {el : List AV} (he : els[ii]? = some el) (h : DA P l c n0 kp bs σ K (i + 1) rest ((t, av) :: fr)) (hbs : inN i bs = false := by exact rfl) (hx : ev fr x = some (.ptr id sz ii jj) := by exact rfl) (hq : shapeOf P lt = some q := by exact rfl) (hσ : σ id = some (.row sz elem els) := by exact lkp) (hp : load? (el.drop jj) q = some av := by exact rfl) (hm : (kp || memB c n0 i) = true := by first | exact rfl | decide +kernel) : DA P l c n0 kp bs σ K i (⟨some t, .load lt x, ty, pos, aft, none⟩ :: rest) fr := da_l hbs hm (fun _ hle R hR => opj_load_ptr rfl hq hx (hle _ _ hσ) he hp hR) h
end
section
variable {P : Program} {l : List Oper} {c : List (List Nat)} {es : List Nat} {nt : Nat} {ef ex : Bool} {σ : St} {K : Fr → St → Prop} {i : Nat} {fr : Fr} {rest : List WO} {t : Tmp} {op : Op} {ty : TypeId} {pos : String} {aft : Array Edge} {av : AV} {dst : Option Tmp}
theorem yle {lt : TypeId} {x : Operand} {q : Option Nat} {id sz ii jj : Nat} {elem : TypeId} {els : List (List AV)} {el : List AV} (he : els[ii]? = some el) (h : LY P l K rest ((t, av) :: fr) σ) (hbs : ef = false := by exact rfl) (hx : ev fr x = some (.ptr id sz ii jj) := by exact rfl) (hq : shapeOf P lt = some q := by exact rfl) (hσ : σ id = some (.row sz elem els) := by exact lkp) (hp : load? (el.drop jj) q = some av := by exact rfl) (hm : ex = true := by kernel_rfl) : LY P l K (⟨i, ef, ex, ⟨some t, .load lt x, ty, pos, aft, none⟩⟩ :: rest) fr σ := ly_l hbs hm (fun R hR => opj_load_ptr rfl hq hx hσ he hp hR) h
/-- A slice of our own is cut. -/
theorem yco {lt et : TypeId} {x : Operand} {lo hi : Option Operand} {id sz off len o2 n2 : Nat} {b k : Int} (ho : off + b.toNat = o2) (hn : k.toNat - b.toNat = n2) (h0 : 0 ≤ b) (h1 : b ≤ k) (h2 : k ≤ len) (h : LY P l K rest ((t, .osl id sz o2 n2) :: fr) σ) (hbs : ef = false := by exact rfl) (ht : P.underlying lt = some (.slice et) := by exact rfl) (hs : sizeIs P et = some sz := by exact rfl) (hx : ev fr x = some (.osl id sz off len) := by exact rfl) (hlo : bound (ev fr) 0 lo = some b := by exact rfl) (hhi : bound (ev fr) len hi = some k := by exact rfl) : LY P l K (⟨i, ef, ex, ⟨some t, .slice lt x lo hi none, ty, pos, aft, none⟩⟩ :: rest) fr σ := by
  subst ho
  subst hn
  exact ly_v hbs (fun _ R hR => opj_cut_osl rfl ht hs hx hlo hhi h0 h1 h2 hR) h
/-- A store into a row of our own, the element told. -/
theorem yse {st elem : TypeId} {x y : Operand} {id sz ii jj k : Nat} {els els' : List (List AV)} {el cs nel : List AV} {a : AV} (he : els[ii]? = some el) (hn2 : els.set ii nel = els') (h : LY P l K rest fr (σ.set id (.row sz elem els'))) (hx : ev fr x = some (.ptr id sz ii jj) := by exact rfl) (hy : ev fr y = some a := by exact rfl) (hm : sizeIs P st = some k := by exact rfl) (hσ : σ id = some (.row sz elem els) := by exact lkp) (hc : cellsOf a = some cs := by exact rfl) (hl : cs.length = k := by exact rfl) (hj : Nat.ble (jj + cs.length) el.length = true := by exact rfl) (hn1 : el.take jj ++ cs ++ el.drop (jj + cs.length) = nel := by exact rfl) (hbs : ef = true := by exact rfl) : LY P l K (⟨i, ef, ex, ⟨none, .store st x y, ty, pos, aft, none⟩⟩ :: rest) fr σ := by
  subst hn1
  subst hn2
  exact ly_e (R := fun r σ1 => r = .tup [] ∧ σ1 = σ.set id (.row sz elem (els.set ii (el.take jj ++ cs ++ el.drop (jj + cs.length))))) hbs rfl (opw_of (r := none) fun R hR => opj_store rfl hm hx hy hσ he hc hl (Nat.le_of_ble_eq_true hj) hR) fun r σ1 ⟨e1, e2⟩ => by subst e1; subst e2; exact h
/-- Nothing is appended. -/
theorem yap0 (by_ : Nat) {lt et : TypeId} {sz : Nat} {x y : Operand} {nl : Option Bool} {full : Bool} {els : List (List AV)} {ts : Array TypeId} {a : AV} (h : LY P l K rest ((t, .sl nl full sz els) :: fr) σ) (hs : ∀ σ', srcOf σ' a = some (sz, [])) (hts : ts = #[lt, lt] := by exact rfl) (ht : P.underlying lt = some (.slice et) := by exact rfl) (hsz : sizeIs P et = some sz := by exact rfl) (hz : (zeroIs P et).map (·.length) = some sz := by exact rfl) (hpos : Nat.blt 0 sz = true := by exact rfl) (hby : bytesIs P et = some by_ := by exact rfl) (hb1 : Nat.blt 0 by_ = true := by exact rfl) (hx : ev fr x = some (.sl nl full sz els) := by exact rfl) (hfull : full = true ∨ nl = some true := by first | exact .inl rfl | exact .inr rfl) (hy : ev fr y = some a := by exact rfl) (hb : (els.length + 0) * by_ ≤ 140737488355328 := by first | omega | (simp only [List.length_nil, List.length_cons, List.length_map]; omega)) (hbs : ef = false := by exact rfl) : LY P l K (⟨i, ef, ex, ⟨some t, .call { callee := .builtin .append, args := #[x, y], argTypes := ts }, ty, pos, aft, none⟩⟩ :: rest) fr σ :=
  ly_v hbs (fun σ' R hR => opj_append_sl rfl hts (elem_of ht hsz hz hpos) hby hx hfull hy (hs σ') hb (Nat.blt_eq.mp hb1) (fun _ => hR) (fun h => absurd rfl h)) h
end
/-- A cell of our own that nobody writes any more. -/
theorem rep_fpz {k : Cx} (hk : Ok k) {id sz : Nat} {et : TypeId} {cs : List AV} {u : Value} (h : Rep k (.ptr id sz 0 0) u) (hσ : k.σ id = some (.row sz et [cs])) : Rep { k with σ := k.σ.del id } (.fp cs) u := by
  obtain ⟨hok, hst⟩ := hk.forget (St.del_le k.σ id)
  cases h with
  | @ptr _ _ _ _ b ht hb =>
    have hid : k.σ id ≠ none := by rw [hσ]; simp
    have hc : ∀ (j : Nat) a, cs[j]? = some a → ∃ v, k.w.cell? ⟨b, 0 * sz + j, none⟩ = some v ∧ v.oneCell' = true ∧ Rep k a v := fun j a ha => row_cell hk hσ hb (el := cs) (i := 0) rfl ha
    rw [Nat.zero_mul, Nat.zero_add]
    simp only [Nat.zero_mul] at hc
    refine .fp (f := fun j => ((k.w.cell? ⟨b, 0 + j, none⟩).getD undef)) ⟨(hk.bas id b hid hb).2, ?_⟩ (fun j a ha => ?_) (fun j a ha => ?_)
    · rintro ⟨x, h5, h6⟩
      have hx : x ≠ id := fun e => by subst e; simp [St.del] at h5
      have h7 : k.σ x ≠ none := by simpa [St.del, hx] using h5
      exact hx (hk.inj x id b h7 hid h6 hb)
    · obtain ⟨v, h5, h6, h7⟩ := hc j a ha
      refine ⟨?_, ?_⟩
      · show k.w.cell? _ = _
        rw [h5]; rfl
      · rw [h5]; exact h6
    · obtain ⟨v, h5, h6, h7⟩ := hc j a ha
      simp only [h5, Option.getD_some]
      exact h7.step hst
theorem ghost_fp {t id sz : Nat} {et : TypeId} {cs : List AV} {fr : Fr} {σ : St} {K : Fr → St → Prop} (ht : lk fr t = some (.ptr id sz 0 0)) (hσ : σ id = some (.row sz et [cs])) (h : K ((t, .fp cs) :: fr) (σ.del id)) : Ghost fr σ K := fun k tmps hσ' hk hfr => by
  subst hσ'
  obtain ⟨hok, hst⟩ := hk.forget (St.del_le k.σ id)
  refine ⟨{ k with σ := k.σ.del id }, _, rfl, hok, hst, fun x a hx => ?_, h⟩
  rw [lk_cons] at hx
  split at hx
  · rename_i hxt
    subst hxt
    cases hx
    obtain ⟨u, hu, hr⟩ := hfr x _ ht
    exact ⟨u, hu, rep_fpz hk hr hσ⟩
  · obtain ⟨u, hu, hr⟩ := hfr x a hx
    exact ⟨u, hu, hr.step hst⟩
theorem cj_fp {P : Program} {nt : Nat} {Q : Post} {fr : Fr} {σ : St} (t : Nat) {c : Code} {id sz : Nat} {et : TypeId} {cs : List AV} (ht : lk fr t = some (.ptr id sz 0 0)) (hσ : σ id = some (.row sz et [cs])) (h : CJ P nt c Q ((t, .fp cs) :: fr) (σ.del id)) : CJ P nt c Q fr σ := cj_ghost (ghost_fp ht hσ h)
theorem lj_fp {P : Program} {nt : Nat} {ops : Array Oper} {Q : Post} {fr : Fr} {σ : St} (t : Nat) {c : List Oper} {id sz : Nat} {et : TypeId} {cs : List AV} (ht : lk fr t = some (.ptr id sz 0 0)) (hσ : σ id = some (.row sz et [cs])) (h : LJ P nt ops Q c ((t, .fp cs) :: fr) (σ.del id)) : LJ P nt ops Q c fr σ := lj_ghost (ghost_fp ht hσ h)
/-- A guard that is told is none. -/
theorem jug {P : Program} {nt : Nat} {ops : Array Oper} {Q : Post} {fr : Fr} {σ : St} {rest : List Oper} {op : Op} {ty : TypeId} {pos : String} {aft : Array Edge} {j u : Nat} {b : Bool} {a : AV} {dst : Option Tmp} (h : LJ P nt ops Q (⟨dst, op, ty, pos, aft, none⟩ :: rest) fr σ) (hj : (ops[j]?).bind (·.dst) = some u := by exact rfl) (hl : lk fr u = some a := by exact rfl) (hb : a = .v (.bool b) := by with_reducible rfl) : LJ P nt ops Q (⟨dst, op, ty, pos, aft, some (j, b)⟩ :: rest) fr σ := fun k a' hσ hk hz hf => by
  have h1 := h k a' hσ hk hz hf
  unfold wpList at h1 ⊢
  rw [if_pos (by simp [Region.wanted])] at h1
  rw [if_pos (by simp [Region.wanted, yields hf hj (hb ▸ hl)])]
  exact h1
/-- What stands in a row of our own is told by less. -/
theorem ghost_wkrow {b sz : Nat} {et : TypeId} {cs cs' : List AV} {fr : Fr} {σ : St} {K : Fr → St → Prop} (hσ : σ b = some (.row sz et [cs])) (hw : WkL cs cs') (h : K fr (σ.set b (.row sz et [cs']))) : Ghost fr σ K := fun k tmps hσ' hk hfr => by
  subst hσ'
  have hobj : ObjOk k b (.row sz et [cs']) := by
    rcases hk.obj b _ hσ with ⟨_, h2⟩ | ⟨blk, vs, h1, h2, h3, h4, h5⟩
    · cases h2
    · refine .inr ⟨blk, vs, h1, h2, fun i e he => ?_, by simpa using h4, fun i j e a he ha => ?_⟩
      · cases i with
        | zero => simp at he; subst he; rw [← hw.length]; exact h3 0 cs rfl
        | succ i => simp at he
      · cases i with
        | zero =>
          simp at he
          subst he
          have hj : j < cs.length := by rw [hw.length]; exact (List.getElem?_eq_some_iff.1 ha).1
          have hc : cs[j]? = some cs[j] := List.getElem?_eq_getElem hj
          obtain ⟨u, h6, h7, h8⟩ := h5 0 j cs _ rfl hc
          exact ⟨u, h6, h7, hw.get j _ a hc ha _ _ h8⟩
        | succ i => simp at he
  obtain ⟨hok, hst⟩ := Ok.redesc hk hσ hobj
  exact ⟨{ k with σ := k.σ.set b (.row sz et [cs']) }, fr, rfl, hok, hst, hfr.step hst, h⟩
theorem cj_wkrow {P : Program} {nt : Nat} {Q : Post} {fr : Fr} {σ : St} {c : Code} {b sz : Nat} {et : TypeId} {cs cs' : List AV} (hσ : σ b = some (.row sz et [cs])) (hw : WkL cs cs') (h : CJ P nt c Q fr (σ.set b (.row sz et [cs']))) : CJ P nt c Q fr σ := cj_ghost (ghost_wkrow hσ hw h)
/-- The same, of a list. -/
theorem ghost_wkrows {α : Type} {f g : α → List AV} {b sz : Nat} {et : TypeId} {l : List α} {fr : Fr} {σ : St} {K : Fr → St → Prop} (hσ : σ b = some (.row sz et (l.map f))) (hw : ∀ x, WkL (f x) (g x)) (h : K fr (σ.set b (.row sz et (l.map g)))) : Ghost fr σ K := fun k tmps hσ' hk hfr => by
  subst hσ'
  have hobj : ObjOk k b (.row sz et (l.map g)) := by
    rcases hk.obj b _ hσ with ⟨h1, h2⟩ | ⟨blk, vs, h1, h2, h3, h4, h5⟩
    · refine .inl ⟨h1, ?_⟩
      rw [List.map_eq_nil_iff] at h2
      rw [h2]; rfl
    · refine .inr ⟨blk, vs, h1, h2, fun i e he => ?_, by simpa using h4, fun i j e a he ha => ?_⟩
      · rw [List.getElem?_map] at he
        cases hx : l[i]? with
        | none => rw [hx] at he; cases he
        | some x =>
          rw [hx] at he; cases he
          rw [← (hw x).length]
          exact h3 i (f x) (by rw [List.getElem?_map, hx]; rfl)
      · rw [List.getElem?_map] at he
        cases hx : l[i]? with
        | none => rw [hx] at he; cases he
        | some x =>
          rw [hx] at he; cases he
          have hj : j < (f x).length := by rw [(hw x).length]; exact (List.getElem?_eq_some_iff.1 ha).1
          have hc : (f x)[j]? = some (f x)[j] := List.getElem?_eq_getElem hj
          obtain ⟨u, h6, h7, h8⟩ := h5 i j (f x) _ (by rw [List.getElem?_map, hx]; rfl) hc
          exact ⟨u, h6, h7, (hw x).get j _ a hc ha _ _ h8⟩
  obtain ⟨hok, hst⟩ := Ok.redesc hk hσ hobj
  exact ⟨{ k with σ := k.σ.set b (.row sz et (l.map g)) }, fr, rfl, hok, hst, hfr.step hst, h⟩
theorem cj_wkrows {P : Program} {nt : Nat} {Q : Post} {fr : Fr} {σ : St} {c : Code} {α : Type} {b sz : Nat} {et : TypeId} {l : List α} (f g : α → List AV) (hσ : σ b = some (.row sz et (l.map f))) (hw : ∀ x, WkL (f x) (g x)) (h : CJ P nt c Q fr (σ.set b (.row sz et (l.map g)))) : CJ P nt c Q fr σ := cj_ghost (ghost_wkrows hσ hw h)
/-- What a function captures nobody writes any more. -/
theorem jmf (t : Nat) {P : Program} {nt : Nat} {ops : Array Oper} {Q : Post} {fr : Fr} {σ : St} {dst : Option Tmp} {f : Fn} {x y : Array Operand} {ty : TypeId} {pos : String} {aft : Array Edge} {gd : Option (Nat × Bool)} {rest : List Oper} {id sz : Nat} {et : TypeId} {cs : List AV} (h : LJ P nt ops Q (⟨dst, .makeFunc f x y, ty, pos, aft, gd⟩ :: rest) ((t, .fp cs) :: fr) (σ.del id)) (ht : lk fr t = some (.ptr id sz 0 0) := by exact rfl) (hσ : σ id = some (.row sz et [cs]) := by exact lkp) : LJ P nt ops Q (⟨dst, .makeFunc f x y, ty, pos, aft, gd⟩ :: rest) fr σ := lj_fp t ht hσ h
end Go.Proofs.YtbpoeggmpjepfaaDoor.Ab

/- What a rule does: two values taken off a pile. -/
set_option linter.unusedVariables false
set_option linter.unusedSimpArgs false
set_option maxRecDepth 20000
namespace Go.Proofs.YtbpoeggmpjepfaaDoor.Ab
open Go
attribute [local irreducible] thn inb endR CJ LJ OpJ DJ DA DB AllocK
def lastTwo : List Vl → Option (List Vl × Vl × Vl)
  | [] => none
  | [_] => none
  | [a, b] => some ([], a, b)
  | x :: l => (lastTwo l).map (fun r => (x :: r.1, r.2))
theorem lastTwo_short {l : List Vl} (h : l.length < 2) : lastTwo l = none := by
  match l, h with
  | [], _ => rfl
  | [_], _ => rfl
theorem lastTwo_some : ∀ (pre : List Vl) (a b : Vl), lastTwo (pre ++ [a, b]) = some (pre, a, b)
  | [], a, b => rfl
  | x :: pre, a, b => by
    have ih := lastTwo_some pre a b
    cases pre with
    | nil => rfl
    | cons y pre =>
      show lastTwo (x :: y :: (pre ++ [a, b])) = _
      cases hp : pre ++ [a, b] with
      | nil => simp at hp
      | cons z r =>
        have e : y :: pre ++ [a, b] = y :: z :: r := by rw [List.cons_append, hp]
        rw [e] at ih
        show (lastTwo (y :: z :: r)).map _ = _
        rw [ih]
        rfl
theorem two_of {l : List Vl} (h : ¬ l.length < 2) : ∃ pre a b, l = pre ++ [a, b] := by
  refine ⟨l.take (l.length - 2), l[l.length - 2], l[l.length - 1], ?_⟩
  have h1 : l.drop (l.length - 2) = [l[l.length - 2], l[l.length - 1]] := by
    rw [List.drop_eq_getElem_cons (show l.length - 2 < l.length by omega)]
    congr 1
    have e : l.length - 2 + 1 = l.length - 1 := by omega
    rw [e, List.drop_eq_getElem_cons (show l.length - 1 < l.length by omega)]
    congr 1
    exact List.drop_of_length_le (by omega)
  rw [← h1, List.take_append_drop]
theorem q_operate_short {σ : St} {w : Nat} (k : Int) (pile : List Vl) (hw : σ w = some (.row 3 30 (pile.map vc))) (h : pile.length < 2) : ACalls Tryd.prog 22 [.v (.int .u8 k), .osl w 3 0 pile.length] σ (fun e σ' => e = .ret (.tup [.sl none false 3 [], .v (.int .i64 4)]) ∧ σ' = σ) := by
  refine enterS Tryd.func22 rfl rfl rfl rfl ?_
  repeat' (first|(first|(refine jl ?_;first|refine j7 ?_|refine j1 ?_|refine j4 ?_|refine j9 ?_)|(refine jc ?_;first|refine c1 ?_|refine c2 ?_|refine c7 ?_)|refine n2 ?_|refine n11 ?_)|(refine c9 (fun h=>?_) (fun h=>?_)<;>((try simp only [Bool.or_eq_true, Bool.and_eq_true, Bool.or_eq_false_iff, Bool.and_eq_false_iff, Bool.not_eq_true', Bool.not_eq_false', decide_eq_true_eq, decide_eq_false_iff_not, Bool.false_eq_true, Bool.true_eq_false, reduceCtorEq] at h) <;> (try simp (disch := omega) only [sb_bt, w64, Int.reduceAdd, Int.reduceToNat, Int.toNat_natCast, not_true_eq_false, false_or] at h) <;> (try (exfalso; omega)))))
  all_goals first
    | exact gives (St.le_refl _) (fin_two (.wk (Wk.nil _ _ _ _)) (Fin.refl _ _ _))
    | trace_state
theorem pre_ix (pre : List Vl) (a b : Vl) (hl : pre.length ≤ 65536) : IntKind.i64.wrap (((pre.length + 2 : Nat) : Int) - 2) = ((pre.length : Nat) : Int) ∧ ((pre ++ [a, b]).map vc)[0 + (IntKind.i64.wrap (((pre.length + 2 : Nat) : Int) - 2)).toNat]? = some (vc a) ∧ ((pre ++ [a, b]).map vc)[0 + (IntKind.i64.wrap (IntKind.i64.wrap (((pre.length + 2 : Nat) : Int) - 2) + 1)).toNat]? = some (vc b) := by
  have e1 : IntKind.i64.wrap (((pre.length + 2 : Nat) : Int) - 2) = ((pre.length : Nat) : Int) := by rw [w64 (by omega) (by omega)]; omega
  refine ⟨e1, ?_, ?_⟩
  · rw [e1, Nat.zero_add, Int.toNat_natCast, List.map_append, List.getElem?_append_right (by rw [List.length_map]; exact Nat.le_refl _), List.length_map, Nat.sub_self]; rfl
  · rw [e1, w64 (n := ((pre.length : Nat) : Int) + 1) (by omega) (by omega), Nat.zero_add, show (((pre.length : Nat) : Int) + 1).toNat = pre.length + 1 by omega, List.map_append, List.getElem?_append_right (by rw [List.length_map]; omega), List.length_map, show pre.length + 1 - pre.length = 1 by omega]; rfl
set_option maxHeartbeats 4000000 in
theorem q_operate_bad {σ : St} {w : Nat} (k : Int) (pre : List Vl) (a b : Vl) (hw : σ w = some (.row 3 30 ((pre ++ [a, b]).map vc))) (hl : pre.length ≤ 65536) (h : opE k a b ≠ 0) : ACalls Tryd.prog 22 [.v (.int .u8 k), .osl w 3 0 (pre.length + 2)] σ (fun e σ' => e = .ret (.tup [.sl none false 3 [], .v (.int .i64 (opE k a b))]) ∧ σ' = σ) := by
  refine enterS Tryd.func22 rfl rfl rfl rfl ?_
  obtain ⟨e1, v1, v2⟩ := pre_ix pre a b hl
  obtain ⟨ak, an, as_⟩ := a
  obtain ⟨bk, bn, bs_⟩ := b
  have k1 := p_ain an
  have k2 := p_ain bn
  by_cases hk : 4 < k
  · have e : opE k ⟨ak, an, as_⟩ ⟨bk, bn, bs_⟩ = 4 := if_pos hk
    rw [e]
    repeat' (first|(first|(refine jl ?_;first|refine j7 ?_|refine j1 ?_|refine j4 ?_|refine j9 ?_)|(refine jc ?_;first|refine c1 ?_|refine c2 ?_|refine c7 ?_)|refine n2 ?_|refine n11 ?_)|(refine c9 (fun h=>?_) (fun h=>?_)<;>((try simp only [Bool.or_eq_true, Bool.and_eq_true, Bool.or_eq_false_iff, Bool.and_eq_false_iff, Bool.not_eq_true', Bool.not_eq_false', decide_eq_true_eq, decide_eq_false_iff_not, Bool.false_eq_true, Bool.true_eq_false, reduceCtorEq] at h) <;> (try simp (disch := omega) only [sb_bt, w64, Int.reduceAdd, Int.reduceToNat, Int.toNat_natCast, not_true_eq_false, false_or] at h) <;> (try (exfalso; omega)))))
    all_goals first
      | exact gives (by repeat' (first | exact St.le_refl _ | refine St.le_any ?_)) (fin_two (.wk (Wk.nil _ _ _ _)) (Fin.refl _ _ _))
      | (exfalso; omega)
  · by_cases hb : ak ≠ 1 ∨ bk ≠ 1 ∨ inI an = false ∨ inI bn = false
    · have e : opE k ⟨ak, an, as_⟩ ⟨bk, bn, bs_⟩ = 23 := by unfold opE; rw [if_neg hk, if_pos hb]
      rw [e]
      repeat' (first|(first|(refine jl ?_;first|refine j7 ?_|refine j1 ?_|refine j4 ?_|refine j9 ?_|refine j14 ?_|refine j16 ?_|refine jcq (hp:=fun hc=>k1) ?_|refine jcq (hp:=fun hc=>k2) ?_)|(refine al ?_;first|refine da_nil ?_|refine a1 ?_|refine ai4 ?_|refine ale v1 ?_|refine ale v2 ?_|refine da_skip ?_)|(refine bl ?_;first|refine b17t ?_|refine b17 ?_|refine db_nil ?_)|refine al_cons (fun id hid=>?_)|refine al_nil ?_|(refine jc ?_;first|refine c1 ?_|refine c2 ?_|refine c6 ?_|refine c7 ?_|refine cqk ?_)|refine n1 ?_|refine n2 ?_|refine n11 ?_)|(refine c9 (fun h=>?_) (fun h=>?_)<;>((try simp only [Bool.or_eq_true, Bool.and_eq_true, Bool.or_eq_false_iff, Bool.and_eq_false_iff, Bool.not_eq_true', Bool.not_eq_false', decide_eq_true_eq, decide_eq_false_iff_not, Bool.false_eq_true, Bool.true_eq_false, reduceCtorEq] at h) <;> (try simp (disch := omega) only [sb_bt, w64, Int.reduceAdd, Int.reduceToNat, Int.toNat_natCast, not_true_eq_false, false_or] at h) <;> (try (exfalso; omega)))))
      all_goals first
        | exact gives (by repeat' (first | exact St.le_refl _ | refine St.le_any ?_)) (fin_two (.wk (Wk.nil _ _ _ _)) (Fin.refl _ _ _))
        | (exfalso; omega)
        | (exfalso; simp_all; done)
    · have hbad : ¬ (ak ≠ 1 ∨ bk ≠ 1 ∨ inI an = false ∨ inI bn = false) := hb
      simp only [not_or, ne_eq, Decidable.not_not, Bool.not_eq_false] at hb
      obtain ⟨rfl, rfl, ha, hb⟩ := hb
      rw [ha] at k1
      rw [hb] at k2
      have e : opE k ⟨1, an, as_⟩ ⟨1, bn, bs_⟩ = if (rk k an bn).2 = true then 0 else 23 := by unfold opE; rw [if_neg hk, if_neg hbad]
      have k3 := p_reckon k an bn ha hb
      have hf : (rk k an bn).2 = false := by
        cases hq : (rk k an bn).2 with
        | false => rfl
        | true => rw [hq] at e; exact absurd e h
      rw [hf] at k3 e
      rw [e]
      repeat' (first|(first|(refine jl ?_;first|refine j7 ?_|refine j1 ?_|refine j4 ?_|refine j9 ?_|refine j14 ?_|refine j16 ?_|refine jcq (hp:=fun hc=>k1) ?_|refine jcq (hp:=fun hc=>k2) ?_|refine jp (k3) ?_)|(refine al ?_;first|refine da_nil ?_|refine a1 ?_|refine ai4 ?_|refine ale v1 ?_|refine ale v2 ?_|refine da_skip ?_)|(refine bl ?_;first|refine b17t ?_|refine b17 ?_|refine db_nil ?_)|refine al_cons (fun id hid=>?_)|refine al_nil ?_|(refine jc ?_;first|refine c1 ?_|refine c2 ?_|refine c6 ?_|refine c7 ?_|refine cqk ?_)|refine n1 ?_|refine n2 ?_|refine n11 ?_)|(refine c9 (fun h=>?_) (fun h=>?_)<;>((try simp only [Bool.or_eq_true, Bool.and_eq_true, Bool.or_eq_false_iff, Bool.and_eq_false_iff, Bool.not_eq_true', Bool.not_eq_false', decide_eq_true_eq, decide_eq_false_iff_not, Bool.false_eq_true, Bool.true_eq_false, reduceCtorEq] at h) <;> (try simp (disch := omega) only [sb_bt, w64, Int.reduceAdd, Int.reduceToNat, Int.toNat_natCast, not_true_eq_false, false_or] at h) <;> (try (exfalso; omega)))))
      all_goals first
        | exact gives (by repeat' (first | exact St.le_refl _ | refine St.le_any ?_)) (fin_two (.wk (Wk.nil _ _ _ _)) (Fin.refl _ _ _))
        | (exfalso; omega)
        | (exfalso; simp at h; done)
        | trace_state
set_option maxHeartbeats 4000000 in
theorem q_operate_ok {σ : St} {w : Nat} (k : Int) (pre : List Vl) (a b : Vl) (hw : σ w = some (.row 3 30 ((pre ++ [a, b]).map vc))) (hl : pre.length ≤ 65536) (h : opE k a b = 0) : ACalls Tryd.prog 22 [.v (.int .u8 k), .osl w 3 0 (pre.length + 2)] σ (fun e σ' => ∃ w', σ w' = none ∧ e = .ret (.tup [.osl w' 3 0 (pre.length + 1), .v (.int .i64 0)]) ∧ σ' = (σ.del w).set w' (.row 3 30 ((pre ++ [opV k a b]).map vc))) := by
  refine acalls_gives_ex ?_
  refine enter Tryd.func22 rfl rfl rfl rfl ?_
  obtain ⟨e1, v1, v2⟩ := pre_ix pre a b hl
  obtain ⟨ak, an, as_⟩ := a
  obtain ⟨bk, bn, bs_⟩ := b
  have k1 := p_ain an
  have k2 := p_ain bn
  have hk : ¬ 4 < k := fun hk => by unfold opE at h; rw [if_pos hk] at h; cases h
  have hb : ¬ (ak ≠ 1 ∨ bk ≠ 1 ∨ inI an = false ∨ inI bn = false) := fun hb => by unfold opE at h; rw [if_neg hk, if_pos hb] at h; cases h
  have e : opE k ⟨ak, an, as_⟩ ⟨bk, bn, bs_⟩ = if (rk k an bn).2 = true then 0 else 23 := by unfold opE; rw [if_neg hk, if_neg hb]
  simp only [not_or, ne_eq, Decidable.not_not, Bool.not_eq_false] at hb
  obtain ⟨rfl, rfl, ha, hb⟩ := hb
  rw [ha] at k1
  rw [hb] at k2
  have k3 := p_reckon k an bn ha hb
  have hf : (rk k an bn).2 = true := by
    cases hq : (rk k an bn).2 with
    | true => rfl
    | false => rw [hq, h] at e; cases e
  rw [hf] at k3
  have k4 := p_number (rk k an bn).1
  have hc2 : (IntKind.i64.wrap (((pre.length + 2 : Nat) : Int) - 2)).toNat - (0 : Int).toNat = pre.length := by rw [e1]; omega
  have ha : ((pre ++ [(⟨1, an, as_⟩ : Vl), ⟨1, bn, bs_⟩]).map vc).take pre.length ++ [vc ⟨1, (rk k an bn).1, ⟨#[]⟩⟩] = (pre ++ [opV k ⟨1, an, as_⟩ ⟨1, bn, bs_⟩]).map vc := by
    rw [List.map_append, List.take_append_of_le_length (by rw [List.length_map]; exact Nat.le_refl _), List.take_of_length_le (by rw [List.length_map]; exact Nat.le_refl _), List.map_append]; rfl
  have hn0 : pre.length ≤ ((pre ++ [(⟨1, an, as_⟩ : Vl), ⟨1, bn, bs_⟩]).map vc).length := by rw [List.length_map, List.length_append]; omega
  repeat' (first|(first|(refine jl ?_;first|refine j7 ?_|refine j1 ?_|refine j4 ?_|refine j9 ?_|refine j14 ?_|refine j16 ?_|refine jcq (hp:=fun hc=>k1) ?_|refine jcq (hp:=fun hc=>k2) ?_|refine jp (k3) ?_)|(refine al ?_;first|refine da_nil ?_|refine a1 ?_|refine ai4 ?_|refine ale v1 ?_|refine ale v2 ?_|refine da_skip ?_)|(refine yl ?_;first|refine y7 ?_|refine y8 ?_|refine y10 ?_|refine y11 ?_|refine ybd ?_|refine ybl ?_|refine y1 ?_|refine y2 ?_|refine y3 ?_|refine y3f ?_|refine y9 ?_|refine y14 ?_|refine y15 ?_|refine y16 ?_|refine y17 ?_|refine y18 ?_|refine y21 ?_|refine y25 ?_|refine yi1 ?_|refine yi2 ?_|refine yi3 ?_|refine yi4 ?_|refine yi4q ?_|refine yi6 ?_|refine ylit ?_|refine yp (k1) ?_|refine ypy (k1) ?_|refine ypq (hp:=fun hc=>k1) ?_|refine yp (k2) ?_|refine ypy (k2) ?_|refine ypq (hp:=fun hc=>k2) ?_|refine yp (k3) ?_|refine ypy (k3) ?_|refine ypq (hp:=fun hc=>k3) ?_|refine yp (k4) ?_|refine ypy (k4) ?_|refine ypq (hp:=fun hc=>k4) ?_|refine yco (len := pre.length + 2) (b := 0) (k := IntKind.i64.wrap (((pre.length + 2 : Nat) : Int) - 2)) (off := 0) (o2 := 0) rfl hc2 (by omega) (by rw [e1]; omega) (by rw [e1]; omega) ?_)|(refine bl ?_;first|refine b17t ?_|refine b17 ?_|refine db_nil ?_)|refine al_cons (fun id hid=>?_)|refine al_nil ?_|(refine jc ?_;first|refine c1 ?_|refine c2 ?_|refine c6 ?_|refine cqy (id := 10) [6] [0, 1, 2, 3, 4, 5, 6, 7, 8] ?_|refine cqk ?_)|refine n1 ?_)|(refine c9 (fun h=>?_) (fun h=>?_)<;>((try simp only [Bool.or_eq_true, Bool.and_eq_true, Bool.or_eq_false_iff, Bool.and_eq_false_iff, Bool.not_eq_true', Bool.not_eq_false', decide_eq_true_eq, decide_eq_false_iff_not, Bool.false_eq_true, Bool.true_eq_false, reduceCtorEq] at h) <;> (try simp (disch := omega) only [sb_bt, w64, Int.reduceAdd, Int.reduceToNat, Int.toNat_natCast, not_true_eq_false, false_or] at h) <;> (try (exfalso; omega)))))
  all_goals first
    | (exfalso; omega)
    | (exfalso; simp at h; done)
    | skip
  refine yapo (els := (pre ++ [(⟨1, an, as_⟩ : Vl), ⟨1, bn, bs_⟩]).map vc) (n := pre.length) (news := [vc ⟨1, (rk k an bn).1, ⟨#[]⟩⟩]) (m := pre.length + 1) (fun w' hw' => ?_) ha rfl (hn := hn0) (hb := by dsimp only [List.length]; omega)
  repeat (first|(refine yl ?_;first|refine y7 ?_|refine y8 ?_|refine y10 ?_|refine y11 ?_|refine ybd ?_|refine ybl ?_|refine y1 ?_|refine y2 ?_|refine y3 ?_|refine y3f ?_|refine y9 ?_|refine y14 ?_|refine y15 ?_|refine y16 ?_|refine y17 ?_|refine y18 ?_|refine y21 ?_|refine y25 ?_|refine yi1 ?_|refine yi2 ?_|refine yi3 ?_|refine yi4 ?_|refine yi4q ?_|refine yi6 ?_|refine ylit ?_))
  refine ynil ?_
  repeat (first|(refine jc ?_;first|refine c7 ?_)|refine n1 ?_|refine n11 ?_)
  refine ⟨w', St.ns3 hw', ?_⟩
  exact ge rfl (St.le_setk (St.le_any (St.le_del2 (St.le_any (St.le_any (St.le_any (St.le_refl _))))) (St.none_del (St.ns3 hw'))) (St.set_same _ _ _))
end Go.Proofs.YtbpoeggmpjepfaaDoor.Ab

/- Conditions: data, what is bound, what is one of some. -/
set_option linter.unusedVariables false
set_option linter.unusedSimpArgs false
set_option maxRecDepth 20000
namespace Go.Proofs.YtbpoeggmpjepfaaDoor.Ab
open Go
attribute [local irreducible] thn inb endR CJ LJ OpJ DJ DA DB AllocK

def noBd : Bd := ⟨⟨#[]⟩, noV⟩
def findB (nm : ByteArray) (l : List Bd) : Option Bd := l.find? (isB nm)
def lookV (nm : ByteArray) (l : List Bd) : Vl := ((findB nm l).getD noBd).val
def lookB (nm : ByteArray) (l : List Bd) : Bool := (findB nm l).isSome
theorem p_rlookup (nl : Option Bool) (full : Bool) (l : List Bd) (nm : ByteArray) : Pure Tryd.prog 24 [.sl nl full 4 (l.map bc), .v (.string nm)] (.tup [.agg (vc (lookV nm l)), .v (.bool (lookB nm l))]) := by
  refine enterW Tryd.func24 rfl rfl rfl rfl (fun σ => ?_)
  refine cj_len 0 (fun hm => ?_)
  have hn : (l.map bc).length = l.length := List.length_map ..
  repeat (first|(refine jl ?_;first|refine j1 ?_|refine j4 ?_|refine j13 (fun id hid=>?_))|(refine jc ?_;first|refine c1 ?_|refine c2 ?_|refine c5 ?_))
  refine cj_fors (fun i : Nat => findB nm (l.drop i) = findB nm l) (fun i => [(6, .v (.int .i64 i))]) (fun i => l.length - i) 0 rfl ⟨⟨_, rfl, fun _ _ h => h⟩, trivial⟩ (fun i hi => ?_)
  rcases hd : l.drop i with _ | ⟨x, r⟩
  · have h0 := dropn hd
    repeat' (first|(first|(refine jl ?_;first|refine jb ?_|refine j1 ?_|refine j4 ?_|refine j17t ?_)|(refine jc ?_;first|refine c1 ?_|refine c2 ?_|refine c7 ?_|refine c8 ?_)|refine n1 ?_|refine n3 ?_|refine n7 ?_|refine n8 ?_|refine n15 ?_)|(refine c9 (fun h=>?_) (fun h=>?_)<;>((try simp only [Bool.or_eq_true, Bool.and_eq_true, Bool.or_eq_false_iff, Bool.and_eq_false_iff, Bool.not_eq_true', Bool.not_eq_false', decide_eq_true_eq, decide_eq_false_iff_not, Bool.false_eq_true, Bool.true_eq_false, reduceCtorEq] at h) <;> (try simp (disch := omega) only [sb_bt, w64, Int.reduceAdd, Int.reduceToNat, Int.toNat_natCast, not_true_eq_false, false_or] at h) <;> (try (exfalso; omega)))))
    rw [lookV, lookB, ← hi, hd]
    exact ge rfl
  · obtain ⟨h1, h2, h3⟩ := dropc hd
    have h4 := get_map bc h3
    rw [hd] at hi
    repeat' (first|(first|(refine jl ?_;first|refine jbl ?_|refine j1 ?_|refine j4 ?_|refine j6 ?_|refine j17t ?_|refine ji1 ?_)|(refine jc ?_;first|refine c1 ?_|refine c2 ?_|refine c5 ?_|refine c6 ?_|refine c7 ?_)|refine n1 ?_|refine n2 ?_|refine n5 ?_|refine n6 ?_|refine n10 ?_|refine n15 ?_)|(refine c9 (fun h=>?_) (fun h=>?_)<;>((try simp only [Bool.or_eq_true, Bool.and_eq_true, Bool.or_eq_false_iff, Bool.and_eq_false_iff, Bool.not_eq_true', Bool.not_eq_false', decide_eq_true_eq, decide_eq_false_iff_not, Bool.false_eq_true, Bool.true_eq_false, reduceCtorEq] at h) <;> (try simp (disch := omega) only [sb_bt, w64, Int.reduceAdd, Int.reduceToNat, Int.toNat_natCast, not_true_eq_false, false_or] at h) <;> (try (exfalso; omega)))))
    · have : findB nm l = some x := by rw [← hi]; simp [findB, isB, h]
      rw [lookV, lookB, this]
      exact ge rfl
    · exact nx_for (i + 1) (by rw [h2, ← hi]; simp [findB, isB, h]) (by omega) ⟨⟨_, rfl, wk1 (by omega)⟩, trivial⟩
theorem q_lookup1 {σ : St} {id : Nat} {nm : ByteArray} (hid : σ id = some (.row 1 9 [[.v (.string nm)]])) (x : Bd) : ACalls Tryd.prog 39 [.agg (bc x), .ptr id 1 0 0] σ (fun e σ' => e = .ret (.v (.bool (isB nm x))) ∧ σ' = σ) := by
  refine enterS Tryd.func39 rfl rfl rfl rfl ?_
  repeat (first|(refine jl ?_;first|refine j1 ?_|refine j4 ?_|refine j12 (fun id hid=>?_)|refine j14 ?_)|(refine jc ?_;first|refine c1 ?_|refine c2 ?_|refine c7 ?_)|refine n11 ?_)
  exact ge rfl
theorem p_lookup (nl : Option Bool) (full : Bool) (l : List Bd) (nm : ByteArray) : Pure Tryd.prog 21 [.sl nl full 4 (l.map bc), .v (.string nm)] (.tup [.agg (vc (lookV nm l)), .v (.bool (lookB nm l))]) := by
  refine enterW Tryd.func21 rfl rfl rfl rfl (fun σ => ?_)
  have h5 := idxG_lt (isB nm) l 0
  have h6 := idxG_get (isB nm) l 0
  repeat (first|(refine jl ?_;first|refine j1 ?_|refine j4 ?_|refine j12 (fun id hid=>?_)|refine j13 (fun id hid=>?_))|(refine jc ?_;first|refine c1 ?_|refine c2 ?_))
  repeat' (first|(first|(refine jl ?_;first|refine jb ?_|refine j1 ?_|refine j4 ?_|refine j17t ?_|refine lj_to rfl rfl rfl (q_index_bounds (isB nm) rfl nl full l (fun x => q_lookup1 lkp x)) ?_)|(refine jc ?_;first|refine c1 ?_|refine c2 ?_|refine c6 ?_|refine c7 ?_)|refine n1 ?_|refine n2 ?_|refine n15 ?_)|(refine c9 (fun h=>?_) (fun h=>?_)<;>(try simp only [Bool.or_eq_true, Bool.and_eq_true, Bool.or_eq_false_iff, Bool.and_eq_false_iff, Bool.not_eq_true', Bool.not_eq_false', decide_eq_true_eq, decide_eq_false_iff_not, Bool.false_eq_true, Bool.true_eq_false, reduceCtorEq] at h)))
  · have : findB nm l = none := by rw [findB, List.find?_eq_none]; intro x hx; simp [h5.1 h x hx]
    rw [lookV, lookB, this]
    exact ge rfl
  · obtain ⟨j, x, e1, e2, e3, e4⟩ := h6 (by omega)
    rw [Nat.zero_add] at e1
    have h7 := get_map bc e2
    rw [e1]
    repeat (first|(refine jl ?_;first|refine jbl ?_|refine j1 ?_|refine j4 ?_|refine j17t ?_|refine ji1 ?_)|(refine jc ?_;first|refine c7 ?_)|refine n15 ?_)
    have : findB nm l = some x := e4
    rw [lookV, lookB, this]
    exact ge rfl
end Go.Proofs.YtbpoeggmpjepfaaDoor.Ab
