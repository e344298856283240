/- The texts AbL, AbM, AbP, AbN, AbO, AbS, AbT, AbU, AbV, AbZ, AbR, AbJ, AbI, one behind the other. -/
import Derived.Test.YtbpoeggmpjepfaaDoorM1
import Derived.Test.YtbpoeggmpjepfaaDoorM2
import Derived.Lib.Builder
import Derived.Lib.UnsafeStr
import Derived.Laws.Externs
import Derived.MapKept
import Derived.Scope
/- Abstract values over the model's memory: loops that keep their frame, places in slices, functions called as values, and what is told less of. -/
set_option linter.unusedVariables false
set_option linter.unusedSimpArgs false
set_option maxRecDepth 20000
namespace Go.Proofs.YtbpoeggmpjepfaaDoor.Ab
open Go
/-! ### What a loop keeps -/
/-- Slots that a list of operations writes. -/
def dstL : List Oper → List Nat → List Nat
  | [], acc => acc
  | o :: r, acc => match o.dst with
    | some t => dstL r (t :: acc)
    | none => dstL r acc
def dstC : Code → List Nat → List Nat
  | .region _ l _, acc => dstL l.toList acc
  | .seq x y, acc => dstC y (dstC x acc)
  | .cond _ x y, acc => dstC y (dstC x acc)
  | .block _ x, acc => dstC x acc
  | .loop x, acc => dstC x acc
  | _, acc => acc
def inN (t : Nat) : List Nat → Bool
  | [] => false
  | u :: r => bif Nat.beq t u then true else inN t r
/-- The newest entry of each slot that is none of some, told in a new list. -/
def keepK : List Nat → Fr → Fr → Option Fr
  | _, [], acc => some acc
  | ws, (t, a) :: r, acc => bif inN t ws then keepK ws r acc else keepK (t :: ws) r ((t, a) :: acc)
theorem inN_iff (t : Nat) : ∀ l : List Nat, inN t l = true ↔ t ∈ l
  | [] => by simp [inN]
  | u :: r => by
    unfold inN
    by_cases h : t = u
    · subst h; simp
    · have : Nat.beq t u = false := by
        cases hb : Nat.beq t u with
        | false => rfl
        | true => exact absurd (Nat.eq_of_beq_eq_true hb) h
      rw [this, cond_false, inN_iff t r]
      simp [h]
theorem lk_skip {t : Nat} : ∀ (p : Fr) (g : Fr), (∀ x ∈ p, x.1 ≠ t) → lk (p ++ g) t = lk g t
  | [], g, _ => rfl
  | (u, b) :: p, g, h => by
    rw [List.cons_append, lk_cons, if_neg (Ne.symm (h (u, b) (.head _)))]
    exact lk_skip p g fun x hx => h x (.tail _ hx)
theorem keep_sub : ∀ (fr : Fr) (ws : List Nat) (pre acc kf : Fr), (∀ x ∈ pre, x.1 ∈ ws) → Sub acc (pre ++ fr) → keepK ws fr acc = some kf → Sub kf (pre ++ fr)
  | [], ws, pre, acc, kf, _, ha, h => by cases h; exact ha
  | (t, a) :: r, ws, pre, acc, kf, hp, ha, h => by
    have e : pre ++ (t, a) :: r = (pre ++ [(t, a)]) ++ r := by simp
    unfold keepK at h
    cases hi : inN t ws with
    | true =>
      rw [hi, cond_true] at h
      rw [e] at ha ⊢
      refine keep_sub r ws _ acc kf (fun x hx => ?_) ha h
      rcases List.mem_append.1 hx with hx | hx
      · exact hp x hx
      · obtain rfl := List.mem_singleton.1 hx
        exact (inN_iff _ _).1 hi
    | false =>
      rw [hi, cond_false] at h
      have hl : lk (pre ++ (t, a) :: r) t = some a := by
        rw [lk_skip pre _ (fun x hx he => by
          have := (inN_iff t ws).2 (he ▸ hp x hx)
          rw [hi] at this; cases this), lk_cons, if_pos rfl]
      have ha' : Sub ((t, a) :: acc) (pre ++ (t, a) :: r) := ⟨hl, ha⟩
      rw [e] at ha' ⊢
      refine keep_sub r (t :: ws) _ _ kf (fun x hx => ?_) ha' h
      rcases List.mem_append.1 hx with hx | hx
      · exact .tail _ (hp x hx)
      · obtain rfl := List.mem_singleton.1 hx
        exact .head _
theorem subw_of_sub {g : Fr} : ∀ {f : Fr}, Sub f g → SubW f g
  | [], _ => trivial
  | (t, a) :: r, h => ⟨⟨a, h.1, fun _ _ x => x⟩, subw_of_sub h.2⟩
theorem subw_append {g : Fr} : ∀ {a b : Fr}, SubW a g → SubW b g → SubW (a ++ b) g
  | [], b, _, h => h
  | (t, x) :: a, b, ha, hb => ⟨ha.1, subw_append ha.2 hb⟩
def Op1 (c : Code) : Option (List Nat) := some (dstC c [])
section
variable {P : Program} {nt : Nat} {Q : Post} {fr : Fr} {σ : St} {c : Code}
/-- A loop: C what it carries, by a state of one's own; what it does not write stays as it is. -/
theorem cj_for {α : Type} (I : α → Prop) (C : α → Fr) (S : α → St) (m : α → Nat) (s0 : α) {kf : Fr} (hI : I s0) (hC : SubW (C s0) fr) (hσ : (S s0).le σ)
    (hr : ∀ s, I s → CJ P nt c (thn Q (fun fr' σ' => ∃ s', I s' ∧ m s' < m s ∧ SubW (C s') fr' ∧ Sub kf fr' ∧ (S s').le σ')) (C s ++ kf) (S s)) (hk : keepK (dstC c []) fr [] = some kf := by exact rfl) : CJ P nt (.loop c) Q fr σ :=
  cj_headW I (fun s => C s ++ kf) S m s0 hI (subw_append hC (subw_of_sub (keep_sub fr _ [] [] kf (fun x hx => by cases hx) trivial hk))) hσ (fun s hs => (hr s hs).mono fun e fr' σ' h => by
    cases e with
    | normal => obtain ⟨s', h1, h2, h3, h4, h5⟩ := h; exact ⟨s', h1, h2, subw_append h3 (subw_of_sub h4), h5⟩
    | _ => exact h)
end
/-! ### Less told -/
def WkL : List AV → List AV → Prop
  | [], [] => True
  | a :: l, b :: m => Wk a b ∧ WkL l m
  | _, _ => False
theorem WkL.length : ∀ {l m : List AV}, WkL l m → l.length = m.length
  | [], [], _ => rfl
  | _ :: _, _ :: _, h => congrArg (· + 1) (WkL.length h.2)
  | [], _ :: _, h => h.elim
  | _ :: _, [], h => h.elim
theorem WkL.get : ∀ {l m : List AV}, WkL l m → ∀ (j : Nat) a b, l[j]? = some a → m[j]? = some b → Wk a b
  | [], _, _, j, a, b, h, _ => by simp at h
  | _ :: _, [], h, _, _, _, _, _ => h.elim
  | x :: l, y :: m, h, 0, a, b, ha, hb => by simp at ha hb; subst ha; subst hb; exact h.1
  | x :: l, y :: m, h, j + 1, a, b, ha, hb => WkL.get h.2 j a b (by simpa using ha) (by simpa using hb)
theorem WkL.refl : ∀ l : List AV, WkL l l
  | [] => trivial
  | a :: l => ⟨Wk.refl a, WkL.refl l⟩
theorem Wk.trans {a b c : AV} (h : Wk a b) (h' : Wk b c) : Wk a c := fun k u r => h' k u (h k u r)
theorem Wk.agg {a b : List AV} (h : WkL a b) : Wk (.agg a) (.agg b) := fun k u r => by
  cases r with
  | agg hl h1 h2 =>
    exact .agg (hl.trans h.length) h1 fun j x u hx hu => by
      have hj : j < a.length := by rw [h.length]; exact (List.getElem?_eq_some_iff.1 hx).1
      exact h.get j _ x (List.getElem?_eq_getElem hj) hx k u (h2 j _ u (List.getElem?_eq_getElem hj) hu)
theorem Wk.tup {a b : List AV} (h : WkL a b) : Wk (.tup a) (.tup b) := fun k u r => by
  cases r with
  | tup hl h2 =>
    exact .tup (hl.trans h.length) fun j x u hx hu => by
      have hj : j < a.length := by rw [h.length]; exact (List.getElem?_eq_some_iff.1 hx).1
      exact h.get j _ x (List.getElem?_eq_getElem hj) hx k u (h2 j _ u (List.getElem?_eq_getElem hj) hu)
def WkE : List (List AV) → List (List AV) → Prop
  | [], [] => True
  | a :: l, b :: m => WkL a b ∧ WkE l m
  | _, _ => False
theorem WkE.length : ∀ {l m : List (List AV)}, WkE l m → l.length = m.length
  | [], [], _ => rfl
  | _ :: _, _ :: _, h => congrArg (· + 1) (WkE.length h.2)
  | [], _ :: _, h => h.elim
  | _ :: _, [], h => h.elim
theorem WkE.get : ∀ {l m : List (List AV)}, WkE l m → ∀ (j : Nat) a b, l[j]? = some a → m[j]? = some b → WkL a b
  | [], _, _, j, a, b, h, _ => by simp at h
  | _ :: _, [], h, _, _, _, _, _ => h.elim
  | x :: l, y :: m, h, 0, a, b, ha, hb => by simp at ha hb; subst ha; subst hb; exact h.1
  | x :: l, y :: m, h, j + 1, a, b, ha, hb => WkE.get h.2 j a b (by simpa using ha) (by simpa using hb)
theorem WkE.refl : ∀ l : List (List AV), WkE l l
  | [] => trivial
  | a :: l => ⟨WkL.refl a, WkE.refl l⟩
theorem getE {α : Type} {a : List α} {n j : Nat} (h : n = a.length) (hj : j < n) : ∃ x, a[j]? = some x := ⟨_, List.getElem?_eq_getElem (h ▸ hj)⟩
theorem Wk.els {nl : Option Bool} {full : Bool} {sz : Nat} {a b : List (List AV)} (h : WkE a b) : Wk (.sl nl full sz a) (.sl none false sz b) := fun k u r => by
  refine Wk.trans (b := .sl nl full sz b) ?_ (Wk.sl _ _ _ _) k u r
  clear r u k
  intro k u r
  have hlen := h.length
  have get1 : ∀ (j : Nat) (y : List AV), b[j]? = some y → ∃ x, a[j]? = some x ∧ WkL x y := fun j y hy => by
    have hj : j < a.length := by rw [hlen]; exact (List.getElem?_eq_some_iff.1 hy).1
    exact ⟨_, List.getElem?_eq_getElem hj, h.get j _ y (List.getElem?_eq_getElem hj) hy⟩
  have get2 : ∀ (x y : List AV), WkL x y → ∀ (j : Nat) (w : AV), y[j]? = some w → ∃ v, x[j]? = some v ∧ Wk v w := fun x y hxy j w hw => by
    have hj : j < x.length := by rw [hxy.length]; exact (List.getElem?_eq_some_iff.1 hw).1
    exact ⟨_, List.getElem?_eq_getElem hj, hxy.get j _ w (List.getElem?_eq_getElem hj) hw⟩
  cases r with
  | slnil hn => cases b with
    | nil => exact .slnil hn
    | cons y b => simp at hlen
  | sle hn => cases b with
    | nil => exact .sle hn
    | cons y b => simp at hlen
  | @sl _ _ _ _ bb o cap f hn hc hm hf hsz hfr hw hcc =>
    rw [hlen]
    refine .sl (f := f) hn (hlen ▸ hc) (hlen ▸ hm) (fun e => hlen ▸ hf e) (fun i e he => ?_) (fun hne => hfr fun e => hne ?_) (fun i j e w he hj => ?_) (fun i j e w he hj => ?_)
    · obtain ⟨x, hx, hxe⟩ := get1 i e he
      rw [← hxe.length]; exact hsz i x hx
    · exact List.length_eq_zero_iff.1 (by rw [← hlen, e]; rfl)
    · obtain ⟨x, hx, hxe⟩ := get1 i e he
      obtain ⟨v, hv, _⟩ := get2 x e hxe j w hj
      exact hw i j x v hx hv
    · obtain ⟨x, hx, hxe⟩ := get1 i e he
      obtain ⟨v, hv, hvw⟩ := get2 x e hxe j w hj
      exact hvw k _ (hcc i j x v hx hv)
theorem Reps.wk {k : Cx} {a b : List AV} {vs : List Value} (h : WkL a b) (hr : Reps k a vs) : Reps k b vs :=
  ⟨hr.1.trans h.length, fun j x u hx hu => by
    have hj : j < a.length := by rw [h.length]; exact (List.getElem?_eq_some_iff.1 hx).1
    exact h.get j _ x (List.getElem?_eq_getElem hj) hx k u (hr.2 j _ u (List.getElem?_eq_getElem hj) hu)⟩
theorem ACalls.wk {P : Program} {f : FuncId} {as bs : List AV} {σ : St} {R : AEnd → St → Prop} (h : ACalls P f bs σ R) (hw : WkL as bs) : ACalls P f as σ R := fun k vs hσ hk hv => h k vs hσ hk (Reps.wk hw hv)
theorem Pure.wka {P : Program} {f : FuncId} {as bs : List AV} {r : AV} (h : Pure P f bs r) (hw : WkL as bs) : Pure P f as r := fun σ => (h σ).wk hw
section
variable {P : Program} {nt : Nat} {ops : Array Oper} {Q : Post} {fr : Fr} {σ : St} {rest : List Oper} {t : Tmp} {ty : TypeId} {pos : String} {aft : Array Edge}
/-! ### Places in slices -/
theorem ji1 {it et : TypeId} {x ix : Operand} {nl : Option Bool} {full : Bool} {sz : Nat} {els : List (List AV)} {kk : IntKind} {n : Int} {el : List AV} (h : LJ P nt ops Q rest ((t, .fp el) :: fr) σ) (ht : P.underlying it = some (.slice et) := by exact rfl) (hs : sizeIs P et = some sz := by exact rfl) (hx : ev fr x = some (.sl nl full sz els) := by exact rfl) (hi : ev fr ix = some (.v (.int kk n)) := by exact rfl) (h0 : 0 ≤ n := by first | omega | (simp (disch := omega) only [w64, sb_bt, Int.toNat_zero, Int.toNat_one]; omega)) (hel : els[n.toNat]? = some el := by first | assumption | exact rfl) (hd : fits nt (some t) = true := by exact rfl) : LJ P nt ops Q (⟨some t, .indexAddr it x ix, ty, pos, aft, none⟩ :: rest) fr σ := lj_v hd (fun R hR => opj_indexAddr_sl rfl ht hs hx hi h0 hel hR) h
theorem ji2 {it et : TypeId} {x ix : Operand} {nl : Option Bool} {full : Bool} {sz : Nat} {els : List (List AV)} {kk : IntKind} {n : Int} {el : List AV} {j u : Nat} {b : Bool} {a : AV} (h : LJ P nt ops Q rest ((t, .fp el) :: fr) σ) (hj : (ops[j]?).bind (·.dst) = some u := by exact rfl) (hl : lk fr u = some a := by exact rfl) (hb : a = .v (.bool b) := by with_reducible rfl) (ht : P.underlying it = some (.slice et) := by exact rfl) (hs : sizeIs P et = some sz := by exact rfl) (hx : ev fr x = some (.sl nl full sz els) := by exact rfl) (hi : ev fr ix = some (.v (.int kk n)) := by exact rfl) (h0 : 0 ≤ n := by first | omega | (simp (disch := omega) only [w64, sb_bt, Int.toNat_zero, Int.toNat_one]; omega)) (hel : els[n.toNat]? = some el := by first | assumption | exact rfl) (hd : fits nt (some t) = true := by exact rfl) : LJ P nt ops Q (⟨some t, .indexAddr it x ix, ty, pos, aft, some (j, b)⟩ :: rest) fr σ := lj_vy hd hj (hb ▸ hl) (fun R hR => opj_indexAddr_sl rfl ht hs hx hi h0 hel hR) h
theorem ji3 {it et : TypeId} {x ix : Operand} {nl : Option Bool} {full : Bool} {sz : Nat} {els : List (List AV)} {kk : IntKind} {n : Int} {el : List AV} {j u : Nat} {w cc : Bool} {a : AV} (h : LJ P nt ops Q rest ((t, .mb cc (.fp el)) :: fr) σ) (hj : (ops[j]?).bind (·.dst) = some u := by exact rfl) (hl : lk fr u = some a := by exact rfl) (hg : gc a w = some cc := by exact rfl) (ht : P.underlying it = some (.slice et) := by exact rfl) (hs : sizeIs P et = some sz := by exact rfl) (hx : ev (strip fr) x = some (.sl nl full sz els) := by exact rfl) (hi : ev (strip fr) ix = some (.v (.int kk n)) := by exact rfl) (h0 : cc = true → 0 ≤ n := by intro h; first | omega | (simp only [Bool.and_eq_true, decide_eq_true_eq, Bool.not_eq_true', decide_eq_false_iff_not] at h; omega) | (simp only [Bool.and_eq_true, decide_eq_true_eq, Bool.not_eq_true', decide_eq_false_iff_not] at h; simp (disch := omega) only [w64, sb_bt, Int.toNat_zero, Int.toNat_one] at h ⊢; omega)) (hel : cc = true → els[n.toNat]? = some el := by intro h; first | assumption | exact rfl) (hd : fits nt (some t) = true := by exact rfl) (hn : Needs cc fr (Op.indexAddr it x ix).operands.toList := by repeat' (first | exact True.intro | refine And.intro ?_ ?_ | exact nd0 rfl | exact nd1 rfl | exact nd2 rfl | exact nd3 rfl | exact nd4 rfl)) : LJ P nt ops Q (⟨some t, .indexAddr it x ix, ty, pos, aft, some (j, w)⟩ :: rest) fr σ := lj_q hd hj hl hg hn (fun hc R hR => opj_indexAddr_sl rfl ht hs hx hi (h0 hc) (hel hc) hR) h
theorem ji4 {it et : TypeId} {x ix : Operand} {id sz off len : Nat} {kk : IntKind} {n : Int} (h : LJ P nt ops Q rest ((t, .ptr id sz (off + n.toNat) 0) :: fr) σ) (ht : P.underlying it = some (.slice et) := by exact rfl) (hs : sizeIs P et = some sz := by exact rfl) (hx : ev fr x = some (.osl id sz off len) := by exact rfl) (hi : ev fr ix = some (.v (.int kk n)) := by exact rfl) (h0 : 0 ≤ n := by first | omega | (simp (disch := omega) only [w64, sb_bt, Int.toNat_zero, Int.toNat_one]; omega)) (h1 : n < len := by first | omega | (simp (disch := omega) only [w64, sb_bt, Int.toNat_zero, Int.toNat_one]; omega)) (hd : fits nt (some t) = true := by exact rfl) : LJ P nt ops Q (⟨some t, .indexAddr it x ix, ty, pos, aft, none⟩ :: rest) fr σ := lj_v hd (fun R hR => opj_indexAddr_osl rfl ht hs hx hi h0 h1 hR) h
theorem ji5 {it et : TypeId} {x ix : Operand} {id sz off len : Nat} {kk : IntKind} {n : Int} {j u : Nat} {b : Bool} {a : AV} (h : LJ P nt ops Q rest ((t, .ptr id sz (off + n.toNat) 0) :: fr) σ) (hj : (ops[j]?).bind (·.dst) = some u := by exact rfl) (hl : lk fr u = some a := by exact rfl) (hb : a = .v (.bool b) := by with_reducible rfl) (ht : P.underlying it = some (.slice et) := by exact rfl) (hs : sizeIs P et = some sz := by exact rfl) (hx : ev fr x = some (.osl id sz off len) := by exact rfl) (hi : ev fr ix = some (.v (.int kk n)) := by exact rfl) (h0 : 0 ≤ n := by first | omega | (simp (disch := omega) only [w64, sb_bt, Int.toNat_zero, Int.toNat_one]; omega)) (h1 : n < len := by first | omega | (simp (disch := omega) only [w64, sb_bt, Int.toNat_zero, Int.toNat_one]; omega)) (hd : fits nt (some t) = true := by exact rfl) : LJ P nt ops Q (⟨some t, .indexAddr it x ix, ty, pos, aft, some (j, b)⟩ :: rest) fr σ := lj_vy hd hj (hb ▸ hl) (fun R hR => opj_indexAddr_osl rfl ht hs hx hi h0 h1 hR) h
theorem ji6 {it et : TypeId} {x ix : Operand} {id sz sz' na ii jj : Nat} {kk : IntKind} {n : Int} (h : LJ P nt ops Q rest ((t, .ptr id sz ii (jj + n.toNat * sz')) :: fr) σ) (ht : P.underlying it = some (.array na et) := by exact rfl) (hs : sizeIs P et = some sz' := by exact rfl) (hx : ev fr x = some (.ptr id sz ii jj) := by exact rfl) (hi : ev fr ix = some (.v (.int kk n)) := by exact rfl) (h0 : 0 ≤ n := by first | omega | (simp (disch := omega) only [w64, sb_bt, Int.toNat_zero, Int.toNat_one]; omega)) (h1 : n < na := by first | omega | (simp (disch := omega) only [w64, sb_bt, Int.toNat_zero, Int.toNat_one]; omega)) (hd : fits nt (some t) = true := by exact rfl) : LJ P nt ops Q (⟨some t, .indexAddr it x ix, ty, pos, aft, none⟩ :: rest) fr σ := lj_v hd (fun R hR => opj_indexAddr_arr rfl ht hs hx hi h0 h1 hR) h
/-- A function called as a value. -/
theorem jcl {x : Operand} {f : FuncId} {xs : Array Operand} {ts : Array TypeId} {caps as : List AV} {r : AV} (hp : Pure P f (as ++ caps) r) (h : LJ P nt ops Q rest ((t, r) :: fr) σ) (hx : ev fr x = some (.fn f caps) := by exact rfl) (has : evs fr xs.toList = some as := by exact rfl) (hent : entered P f = true := by exact rfl) (hd : fits nt (some t) = true := by exact rfl) : LJ P nt ops Q (⟨some t, .call { callee := .value x, args := xs, argTypes := ts }, ty, pos, aft, none⟩ :: rest) fr σ := lj_call_pure (x := x) (f := f) (caps := caps) rfl rfl rfl hd hx has hent hp h
/-- A call whose arguments are told more of. -/
theorem jpw {f : FuncId} {xs : Array Operand} {ts : Array TypeId} {as bs : List AV} {r : AV} (hp : Pure P f bs r) (hw : WkL as bs) (h : LJ P nt ops Q rest ((t, r) :: fr) σ) (has : evs fr xs.toList = some as := by exact rfl) (hent : entered P f = true := by exact rfl) (hd : fits nt (some t) = true := by exact rfl) : LJ P nt ops Q (⟨some t, .call { callee := .value (.func f), args := xs, argTypes := ts }, ty, pos, aft, none⟩ :: rest) fr σ := lj_pure hd has hent (hp.wka hw) h
end
section
variable {P : Program} {l : List Oper} {c : List (List Nat)} {m nt : Nat} {σ σ0 σ1 : St} {K : Fr → Prop} {i : Nat} {fr : Fr} {rest : List Oper} {t : Tmp} {ty : TypeId} {pos : String} {aft : Array Edge}
theorem di1 {it et : TypeId} {x ix : Operand} {nl : Option Bool} {full : Bool} {sz : Nat} {els : List (List AV)} {kk : IntKind} {n : Int} {el : List AV} (h : DJ P l c m σ0 σ1 K (i + 1) rest ((t, .fp el) :: fr)) (him : Nat.beq i m = false := by exact rfl) (ht : P.underlying it = some (.slice et) := by exact rfl) (hs : sizeIs P et = some sz := by exact rfl) (hx : ev fr x = some (.sl nl full sz els) := by exact rfl) (hi : ev fr ix = some (.v (.int kk n)) := by exact rfl) (h0 : 0 ≤ n := by first | omega | (simp (disch := omega) only [w64, sb_bt, Int.toNat_zero, Int.toNat_one]; omega)) (hel : els[n.toNat]? = some el := by first | assumption | exact rfl) : DJ P l c m σ0 σ1 K i (⟨some t, .indexAddr it x ix, ty, pos, aft, none⟩ :: rest) fr := dj_v him (fun R hR => opj_indexAddr_sl rfl ht hs hx hi h0 hel hR) (fun R hR => opj_indexAddr_sl rfl ht hs hx hi h0 hel hR) h
theorem di2 {it et : TypeId} {x ix : Operand} {nl : Option Bool} {full : Bool} {sz : Nat} {els : List (List AV)} {kk : IntKind} {n : Int} {el : List AV} {j u : Nat} {b : Bool} {a : AV} (h : DJ P l c m σ0 σ1 K (i + 1) rest ((t, .fp el) :: fr)) (him : Nat.beq i m = false := by exact rfl) (hj : dstOf l j = some u := by exact rfl) (hl : lk fr u = some a := by exact rfl) (hb : a = .v (.bool b) := by with_reducible rfl) (ht : P.underlying it = some (.slice et) := by exact rfl) (hs : sizeIs P et = some sz := by exact rfl) (hx : ev fr x = some (.sl nl full sz els) := by exact rfl) (hi : ev fr ix = some (.v (.int kk n)) := by exact rfl) (h0 : 0 ≤ n := by first | omega | (simp (disch := omega) only [w64, sb_bt, Int.toNat_zero, Int.toNat_one]; omega)) (hel : els[n.toNat]? = some el := by first | assumption | exact rfl) : DJ P l c m σ0 σ1 K i (⟨some t, .indexAddr it x ix, ty, pos, aft, some (j, b)⟩ :: rest) fr := dj_vy him hj (hb ▸ hl) (fun R hR => opj_indexAddr_sl rfl ht hs hx hi h0 hel hR) (fun R hR => opj_indexAddr_sl rfl ht hs hx hi h0 hel hR) h
theorem di3 {it et : TypeId} {x ix : Operand} {nl : Option Bool} {full : Bool} {sz : Nat} {els : List (List AV)} {kk : IntKind} {n : Int} {el : List AV} {j u : Nat} {w cc : Bool} {a : AV} (h : DJ P l c m σ0 σ1 K (i + 1) rest ((t, .mb cc (.fp el)) :: fr)) (him : Nat.beq i m = false := by exact rfl) (hj : dstOf l j = some u := by exact rfl) (hl : lk fr u = some a := by exact rfl) (hg : gc a w = some cc := by exact rfl) (ht : P.underlying it = some (.slice et) := by exact rfl) (hs : sizeIs P et = some sz := by exact rfl) (hx : ev (strip fr) x = some (.sl nl full sz els) := by exact rfl) (hi : ev (strip fr) ix = some (.v (.int kk n)) := by exact rfl) (h0 : cc = true → 0 ≤ n := by intro h; first | omega | (simp only [Bool.and_eq_true, decide_eq_true_eq, Bool.not_eq_true', decide_eq_false_iff_not] at h; omega) | (simp only [Bool.and_eq_true, decide_eq_true_eq, Bool.not_eq_true', decide_eq_false_iff_not] at h; simp (disch := omega) only [w64, sb_bt, Int.toNat_zero, Int.toNat_one] at h ⊢; omega)) (hel : cc = true → els[n.toNat]? = some el := by intro h; first | assumption | exact rfl) (hn : Needs cc fr (Op.indexAddr it x ix).operands.toList := by repeat' (first | exact True.intro | refine And.intro ?_ ?_ | exact nd0 rfl | exact nd1 rfl | exact nd2 rfl | exact nd3 rfl | exact nd4 rfl)) : DJ P l c m σ0 σ1 K i (⟨some t, .indexAddr it x ix, ty, pos, aft, some (j, w)⟩ :: rest) fr := dj_q him hj hl hg hn (fun hc R hR => opj_indexAddr_sl rfl ht hs hx hi (h0 hc) (hel hc) hR) (fun hc R hR => opj_indexAddr_sl rfl ht hs hx hi (h0 hc) (hel hc) hR) h
theorem di4 {it et : TypeId} {x ix : Operand} {id sz off len : Nat} {kk : IntKind} {n : Int} (h : DJ P l c m σ0 σ1 K (i + 1) rest ((t, .ptr id sz (off + n.toNat) 0) :: fr)) (him : Nat.beq i m = false := by exact rfl) (ht : P.underlying it = some (.slice et) := by exact rfl) (hs : sizeIs P et = some sz := by exact rfl) (hx : ev fr x = some (.osl id sz off len) := by exact rfl) (hi : ev fr ix = some (.v (.int kk n)) := by exact rfl) (h0 : 0 ≤ n := by first | omega | (simp (disch := omega) only [w64, sb_bt, Int.toNat_zero, Int.toNat_one]; omega)) (h1 : n < len := by first | omega | (simp (disch := omega) only [w64, sb_bt, Int.toNat_zero, Int.toNat_one]; omega)) : DJ P l c m σ0 σ1 K i (⟨some t, .indexAddr it x ix, ty, pos, aft, none⟩ :: rest) fr := dj_v him (fun R hR => opj_indexAddr_osl rfl ht hs hx hi h0 h1 hR) (fun R hR => opj_indexAddr_osl rfl ht hs hx hi h0 h1 hR) h
theorem di6 {it et : TypeId} {x ix : Operand} {id sz sz' na ii jj : Nat} {kk : IntKind} {n : Int} (h : DJ P l c m σ0 σ1 K (i + 1) rest ((t, .ptr id sz ii (jj + n.toNat * sz')) :: fr)) (him : Nat.beq i m = false := by exact rfl) (ht : P.underlying it = some (.array na et) := by exact rfl) (hs : sizeIs P et = some sz' := by exact rfl) (hx : ev fr x = some (.ptr id sz ii jj) := by exact rfl) (hi : ev fr ix = some (.v (.int kk n)) := by exact rfl) (h0 : 0 ≤ n := by first | omega | (simp (disch := omega) only [w64, sb_bt, Int.toNat_zero, Int.toNat_one]; omega)) (h1 : n < na := by first | omega | (simp (disch := omega) only [w64, sb_bt, Int.toNat_zero, Int.toNat_one]; omega)) : DJ P l c m σ0 σ1 K i (⟨some t, .indexAddr it x ix, ty, pos, aft, none⟩ :: rest) fr := dj_v him (fun R hR => opj_indexAddr_arr rfl ht hs hx hi h0 h1 hR) (fun R hR => opj_indexAddr_arr rfl ht hs hx hi h0 h1 hR) h
end
section
variable {P : Program} {nt : Nat} {ops : Array Oper} {Q : Post} {fr : Fr} {σ : St} {c : Code}
/-- Likewise, nothing of ours is turned. -/
theorem cj_fors {α : Type} (I : α → Prop) (C : α → Fr) (m : α → Nat) (s0 : α) {kf : Fr} (hI : I s0) (hC : SubW (C s0) fr)
    (hr : ∀ s, I s → CJ P nt c (thn Q (fun fr' σ' => ∃ s', I s' ∧ m s' < m s ∧ SubW (C s') fr' ∧ Sub kf fr' ∧ σ.le σ')) (C s ++ kf) σ) (hk : keepK (dstC c []) fr [] = some kf := by exact rfl) : CJ P nt (.loop c) Q fr σ :=
  cj_for I C (fun _ => σ) m s0 hI hC (St.le_refl _) hr hk
/-- The end of a round. -/
theorem nx_for {α : Type} {I : α → Prop} {C : α → Fr} {m : α → Nat} {k : Nat} {kf : Fr} {σ0 : St} (s' : α) (hI : I s') (hm : m s' < k) (hC : SubW (C s') fr) (hk : Sub kf fr := by repeat' (first | exact True.intro | refine And.intro rfl ?_)) (hle : σ0.le σ := by repeat' (first | exact St.le_refl _ | refine St.le_any ?_)) :
    thn Q (fun fr' σ' => ∃ s', I s' ∧ m s' < k ∧ SubW (C s') fr' ∧ Sub kf fr' ∧ σ0.le σ') .normal fr σ := nx_thn ⟨s', hI, hm, hC, hk, hle⟩
theorem lenfact {k : Cx} {nl : Option Bool} {full : Bool} {sz : Nat} {els : List (List AV)} {u : Value} (h : Rep k (.sl nl full sz els) u) : els.length ≤ maxLen := by
  cases h with
  | slnil => exact Nat.zero_le _
  | sle => exact Nat.zero_le _
  | sl hn hc hm => exact hm
theorem cj_len (t : Nat) {nl : Option Bool} {full : Bool} {sz : Nat} {els : List (List AV)} (h : els.length ≤ 9223372036854775807 → CJ P nt c Q fr σ) (ht : lk fr t = some (.sl nl full sz els) := by exact rfl) : CJ P nt c Q fr σ := fun k a hσ hk hz hf => by
  obtain ⟨v, _, hv⟩ := hf t _ ht
  exact h (lenfact hv) k a hσ hk hz hf
theorem lj_len (t : Nat) {l : List Oper} {nl : Option Bool} {full : Bool} {sz : Nat} {els : List (List AV)} (h : els.length ≤ 9223372036854775807 → LJ P nt ops Q l fr σ) (ht : lk fr t = some (.sl nl full sz els) := by exact rfl) : LJ P nt ops Q l fr σ := fun k a hσ hk hz hf => by
  obtain ⟨v, _, hv⟩ := hf t _ ht
  exact h (lenfact hv) k a hσ hk hz hf
theorem cj_lenA (t j : Nat) {cs : List AV} {nl : Option Bool} {full : Bool} {sz : Nat} {els : List (List AV)} (h : els.length ≤ 9223372036854775807 → CJ P nt c Q fr σ) (ht : lk fr t = some (.agg cs) := by exact rfl) (hj : cs[j]? = some (.sl nl full sz els) := by exact rfl) : CJ P nt c Q fr σ := fun k a hσ hk hz hf => by
  obtain ⟨v, _, hv⟩ := hf t _ ht
  cases hv with
  | @agg _ vs hl h1 h2 =>
    have hlt : j < vs.size := by rw [hl]; exact (List.getElem?_eq_some_iff.1 hj).1
    exact h (lenfact (h2 j _ vs[j] hj (Array.getElem?_eq_getElem hlt))) k a hσ hk hz hf
theorem wk1 {i : Nat} (h : i < 9223372036854775807) : Wk (.v (.int .i64 (IntKind.i64.wrap ((i : Int) + 1)))) (.v (.int .i64 ((i + 1 : Nat) : Int))) := Wk.of_eq (by rw [w64 (by omega) (by omega)]; rfl)
/-- A function called as a value, that reads what is ours. -/
theorem jcs {rest : List Oper} {t : Tmp} {ty : TypeId} {pos : String} {aft : Array Edge} {x : Operand} {f : FuncId} {xs : Array Operand} {ts : Array TypeId} {caps as : List AV} {r : AV} {σ' : St} (hent : entered P f = true) (hp : ACalls P f (as ++ caps) σ (fun e σ2 => e = .ret r ∧ σ2 = σ')) (h : LJ P nt ops Q rest ((t, r) :: fr) σ')
    (hx : ev fr x = some (.fn f caps) := by exact rfl) (has : evs fr xs.toList = some as := by exact rfl) (hd : fits nt (some t) = true := by exact rfl) : LJ P nt ops Q (⟨some t, .call { callee := .value x, args := xs, argTypes := ts }, ty, pos, aft, none⟩ :: rest) fr σ :=
  lj_call (x := x) (f := f) (caps := caps) rfl rfl rfl hd hx has hent (hp.mono fun e σ2 ⟨h1, h2⟩ => by subst h1; subst h2; exact h)
end
theorem dropn {α : Type} {l : List α} {i : Nat} (h : l.drop i = []) : l.length ≤ i := by simpa using h
theorem dropc {α : Type} {l : List α} {i : Nat} {x : α} {r : List α} (h : l.drop i = x :: r) : i < l.length ∧ l.drop (i + 1) = r ∧ l[i]? = some x := by
  have h1 : i < l.length := by
    have := congrArg List.length h
    simp at this; omega
  rw [List.drop_eq_getElem_cons h1] at h
  exact ⟨h1, (List.cons.inj h).2, by rw [List.getElem?_eq_getElem h1, (List.cons.inj h).1]⟩
theorem get_map {α β : Type} {l : List α} {i : Nat} {x : α} (f : α → β) (h : l[i]? = some x) : (l.map f)[(i : Int).toNat]? = some (f x) := by
  rw [Int.toNat_natCast, List.getElem?_map, h]; rfl
/-- The first place at which g holds, or -1. -/
def idxG {α : Type} (g : α → Bool) : List α → Nat → Int
  | [], _ => -1
  | x :: r, i => if g x = true then i else idxG g r (i + 1)
theorem idxG_lt {α : Type} (g : α → Bool) : ∀ (l : List α) (i : Nat), idxG g l i < 0 ↔ ∀ x ∈ l, g x = false
  | [], i => by simp [idxG]
  | x :: r, i => by
    unfold idxG
    by_cases h : g x = true
    · rw [if_pos h]; simp [h]
    · rw [if_neg h, idxG_lt g r (i + 1)]; simp [Bool.not_eq_true _ ▸ h]
theorem idxG_get {α : Type} (g : α → Bool) : ∀ (l : List α) (i : Nat), 0 ≤ idxG g l i → ∃ j x, idxG g l i = ((i + j : Nat) : Int) ∧ l[j]? = some x ∧ g x = true ∧ l.find? g = some x
  | [], i, h => by simp [idxG] at h
  | x :: r, i, h => by
    unfold idxG at h ⊢
    by_cases hx : g x = true
    · exact ⟨0, x, by rw [if_pos hx]; rfl, rfl, hx, by simp [hx]⟩
    · rw [if_neg hx] at h ⊢
      obtain ⟨j, y, h1, h2, h3, h4⟩ := idxG_get g r (i + 1) h
      exact ⟨j + 1, y, by rw [h1]; congr 1; omega, by simpa using h2, h3, by simp [hx, h4]⟩
end Go.Proofs.YtbpoeggmpjepfaaDoor.Ab

/- Abstract values over the model's memory: regions that draw their order, in which variables are made and then written. -/
set_option linter.unusedVariables false
set_option linter.unusedSimpArgs false
set_option maxRecDepth 20000
namespace Go.Proofs.YtbpoeggmpjepfaaDoor.Ab
open Go

/-- What operation i is, now; what was listed keeps its value. -/
def StepG (P : Program) (ops : Array Oper) (fr : Fr) (Good : (Nat → AV) → Array Bool → St → Prop) (val : Nat → AV) (listed : Array Bool) (σ : St) (i : Nat) (o : Oper) : Prop :=
  ∃ E : Fr, (∀ t a, t ∈ o.looksAt ops → lk E t = some a → Src ops fr val i t a) ∧
  ((o.guard = none ∧ OpW P o (ev E) σ (fun r σ' => ∃ val' : Nat → AV, (∀ j, listed.getD j false = true → val' j = val j) ∧ r = val' i ∧ Good val' (listed.setIfInBounds i true) σ')) ∨
   ∃ g want t b c, o.guard = some (g, want) ∧ (ops[g]?).bind (·.dst) = some t ∧ lk E t = some b ∧ gc b want = some c ∧
     ((c = true → OpW P o (ev E) σ (fun r σ' => ∃ val' : Nat → AV, (∀ j, listed.getD j false = true → val' j = val j) ∧ r = val' i ∧ Good val' (listed.setIfInBounds i true) σ')) ∧ (c = false → Good val (listed.setIfInBounds i true) σ ∧ ∀ k, Rep k (val i) undef)))
section
variable {P : Program} {ops : Array Oper} {nt : Nat} {fr : Fr}
theorem run_planG (hp : Plan ops nt) {k0 : Cx} {a0 : Act} {Q : Post} {Good : (Nat → AV) → Array Bool → St → Prop}
    (hstep : ∀ (val : Nat → AV) (listed : Array Bool) (σ : St) (i : Nat) (o : Oper), listed.size = ops.size → Good val listed σ → (∀ x y, depT ops x y → listed.getD x false = true → listed.getD y false = true) → (∀ y, depT ops i y → listed.getD y false = true) → listed.getD i false = false → ops[i]? = some o → StepG P ops fr Good val listed σ i o)
    (K : ∀ (val : Nat → AV) (listed : Array Bool) (σ : St) k (a : Act), listed.size = ops.size → Good val listed σ → (∀ i, i < ops.size → listed.getD i false = true) → Step k0 k → a.defers = a0.defers → k.σ = σ → Ok k → a.tmps.size = nt → (∀ (j : Nat) (oj : Oper) (t : Nat), ops[j]? = some oj → oj.dst = some t → ∃ u, a.tmps[t]? = some u ∧ Rep k (val j) u) → (∀ t av, lk fr t = some av → (∀ (j : Nat) (oj : Oper), ops[j]? = some oj → oj.dst ≠ some t) → ∃ u, a.tmps[t]? = some u ∧ Rep k av u) → conc k0 a0 Q .normal a k.w) :
    ∀ (fuel : Nat) (listed : Array Bool) (k : Cx) (a : Act) (val : Nat → AV) (σ : St), listed.size = ops.size → (listed.toList.filter (! ·)).length = fuel → Good val listed σ → Inv ops nt σ fr val listed k a.tmps → Step k0 k → a.defers = a0.defers → wpAny P .any ops (conc k0 a0 Q) fuel listed a k.w := by
  have hend : ∀ (listed : Array Bool) (k : Cx) (a : Act) (val : Nat → AV) (σ : St), listed.size = ops.size → Region.ready .any ops listed = [] → Good val listed σ → Inv ops nt σ fr val listed k a.tmps → Step k0 k → a.defers = a0.defers → conc k0 a0 Q .normal a k.w := by
    intro listed k a val σ hsz hr hg hi hst hd
    have hall : ∀ i, i < ops.size → listed.getD i false = true := fun i hlt => by
      cases hh : listed.getD i true with
      | true =>
        have : i < listed.size := by omega
        simp [this] at hh ⊢; exact hh
      | false =>
        obtain ⟨j, hj⟩ := ready_least hp hsz ⟨i, hlt, hh⟩
        rw [hr] at hj; cases hj
    exact K val listed σ k a hsz hg hall hst hd hi.σ hi.ok hi.nt (fun j oj t h1 h2 => hi.new j oj t h1 h2 (hall j (Array.getElem?_eq_some_iff.1 h1).1)) (fun t av h1 h2 => hi.old t av h1 fun j oj h3 h4 => absurd h4 (h2 j oj h3))
  intro fuel
  induction fuel with
  | zero =>
    intro listed k a val σ hsz hf hg hi hst hd
    have hr : Region.ready .any ops listed = [] := by
      cases hrr : Region.ready .any ops listed with
      | nil => rfl
      | cons i l =>
        have hm : i ∈ Region.ready .any ops listed := by rw [hrr]; simp
        obtain ⟨h0, o, ho, _⟩ := mem_ready.1 hm
        have hlt : i < listed.size := by rw [hsz]; exact (Array.getElem?_eq_some_iff.1 ho).1
        have hmem : listed[i] ∈ listed.toList.filter (! ·) := List.mem_filter.2 ⟨by simp, by simp [hlt] at h0; simp [h0]⟩
        rw [List.eq_nil_of_length_eq_zero hf] at hmem
        cases hmem
    exact ⟨hr, hend listed k a val σ hsz hr hg hi hst hd⟩
  | succ fuel ih =>
    intro listed k a val σ hsz hf hg hi hst hd
    refine ⟨fun hr => hend listed k a val σ hsz hr hg hi hst hd, fun i hm' => ?_⟩
    obtain ⟨h0, o, ho, hall⟩ := mem_ready.1 hm'
    have hlt : i < listed.size := by rw [hsz]; exact (Array.getElem?_eq_some_iff.1 ho).1
    have hcount : ((listed.setIfInBounds i true).toList.filter (! ·)).length = fuel := by
      have hli : listed[i] = false := by simpa [hlt] using h0
      have e1 : listed.toList = listed.toList.take i ++ false :: listed.toList.drop (i + 1) := by
        have hlt' : i < listed.toList.length := by simpa using hlt
        rw [← hli, ← Array.getElem_toList hlt, ← List.drop_eq_getElem_cons hlt', List.take_append_drop]
      have e2 : (listed.setIfInBounds i true).toList = listed.toList.take i ++ true :: listed.toList.drop (i + 1) := by
        rw [Array.toList_setIfInBounds, List.set_eq_take_append_cons_drop, if_pos (by simpa using hlt)]
      rw [e2]
      rw [e1] at hf
      simp only [List.filter_append, List.filter_cons, Bool.not_false, Bool.not_true, if_true, List.length_append, List.length_cons] at hf ⊢
      simp only [Bool.false_eq_true, if_false]
      omega
    have hun := unlisted hm'
    obtain ⟨E, hsrc, hact⟩ := hstep val listed σ i o hsz hg (fun x y hxy hx => hi.closedT hxy hx) (fun y hy => hi.deps hm' hy) hun ho
    have hreps := hi.reps hm' ho hsrc
    have hdist : ∀ j oj t, ops[j]? = some oj → oj.dst = some t → o.dst = some t → j = i := fun j oj t h1 h2 h3 => hp.dist i o j oj t ho h1 h2 h3
    have hgo : OpW P o (ev E) σ (fun r σ' => ∃ val' : Nat → AV, (∀ j, listed.getD j false = true → val' j = val j) ∧ r = val' i ∧ Good val' (listed.setIfInBounds i true) σ') → o.wp P a k.w (wpAny P .any ops (conc k0 a0 Q) fuel (listed.setIfInBounds i true)) (conc k0 a0 Q) := fun hw =>
      hw k a _ _ hi.σ hi.ok hreps fun k' v r h1 h2 h3 h4 => by
        obtain ⟨val', h5, rfl, h6⟩ := h3
        exact ih _ k' _ val' _ (by simpa using hsz) hcount h6 (hi.next h2 h1 rfl hm' ho (hp.fit i o ho) hdist h5 h4 hlt) (hst.trans h2) ((Act.defers_put ..).trans hd)
    unfold wpOp
    simp only [ho]
    rcases hact with ⟨hg', hw⟩ | ⟨g, want, t, b, c, hg', hgt, hgl, hgc, hcase⟩
    · rw [if_pos (by simp [Region.wanted, hg'])]
      exact .inl (hgo hw)
    · obtain ⟨u, hu, hr⟩ := hi.sees hm' (hsrc t _ (List.mem_append_right _ (by rw [hg']; simp [hgt])) hgl)
      have hy := yields_gc1 hgt hu hr hgc
      cases c with
      | true =>
        rw [if_pos (by simp only [Region.wanted, hg', hy])]
        exact .inl (hgo (hcase.1 rfl))
      | false =>
        rw [if_neg (by simp only [Region.wanted, hg', hy]; simp)]
        obtain ⟨h7, h8⟩ := hcase.2 rfl
        exact ih _ k _ val _ (by simpa using hsz) hcount h7 (hi.next (.refl k) hi.ok hi.σ hm' ho (hp.fit i o ho) hdist (fun _ _ => rfl) (h8 k) hlt) hst ((Act.defers_put ..).trans hd)
end
/-! ### Frames of some operations -/
def FrameOk (l : List Oper) (fr : Fr) (X : Nat → Prop) (val : Nat → AV) (F : Fr) : Prop :=
  ∀ t a, lk F t = some a → (∃ j, X j ∧ dstOf l j = some t ∧ a = val j) ∨ ((∀ j, X j → dstOf l j ≠ some t) ∧ lk fr t = some a)
theorem FrameOk.start (l : List Oper) (fr : Fr) (val : Nat → AV) : FrameOk l fr (fun _ => False) val fr := fun t a h => .inr ⟨fun _ h => h.elim, h⟩
theorem FrameOk.congr {l : List Oper} {fr F : Fr} {X X' : Nat → Prop} {val val' : Nat → AV} (h : FrameOk l fr X val F) (hX : ∀ j, X j ↔ X' j) (hv : ∀ j, X j → val' j = val j) : FrameOk l fr X' val' F := fun t a ht => by
  rcases h t a ht with ⟨j, h1, h2, h3⟩ | ⟨h1, h2⟩
  · exact .inl ⟨j, (hX j).1 h1, h2, by rw [hv j h1]; exact h3⟩
  · exact .inr ⟨fun j hj => h1 j ((hX j).2 hj), h2⟩
theorem FrameOk.put {l : List Oper} {fr F : Fr} {X : Nat → Prop} {val : Nat → AV} (h : FrameOk l fr X val F) (i : Nat) : FrameOk l fr (fun j => X j ∨ j = i) val (put F (dstOf l i) (some (val i))) := fun t a ht => by
  cases hd : dstOf l i with
  | none =>
    rw [hd] at ht
    rcases h t a ht with ⟨j, h1, h2, h3⟩ | ⟨h1, h2⟩
    · exact .inl ⟨j, .inl h1, h2, h3⟩
    · refine .inr ⟨fun j hj => ?_, h2⟩
      rcases hj with hj | rfl
      · exact h1 j hj
      · rw [hd]; exact fun e => by cases e
  | some u =>
    rw [hd] at ht
    simp only [Ab.put] at ht
    rw [lk_cons] at ht
    split at ht
    · rename_i htu
      subst htu; cases ht
      exact .inl ⟨i, .inr rfl, hd, rfl⟩
    · rename_i htu
      rcases h t a ht with ⟨j, h1, h2, h3⟩ | ⟨h1, h2⟩
      · exact .inl ⟨j, .inl h1, h2, h3⟩
      · refine .inr ⟨fun j hj => ?_, h2⟩
        rcases hj with hj | rfl
        · exact h1 j hj
        · rw [hd]; exact fun e => htu (by cases e; rfl)
structure PlanL (l : List Oper) (nt : Nat) (c : List (List Nat)) : Prop where
  plan : Plan l.toArray nt
  dep : ∀ i j, memB c i j = true → depT l.toArray i j
  dist : ∀ i j t, dstOf l i = some t → dstOf l j = some t → j = i
  low : ∀ x y, depT l.toArray x y → y < x
  src : ∀ i o, l[i]? = some o → ∀ t, t ∈ o.looksAt l.toArray → srcB l c i t = true
theorem planL {l : List Oper} {nt : Nat} {c : List (List Nat)} (hc : clo l [] = c) (hp : planB l nt c = true) : PlanL l nt c := by
  have hdep : ∀ i j, memB c i j = true → depT l.toArray i j := fun i j hij => by
    subst hc
    exact clo_ok l [] [] (by simp) rfl (fun i j hj => by simp at hj) i j (by simpa [memB] using hij)
  simp only [planB, Bool.and_eq_true, List.all_eq_true, List.mem_range] at hp
  obtain ⟨⟨hp1, hp2⟩, hp3⟩ := hp
  have hdist : ∀ i j t, dstOf l i = some t → dstOf l j = some t → j = i := fun i j t hi hj => by
    obtain ⟨o, ho, _⟩ := dstOf_some hi
    obtain ⟨oj, hoj, _⟩ := dstOf_some hj
    have := hp2 i (List.getElem?_eq_some_iff.1 ho).1 j (List.getElem?_eq_some_iff.1 hoj).1
    simpa [hi, hj] using this
  have hlow : ∀ i j, Ab.dep l.toArray i j → j < i := fun i j ⟨o, ho, e, he, hb, hon⟩ => by
    have ho' : l[i]? = some o := by simpa using ho
    have := hp3 i (List.getElem?_eq_some_iff.1 ho').1
    rw [ho'] at this
    simp only [Bool.and_eq_true, List.all_eq_true] at this
    have := this.1 j (by simp only [direct, List.mem_filterMap]; exact ⟨e, by simpa using he, by rw [if_pos hb, hon]⟩)
    exact Nat.blt_eq.mp this
  refine ⟨⟨fun i o ho => hp1 o (List.mem_of_getElem? (by simpa using ho)), fun i o j oj t ho hoj hj hi => hdist i j t (dstOf_of (by simpa using ho) hi) (dstOf_of (by simpa using hoj) hj), hlow⟩, hdep, hdist, fun x y hxy => ?_, fun i o ho t ht => ?_⟩
  · induction hxy with
    | one hd => exact hlow _ _ hd
    | more hd _ ih => exact Nat.lt_trans ih (hlow _ _ hd)
  · have := hp3 i (List.getElem?_eq_some_iff.1 ho).1
    rw [ho] at this
    simp only [Bool.and_eq_true, List.all_eq_true] at this
    exact this.2 t ht
theorem FrameOk.src {l : List Oper} {nt : Nat} {c : List (List Nat)} {fr F : Fr} {X : Nat → Prop} {val : Nat → AV} (hp : PlanL l nt c) (hF : FrameOk l fr X val F) {i : Nat} {o : Oper} (ho : l[i]? = some o) (hX : ∀ j, j < i → memB c i j = true → X j) (hX2 : ∀ j, X j → j < i) :
    ∀ t a, t ∈ o.looksAt l.toArray → lk F t = some a → Src l.toArray fr val i t a := fun t a ht hta => by
  have := hp.src i o ho t ht
  simp only [srcB, Bool.or_eq_true, List.any_eq_true, List.all_eq_true, List.mem_range, Bool.and_eq_true, beq_iff_eq, Bool.not_eq_true', beq_eq_false_iff_ne] at this
  rcases this with ⟨j, hj, ⟨hjt, hij⟩, hji⟩ | hall
  · obtain ⟨oj, hoj, hojt⟩ := dstOf_some hjt
    have hxj := hX j (Nat.blt_eq.mp hji) hij
    rcases hF t a hta with ⟨j', h1, h2, h3⟩ | ⟨h1, h2⟩
    · have := hp.dist j j' t hjt h2
      subst this
      exact .inl ⟨j', oj, by simpa using hoj, hojt, hp.dep i j' hij, h3⟩
    · exact absurd hjt (h1 j hxj)
  · have hw : ∀ j, dstOf l j = some t → depT l.toArray j i ∨ j = i := fun j hj => by
      obtain ⟨oj, hoj, _⟩ := dstOf_some hj
      rcases hall j (List.getElem?_eq_some_iff.1 hoj).1 with (h' | h') | h'
      · exact absurd hj h'
      · exact .inl (hp.dep j i h')
      · exact .inr (by simpa using h')
    rcases hF t a hta with ⟨j', h1, h2, h3⟩ | ⟨h1, h2⟩
    · have hlt := hX2 j' h1
      rcases hw j' h2 with h4 | h4
      · have := hp.low _ _ h4; omega
      · omega
    · exact .inr ⟨fun j oj hoj hjt => hw j (dstOf_of (by simpa using hoj) hjt), h2⟩
/-! ### Ahead: what hangs on no variable that is made here -/
def OnA (P : Program) (c : List (List Nat)) (n0 : Nat) (kp : Bool) (σ : St) (i : Nat) (o : Oper) (E : Operand → Option AV) (r : AV) : Prop :=
  (∀ σ', OpW P o E σ' (fun r' σ2 => r' = r ∧ σ2 = σ')) ∨ ((kp || memB c n0 i) = true ∧ ∀ σ', σ.le σ' → OpW P o E σ' (fun r' σ2 => r' = r ∧ σ2 = σ'))
def FactA (P : Program) (l : List Oper) (c : List (List Nat)) (n0 : Nat) (kp : Bool) (σ : St) (fr : Fr) (i : Nat) (o : Oper) (r : AV) : Prop :=
  match o.guard with
  | none => OnA P c n0 kp σ i o (ev fr) r
  | some (g, want) => ∃ t b cc, dstOf l g = some t ∧ lk fr t = some b ∧ gc b want = some cc ∧ ((cc = true → OnA P c n0 kp σ i o (ev fr) r) ∧ (cc = false → ∀ k, Rep k r undef))
inductive AW (P : Program) (l : List Oper) (c : List (List Nat)) (n0 : Nat) (kp : Bool) (bs : List Nat) (σ : St) : Nat → Fr → List AV → Fr → Prop
  | nil (F : Fr) : AW P l c n0 kp bs σ n0 F [] F
  | cons {i : Nat} {o : Oper} {F F2 : Fr} {r : AV} {rs : List AV} (ho : l[i]? = some o) (hb : i ∉ bs) (hf : FactA P l c n0 kp σ F i o r) (h : AW P l c n0 kp bs σ (i + 1) (Ab.put F o.dst (some r)) rs F2) : AW P l c n0 kp bs σ i F (r :: rs) F2
  | skip {i : Nat} {F F2 : Fr} {rs : List AV} (hb : i ∈ bs) (h : AW P l c n0 kp bs σ (i + 1) F rs F2) : AW P l c n0 kp bs σ i F (.tup [] :: rs) F2
theorem AW.get {P : Program} {l : List Oper} {c : List (List Nat)} {n0 : Nat} {kp : Bool} {bs : List Nat} {σ : St} {fr : Fr} {val : Nat → AV} {i : Nat} {F F2 : Fr} {rs : List AV} (h : AW P l c n0 kp bs σ i F rs F2) : (∀ j, val (i + j) = rs.getD j (.tup [])) → FrameOk l fr (fun j => j < i ∧ j ∉ bs) val F →
    (∀ x o, i ≤ x → x < n0 → x ∉ bs → l[x]? = some o → ∃ F', FrameOk l fr (fun j => j < x ∧ j ∉ bs) val F' ∧ FactA P l c n0 kp σ F' x o (val x)) ∧ FrameOk l fr (fun j => j < n0 ∧ j ∉ bs) val F2 := by
  induction h with
  | nil F => exact fun _ hF => ⟨fun x o h1 h2 => by omega, hF⟩
  | @cons i o F F2 r rs ho hb hf h ih =>
    intro hv hF
    have hr : val i = r := hv 0
    have hd : dstOf l i = o.dst := by unfold dstOf; rw [ho]
    have hF' : FrameOk l fr (fun j => j < i + 1 ∧ j ∉ bs) val (Ab.put F o.dst (some r)) := by
      have := (hF.put i).congr (X' := fun j => j < i + 1 ∧ j ∉ bs) (val' := val) (fun j => by
        constructor
        · rintro (⟨h1, h2⟩ | rfl)
          · exact ⟨by omega, h2⟩
          · exact ⟨by omega, hb⟩
        · rintro ⟨h1, h2⟩
          by_cases hj : j = i
          · exact .inr hj
          · exact .inl ⟨by omega, h2⟩) (fun _ _ => rfl)
      rwa [hd, hr] at this
    obtain ⟨h1, h2⟩ := ih (fun j => by have := hv (j + 1); rw [show i + 1 + j = i + (j + 1) by omega]; exact this) hF'
    refine ⟨fun x o' hx1 hx2 hx3 ho' => ?_, h2⟩
    by_cases hxi : x = i
    · subst hxi
      rw [ho] at ho'; cases ho'
      exact ⟨F, hF, hr ▸ hf⟩
    · exact h1 x o' (by omega) hx2 hx3 ho'
  | @skip i F F2 rs hb h ih =>
    intro hv hF
    have hF' : FrameOk l fr (fun j => j < i + 1 ∧ j ∉ bs) val F := hF.congr (fun j => by
        constructor
        · rintro ⟨h1, h2⟩; exact ⟨by omega, h2⟩
        · rintro ⟨h1, h2⟩
          by_cases hj : j = i
          · subst hj; exact absurd hb h2
          · exact ⟨by omega, h2⟩) (fun _ _ => rfl)
    obtain ⟨h1, h2⟩ := ih (fun j => by have := hv (j + 1); rw [show i + 1 + j = i + (j + 1) by omega]; exact this) hF'
    refine ⟨fun x o' hx1 hx2 hx3 ho' => ?_, h2⟩
    by_cases hxi : x = i
    · subst hxi; exact absurd hb hx3
    · exact h1 x o' (by omega) hx2 hx3 ho'
/-! ### Behind: one after another -/
inductive DC (P : Program) (l : List Oper) (kp : Bool) (σb : St) (K : Fr → St → Prop) : Nat → Fr → St → Prop
  | nil {i : Nat} {F : Fr} {σ : St} (hi : i = l.length) (h : K F σ) : DC P l kp σb K i F σ
  | cons {i : Nat} {o : Oper} {F : Fr} {σ : St} {R : AV → St → Prop} (ho : l[i]? = some o) (hg : o.guard = none) (hw : OpW P o (ev F) σ R) (hkp : ∀ r σ1, R r σ1 → kp = true → σb.le σ1) (h : ∀ r σ1, R r σ1 → DC P l kp σb K (i + 1) (Ab.put F o.dst (some r)) σ1) : DC P l kp σb K i F σ
/-- Variables are made. -/
def AllocK (K : Fr → St → Prop) : List (Nat × Nat × List AV × TypeId) → Fr → St → Prop
  | [], F, σ => K F σ
  | (b, t, as, et) :: r, F, σ => ∀ id, σ id = none → AllocK K r ((t, .ptr id as.length 0 0) :: F) (σ.set id (.row as.length et [as]))
def addF (α : Nat → Nat) : List (Nat × Nat × List AV × TypeId) → Fr → Fr
  | [], F => F
  | (b, t, as, et) :: r, F => addF α r ((t, .ptr (α b) as.length 0 0) :: F)
def addS (α : Nat → Nat) : List (Nat × Nat × List AV × TypeId) → St → St
  | [], σ => σ
  | (b, t, as, et) :: r, σ => addS α r (σ.set (α b) (.row as.length et [as]))
def Apart (α : Nat → Nat) : List (Nat × Nat × List AV × TypeId) → Prop
  | [] => True
  | e :: r => (∀ x ∈ r, α x.1 ≠ α e.1) ∧ Apart α r
theorem allocK_apply {K : Fr → St → Prop} {α : Nat → Nat} : ∀ {A : List (Nat × Nat × List AV × TypeId)} {F : Fr} {s : St}, AllocK K A F s → (∀ e ∈ A, s (α e.1) = none) → Apart α A → K (addF α A F) (addS α A s)
  | [], F, s, h, _, _ => h
  | (b, t, as, et) :: r, F, s, h, hf, ha => allocK_apply (A := r) (h (α b) (hf _ (.head _))) (fun e he => by
      rw [St.set_ne _ _ _ (ha.1 e he)]; exact hf e (.tail _ he)) ha.2
theorem addS_ne {α : Nat → Nat} {x : Nat} : ∀ {A : List (Nat × Nat × List AV × TypeId)} {s : St}, (∀ e ∈ A, α e.1 ≠ x) → addS α A s x = s x
  | [], s, _ => rfl
  | (b, t, as, et) :: r, s, h => by
    show addS α r (s.set (α b) _) x = s x
    rw [addS_ne (fun e he => h e (.tail _ he)), St.set_ne _ _ _ (Ne.symm (h _ (.head _)))]
theorem addS_eq {α : Nat → Nat} : ∀ {A : List (Nat × Nat × List AV × TypeId)} {s : St}, Apart α A → ∀ b t as et, (b, t, as, et) ∈ A → addS α A s (α b) = some (.row as.length et [as])
  | [], s, _, b, t, as, et, h => by cases h
  | (b', t', as', et') :: r, s, ha, b, t, as, et, h => by
    show addS α r (s.set (α b') _) (α b) = _
    rcases List.mem_cons.1 h with h | h
    · cases h
      rw [addS_ne (fun e he => ha.1 e he), St.set_same]
    · exact addS_eq ha.2 b t as et h
theorem addF_ok {l : List Oper} {fr : Fr} {val : Nat → AV} {α : Nat → Nat} : ∀ {A : List (Nat × Nat × List AV × TypeId)} {F : Fr} {X : Nat → Prop}, FrameOk l fr X val F → (∀ b t as et, (b, t, as, et) ∈ A → dstOf l b = some t ∧ val b = .ptr (α b) as.length 0 0) → FrameOk l fr (fun j => X j ∨ j ∈ A.map (·.1)) val (addF α A F)
  | [], F, X, h, _ => h.congr (fun j => by simp) (fun _ _ => rfl)
  | (b, t, as, et) :: r, F, X, h, hA => by
    obtain ⟨h1, h2⟩ := hA b t as et (.head _)
    have h3 := h.put b
    rw [h1, h2] at h3
    have h4 := addF_ok (A := r) (α := α) h3 (fun b' t' as' et' he => hA b' t' as' et' (.tail _ he))
    exact h4.congr (fun j => by
      show (X j ∨ j = b) ∨ j ∈ r.map (·.1) ↔ X j ∨ j ∈ b :: r.map (·.1)
      rw [List.mem_cons, or_assoc]) (fun _ _ => rfl)
def nodupB : List Nat → Bool
  | [] => true
  | b :: r => !r.contains b && nodupB r
def chainB (l : List Oper) (c : List (List Nat)) (n0 : Nat) (bs : List Nat) : Bool :=
  Nat.ble n0 l.length && nodupB bs && bs.all (fun b => Nat.blt b n0) &&
  (List.range l.length).all fun i => bif Nat.blt i n0 then bs.contains i || bs.all (fun b => !memB c i b) else bs.all (fun b => memB c i b) && (List.range i).all (fun x => Nat.blt x n0 || memB c i x)
def AllocsOk (P : Program) (l : List Oper) : List (Nat × Nat × List AV × TypeId) → Prop
  | [] => True
  | (b, t, as, et) :: r => (∃ ty pos aft, l[b]? = some ⟨some t, .alloc et, ty, pos, aft, none⟩ ∧ zeroIs P et = some as) ∧ AllocsOk P l r
theorem AllocsOk.get {P : Program} {l : List Oper} : ∀ {A : List (Nat × Nat × List AV × TypeId)}, AllocsOk P l A → ∀ b t as et, (b, t, as, et) ∈ A → ∃ ty pos aft, l[b]? = some ⟨some t, .alloc et, ty, pos, aft, none⟩ ∧ zeroIs P et = some as
  | [], _, b, t, as, et, h => by cases h
  | (b', t', as', et') :: r, ha, b, t, as, et, h => by
    rcases List.mem_cons.1 h with h | h
    · cases h; exact ha.1
    · exact ha.2.get b t as et h
theorem apart_of {α : Nat → Nat} : ∀ {A : List (Nat × Nat × List AV × TypeId)}, nodupB (A.map (·.1)) = true → (∀ e ∈ A, ∀ e' ∈ A, e.1 ≠ e'.1 → α e.1 ≠ α e'.1) → Apart α A
  | [], _, _ => trivial
  | e :: r, hn, h => by
    simp only [List.map_cons, nodupB, Bool.and_eq_true, Bool.not_eq_true', List.contains_eq_mem, decide_eq_false_iff_not] at hn
    exact ⟨fun x hx => h x (.tail _ hx) e (.head _) (fun he => hn.1 (he ▸ List.mem_map.2 ⟨x, hx, rfl⟩)), apart_of hn.2 fun a ha b hb => h a (.tail _ ha) b (.tail _ hb)⟩
theorem uniq_of : ∀ {A : List (Nat × Nat × List AV × TypeId)}, nodupB (A.map (·.1)) = true → ∀ e ∈ A, ∀ e' ∈ A, e.1 = e'.1 → e = e'
  | [], _, e, h, _, _, _ => by cases h
  | a :: r, hn, e, h, e', h', he => by
    simp only [List.map_cons, nodupB, Bool.and_eq_true, Bool.not_eq_true', List.contains_eq_mem, decide_eq_false_iff_not] at hn
    rcases List.mem_cons.1 h with h1 | h1
    · rcases List.mem_cons.1 h' with h2 | h2
      · rw [h1, h2]
      · exact absurd (List.mem_map.2 ⟨e', h2, by rw [← he, h1]⟩) hn.1
    · rcases List.mem_cons.1 h' with h2 | h2
      · exact absurd (List.mem_map.2 ⟨e, h1, by rw [he, h2]⟩) hn.1
      · exact uniq_of hn.2 e h1 e' h2 he
def SIs (A : List (Nat × Nat × List AV × TypeId)) (listed : Array Bool) (α : Nat → Nat) (σ cur : St) : Prop :=
  (∀ b t as et, (b, t, as, et) ∈ A → listed.getD b false = true → cur (α b) = some (.row as.length et [as]) ∧ σ (α b) = none) ∧ (∀ x, (∀ e ∈ A, listed.getD e.1 false = true → α e.1 ≠ x) → cur x = σ x) ∧
  (∀ e ∈ A, ∀ e' ∈ A, listed.getD e.1 false = true → listed.getD e'.1 false = true → e.1 ≠ e'.1 → α e.1 ≠ α e'.1)
def GoodM (P : Program) (l : List Oper) (n0 : Nat) (kp : Bool) (A : List (Nat × Nat × List AV × TypeId)) (fr : Fr) (σ : St) (Kf : Fr → St → Prop) (rs : List AV) (val : Nat → AV) (listed : Array Bool) (cur : St) : Prop :=
  (∀ i, i < n0 → i ∉ A.map (·.1) → val i = rs.getD i (.tup [])) ∧ ∃ α : Nat → Nat, (∀ b t as et, (b, t, as, et) ∈ A → listed.getD b false = true → val b = .ptr (α b) as.length 0 0) ∧
    (((∀ i, n0 ≤ i → listed.getD i false = false) ∧ SIs A listed α σ cur) ∨
     ∃ j F, n0 < j ∧ (∀ i, n0 ≤ i → i < l.length → (listed.getD i false = true ↔ i < j)) ∧ (∀ e ∈ A, listed.getD e.1 false = true) ∧ FrameOk l fr (fun x => x < j) val F ∧ DC P l kp σ Kf j F cur ∧ (kp = true → σ.le cur))
theorem SIs.le {A : List (Nat × Nat × List AV × TypeId)} {listed : Array Bool} {α : Nat → Nat} {σ cur : St} (h : SIs A listed α σ cur) : σ.le cur := fun x o hx => by
  rw [h.2.1 x (fun e he hl hne => by
    obtain ⟨b, t, as, et⟩ := e
    have := (h.1 b t as et he hl).2
    subst hne
    rw [this] at hx; cases hx)]
  exact hx
theorem dstOf_eq {l : List Oper} {i : Nat} {o : Oper} (h : l[i]? = some o) : dstOf l i = o.dst := by unfold dstOf; rw [h]
section
variable {P : Program} {l : List Oper} {c : List (List Nat)} {n0 nt : Nat} {kp : Bool} {A : List (Nat × Nat × List AV × TypeId)} {σ : St} {fr F2 : Fr} {rs : List AV} {Kf : Fr → St → Prop}
theorem chainB_get (h : chainB l c n0 (A.map (·.1)) = true) : n0 ≤ l.length ∧ nodupB (A.map (·.1)) = true ∧ (∀ e ∈ A, e.1 < n0) ∧ (∀ i, i < l.length → i < n0 → i ∉ A.map (·.1) → ∀ e ∈ A, memB c i e.1 = false) ∧ (∀ i, i < l.length → n0 ≤ i → (∀ e ∈ A, memB c i e.1 = true) ∧ ∀ x, n0 ≤ x → x < i → memB c i x = true) := by
  simp only [chainB, Bool.and_eq_true, List.all_eq_true, List.mem_range] at h
  obtain ⟨⟨⟨h1, h2⟩, h3⟩, h4⟩ := h
  refine ⟨Nat.le_of_ble_eq_true h1, h2, fun e he => Nat.blt_eq.mp (h3 _ (List.mem_map.2 ⟨e, he, rfl⟩)), fun i hi hn hni e he => ?_, fun i hi hn => ?_⟩
  · have := h4 i hi
    rw [Nat.blt_eq.mpr hn, cond_true] at this
    simp only [Bool.or_eq_true, List.contains_eq_mem, decide_eq_true_eq, List.all_eq_true] at this
    rcases this with h | h
    · exact absurd h hni
    · simpa using h e.1 (List.mem_map.2 ⟨e, he, rfl⟩)
  · have := h4 i hi
    have hb : Nat.blt i n0 = false := by
      cases hh : Nat.blt i n0 with
      | false => rfl
      | true => have := Nat.blt_eq.mp hh; omega
    rw [hb, cond_false] at this
    simp only [Bool.and_eq_true, List.all_eq_true, List.mem_range, Bool.or_eq_true] at this
    refine ⟨fun e he => this.1 _ (List.mem_map.2 ⟨e, he, rfl⟩), fun x hx hxi => ?_⟩
    rcases this.2 x hxi with h | h
    · have := Nat.blt_eq.mp h; omega
    · exact h
/-- What stands ahead of the last part, when all variables are made. -/
theorem made_all {val : Nat → AV} (hn : nodupB (A.map (·.1)) = true) (hA : AllocsOk P l A) (hval : ∀ i, i < n0 → i ∉ A.map (·.1) → val i = rs.getD i (.tup [])) {α : Nat → Nat} {listed : Array Bool} {cur : St} (hα : ∀ b t as et, (b, t, as, et) ∈ A → listed.getD b false = true → val b = .ptr (α b) as.length 0 0) (hS : SIs A listed α σ cur) (hall : ∀ e ∈ A, listed.getD e.1 false = true)
    (hlt : ∀ e ∈ A, e.1 < n0) (hF2 : FrameOk l fr (fun j => j < n0 ∧ j ∉ A.map (·.1)) (fun j => rs.getD j (.tup [])) F2) (hK : AllocK (fun F s => (kp = true → σ.le s) → DC P l kp σ Kf n0 F s) A F2 σ) : ∃ F, FrameOk l fr (fun x => x < n0) val F ∧ DC P l kp σ Kf n0 F cur := by
  have hap : Apart α A := apart_of hn fun e he e' he' => hS.2.2 e he e' he' (hall e he) (hall e' he')
  have h1 := allocK_apply hK (fun e he => by
    obtain ⟨b, t, as, et⟩ := e
    exact (hS.1 b t as et he (hall _ he)).2) hap
  have h2 : addS α A σ = cur := by
    funext x
    by_cases hx : ∃ e ∈ A, α e.1 = x
    · obtain ⟨⟨b, t, as, et⟩, he, rfl⟩ := hx
      rw [addS_eq hap b t as et he, (hS.1 b t as et he (hall _ he)).1]
    · rw [addS_ne (fun e he h => hx ⟨e, he, h⟩), hS.2.1 x fun e he _ h => hx ⟨e, he, h⟩]
  rw [h2] at h1
  have h1 := h1 (fun _ => hS.le)
  refine ⟨_, (addF_ok (α := α) (hF2.congr (val' := val) (fun j => Iff.rfl) fun j hj => hval j hj.1 hj.2) fun b t as et he => ?_).congr (fun j => ?_) (fun _ _ => rfl), h1⟩
  · obtain ⟨ty, pos, aft, h3, h4⟩ := hA.get b t as et he
    exact ⟨by unfold dstOf; rw [h3], hα b t as et he (hall _ he)⟩
  · constructor
    · rintro (⟨h3, _⟩ | h3)
      · exact h3
      · obtain ⟨e, he, rfl⟩ := List.mem_map.1 h3
        exact hlt e he
    · intro hj
      by_cases h3 : j ∈ A.map (·.1)
      · exact .inr h3
      · exact .inl ⟨hj, h3⟩
/-- One operation more, whatever the order. -/
theorem stepM {nt : Nat} (hpl : PlanL l nt c) (hn0 : n0 ≤ l.length) (hnd : nodupB (A.map (·.1)) = true) (hblt : ∀ e ∈ A, e.1 < n0) (hAB : ∀ i, i < l.length → i < n0 → i ∉ A.map (·.1) → ∀ e ∈ A, memB c i e.1 = false) (hC : ∀ i, i < l.length → n0 ≤ i → (∀ e ∈ A, memB c i e.1 = true) ∧ ∀ x, n0 ≤ x → x < i → memB c i x = true) (hA : AllocsOk P l A)
    {val : Nat → AV} {listed : Array Bool} {cur : St} {i : Nat} {o : Oper} (hsz : listed.size = l.toArray.size) (hgood : GoodM P l n0 kp A fr σ Kf rs val listed cur) (hcl : ∀ x y, depT l.toArray x y → listed.getD x false = true → listed.getD y false = true) (hdeps : ∀ y, depT l.toArray i y → listed.getD y false = true) (hun : listed.getD i false = false) (ho : l.toArray[i]? = some o)
    (hfact : i < n0 → i ∉ A.map (·.1) → ∃ F', FrameOk l fr (fun j => j < i ∧ j ∉ A.map (·.1)) (fun j => rs.getD j (.tup [])) F' ∧ FactA P l c n0 kp σ F' i o (rs.getD i (.tup [])))
    (hmade : n0 ≤ i → ∃ F2, FrameOk l fr (fun j => j < n0 ∧ j ∉ A.map (·.1)) (fun j => rs.getD j (.tup [])) F2 ∧ AllocK (fun F s => (kp = true → σ.le s) → DC P l kp σ Kf n0 F s) A F2 σ) : StepG P l.toArray fr (GoodM P l n0 kp A fr σ Kf rs) val listed cur i o := by
  obtain ⟨hval, α, hα, hcase⟩ := hgood
  have ho' : l[i]? = some o := by simpa using ho
  have hil : i < l.length := (List.getElem?_eq_some_iff.1 ho').1
  have hlt : i < listed.size := by rw [hsz]; simpa using hil
  have hgi : (listed.setIfInBounds i true).getD i false = true := by simp [hlt]
  have hgn : ∀ j, j ≠ i → (listed.setIfInBounds i true).getD j false = listed.getD j false := fun j hj => getD_set_ne false (Ne.symm hj)
  by_cases hi0 : i < n0
  · by_cases hib : i ∈ A.map (·.1)
    · -- a variable is made
      obtain ⟨⟨b, t, as, et⟩, he, rfl⟩ := List.mem_map.1 hib
      dsimp only at *
      obtain ⟨ty, pos, aft, hb, hz'⟩ := hA.get b t as et he
      rw [ho'] at hb
      cases hb
      rcases hcase with ⟨hC1, hS⟩ | ⟨j, F, _, _, hall, _⟩
      · refine ⟨[], (fun t a _ h => by cases h), .inl ⟨rfl, ?_⟩⟩
        refine OpW.of_opj (opj_alloc (as := as) rfl hz' fun id hid => ?_)
        show ∃ val' : Nat → AV, _ ∧ AV.ptr id as.length 0 0 = val' b ∧ _
        have hne : ∀ e ∈ A, listed.getD e.1 false = true → α e.1 ≠ id := fun e he' hl hne => by
          obtain ⟨b', t', as', et'⟩ := e
          have := (hS.1 b' t' as' et' he' hl).1
          subst hne
          rw [this] at hid; cases hid
        refine ⟨fun j => if j = b then .ptr id as.length 0 0 else val j, fun j hj => if_neg (fun e => by subst e; rw [hun] at hj; cases hj), (if_pos rfl).symm, fun j hj hjb => ?_, fun j => if j = b then id else α j, fun b' t' as' et' he' hl => ?_, .inl ⟨fun j hj => ?_, fun b' t' as' et' he' hl => ?_, fun x hx => ?_, fun e he1 e' he2 hl1 hl2 hne' => ?_⟩⟩
        · dsimp only
          rw [if_neg (fun e : j = b => hjb (by rw [e]; exact hib))]; exact hval j hj hjb
        · dsimp only
          by_cases hbb : b' = b
          · have := uniq_of hnd _ he' _ he hbb
            cases this
            rw [if_pos rfl, if_pos rfl]
          · rw [if_neg hbb, if_neg hbb]
            exact hα b' t' as' et' he' (by rwa [hgn b' hbb] at hl)
        · rw [hgn j (by omega)]; exact hC1 j hj
        · dsimp only
          by_cases hbb : b' = b
          · have := uniq_of hnd _ he' _ he hbb
            cases this
            rw [if_pos rfl]
            exact ⟨St.set_same _ _ _, by rw [← hS.2.1 id hne]; exact hid⟩
          · rw [if_neg hbb]
            rw [hgn b' hbb] at hl
            obtain ⟨h1, h2⟩ := hS.1 b' t' as' et' he' hl
            exact ⟨by rw [St.set_ne _ _ _ (hne _ he' hl)]; exact h1, h2⟩
        · have h1 := hx _ he (by exact hgi)
          dsimp only at h1
          rw [if_pos rfl] at h1
          rw [St.set_ne _ _ _ (Ne.symm h1)]
          refine hS.2.1 x fun e he' hl => ?_
          have hbb : e.1 ≠ b := fun e1 => by rw [e1, hun] at hl; cases hl
          have h2 := hx e he' (by rw [hgn _ hbb]; exact hl)
          dsimp only at h2
          rwa [if_neg hbb] at h2
        · dsimp only
          by_cases h1 : e.1 = b
          · by_cases h2 : e'.1 = b
            · exact absurd (h1.trans h2.symm) hne'
            · rw [if_pos h1, if_neg h2]
              exact Ne.symm (hne e' he2 (by rwa [hgn _ h2] at hl2))
          · by_cases h2 : e'.1 = b
            · rw [if_neg h1, if_pos h2]
              exact hne e he1 (by rwa [hgn _ h1] at hl1)
            · rw [if_neg h1, if_neg h2]
              exact hS.2.2 e he1 e' he2 (by rwa [hgn _ h1] at hl1) (by rwa [hgn _ h2] at hl2) hne'
      · have := hall _ he
        rw [hun] at this; cases this
    · -- one that hangs on no variable made here
      obtain ⟨F', hF', hfa⟩ := hfact hi0 hib
      have hv : val i = rs.getD i (.tup []) := hval i hi0 hib
      have hFv : FrameOk l fr (fun j => j < i ∧ j ∉ A.map (·.1)) val F' := hF'.congr (fun _ => Iff.rfl) fun j hj => hval j (by omega) hj.2
      have hgood : GoodM P l n0 kp A fr σ Kf rs val (listed.setIfInBounds i true) cur := by
        refine ⟨hval, α, fun b t as et he hl => hα b t as et he ?_, ?_⟩
        · rwa [hgn b fun e => hib (List.mem_map.2 ⟨_, he, e⟩)] at hl
        have hl' : ∀ e ∈ A, (listed.setIfInBounds i true).getD e.1 false = listed.getD e.1 false := fun e he => hgn _ fun h => hib (List.mem_map.2 ⟨e, he, h⟩)
        rcases hcase with ⟨hC1, hS1, hS2, hS3⟩ | ⟨j, F, h1, h2, h3, h4, h5, hkc⟩
        · exact .inl ⟨fun j hj => by rw [hgn j (by omega)]; exact hC1 j hj, fun b t as et he hl => hS1 b t as et he (by have := hl' _ he; dsimp only at this; rwa [this] at hl), fun x hx => hS2 x fun e he hl => hx e he (by rw [hl' e he]; exact hl), fun e he e' he' hl hl2 => hS3 e he e' he' (by rwa [hl' e he] at hl) (by rwa [hl' e' he'] at hl2)⟩
        · exact .inr ⟨j, F, h1, fun x hx hxl => by rw [hgn x (by omega)]; exact h2 x hx hxl, fun e he => by rw [hl' e he]; exact h3 e he, h4, h5, hkc⟩
      have hon : ∀ {E : Operand → Option AV}, OnA P c n0 kp σ i o E (rs.getD i (.tup [])) → OpW P o E cur (fun r σ' => ∃ val' : Nat → AV, (∀ j, listed.getD j false = true → val' j = val j) ∧ r = val' i ∧ GoodM P l n0 kp A fr σ Kf rs val' (listed.setIfInBounds i true) σ') := fun {E} hO => by
        have hO' : OpW P o E cur (fun r' σ2 => r' = rs.getD i (.tup []) ∧ σ2 = cur) := by
          rcases hO with h | ⟨hm, h⟩
          · exact h cur
          · rcases hcase with ⟨_, hS⟩ | ⟨j, F, h1, h2, _, _, _, hkc⟩
            · exact h cur hS.le
            · cases hkp : kp with
              | true => exact h cur (hkc hkp)
              | false =>
              have hm : memB c n0 i = true := by rw [hkp] at hm; exact hm
              by_cases hn : n0 < l.length
              · have := hcl _ _ (hpl.dep _ _ hm) ((h2 n0 (Nat.le_refl _) hn).2 h1)
                rw [hun] at this; cases this
              · exfalso
                have := hpl.dep _ _ hm
                cases this with
                | one hd => obtain ⟨o', ho', _⟩ := hd; simp at ho'; have := (List.getElem?_eq_some_iff.1 ho').1; omega
                | more hd _ => obtain ⟨o', ho', _⟩ := hd; simp at ho'; have := (List.getElem?_eq_some_iff.1 ho').1; omega
        exact fun k a K Q' hσ' hk' hr hK' => hO' k a K Q' hσ' hk' hr fun k' v r h1 h2 h3 h4 => hK' k' v r h1 h2 (by
          obtain ⟨rfl, h5⟩ := h3
          exact ⟨val, fun _ _ => rfl, hv.symm, h5 ▸ hgood⟩) h4
      refine ⟨F', hFv.src hpl ho' (fun j hj hm => ⟨hj, fun hjb => ?_⟩) (fun j hj => hj.1), ?_⟩
      · obtain ⟨e, he, rfl⟩ := List.mem_map.1 hjb
        rw [hAB i hil hi0 hib e he] at hm; cases hm
      · unfold FactA at hfa
        cases hg : o.guard with
        | none => rw [hg] at hfa; exact .inl ⟨rfl, hon hfa⟩
        | some p =>
          obtain ⟨g, want⟩ := p
          rw [hg] at hfa
          obtain ⟨t, b, cc, h1, h2, h3, h4, h5⟩ := hfa
          obtain ⟨og, hog, hogt⟩ := dstOf_some h1
          exact .inr ⟨g, want, t, b, cc, rfl, by simp [hog, hogt], h2, h3, fun e => hon (h4 e), fun e => ⟨hgood, fun k => by rw [hv]; exact h5 e k⟩⟩
  · -- the last part
    obtain ⟨hca, hcc⟩ := hC i hil (by omega)
    have hall : ∀ e ∈ A, listed.getD e.1 false = true := fun e he => hdeps _ (hpl.dep _ _ (hca e he))
    have key : ∃ F, FrameOk l fr (fun x => x < i) val F ∧ DC P l kp σ Kf i F cur ∧ ∀ x, n0 ≤ x → x < l.length → (listed.getD x false = true ↔ x < i) := by
      rcases hcase with ⟨hC1, hS⟩ | ⟨j, F, h1, h2, h3, h4, h5, hkc⟩
      · have hii : i = n0 := by
          rcases Nat.lt_or_ge n0 i with h | h
          · have := hdeps _ (hpl.dep _ _ (hcc n0 (Nat.le_refl _) h))
            rw [hC1 n0 (Nat.le_refl _)] at this; cases this
          · omega
        subst hii
        obtain ⟨F2, hF2, hK⟩ := hmade (Nat.le_refl _)
        obtain ⟨F, h6, h7⟩ := made_all hnd hA hval hα hS hall hblt hF2 hK
        exact ⟨F, h6, h7, fun x hx hxl => by rw [hC1 x hx]; exact ⟨fun h => (by cases h), fun h => (by omega)⟩⟩
      · have hij : i = j := by
          rcases Nat.lt_trichotomy i j with h | h | h
          · have := (h2 i (by omega) hil).2 h
            rw [hun] at this; cases this
          · exact h
          · have := hdeps _ (hpl.dep _ _ (hcc j (by omega) h))
            have := (h2 j (by omega) (by omega)).1 this
            omega
        subst hij
        exact ⟨F, h4, h5, h2⟩
    obtain ⟨F, hF, hD, hls⟩ := key
    refine ⟨F, hF.src hpl ho' (fun j hj _ => hj) (fun j hj => hj), ?_⟩
    cases hD with
    | nil hi h => omega
    | @cons _ o2 _ _ R2 ho2 hg hw hk2 h =>
      rw [ho'] at ho2
      cases ho2
      refine .inl ⟨hg, fun k a K Q' hσ' hk' hr hK' => hw k a K Q' hσ' hk' hr fun k' v r' h1 h2 h3 h4 => hK' k' v r' h1 h2 ?_ h4⟩
      have hnA : i ∉ A.map (·.1) := fun h => by
        obtain ⟨e, he, rfl⟩ := List.mem_map.1 h
        exact hi0 (hblt e he)
      have hl' : ∀ e ∈ A, (listed.setIfInBounds i true).getD e.1 false = listed.getD e.1 false := fun e he => hgn _ fun h => hnA (List.mem_map.2 ⟨e, he, h⟩)
      have hne : ∀ x, x < i → (fun j => if j = i then r' else val j) x = val x := fun x hx => if_neg (by omega)
      have hFp : FrameOk l fr (fun x => x < i + 1) (fun j => if j = i then r' else val j) (Ab.put F o.dst (some r')) := by
        have h6 := ((hF.congr (val' := fun j => if j = i then r' else val j) (fun _ => Iff.rfl) hne).put i).congr (X' := fun x => x < i + 1) (val' := fun j => if j = i then r' else val j) (fun j => by omega) (fun _ _ => rfl)
        rw [dstOf_eq ho'] at h6
        simpa using h6
      refine ⟨fun j => if j = i then r' else val j, fun j hj => if_neg (fun e => by subst e; rw [hun] at hj; cases hj), (if_pos rfl).symm, fun j hj hjb => by dsimp only; rw [if_neg (by omega)]; exact hval j hj hjb, α, fun b t as et he hl => ?_, .inr ⟨i + 1, _, by omega, fun x hx hxl => ?_, fun e he => by rw [hl' e he]; exact hall e he, hFp, h r' _ h3, hk2 r' _ h3⟩⟩
      · dsimp only
        rw [if_neg (fun e : b = i => hnA (List.mem_map.2 ⟨_, he, e⟩))]
        exact hα b t as et he (hall _ he)
      · by_cases hxi : x = i
        · subst hxi; simp [hlt]
        · rw [hgn x hxi, hls x hx hxl]; omega
theorem cj_made {id : Nat} {Q : Post} (hmix : P.follows .mixedOrders = true) (hc : clo l [] = c) (hp : planB l nt c = true) (hch : chainB l c n0 (A.map (·.1)) = true) (hA : AllocsOk P l A)
    (hw : AW P l c n0 kp (A.map (·.1)) σ 0 fr rs F2) (hK : AllocK (fun F s => (kp = true → σ.le s) → DC P l kp σ (fun F s => Q .normal F s) n0 F s) A F2 σ) : CJ P nt (.region id l.toArray true) Q fr σ := fun k a hσ hk hz hf => by
  have hpl := planL hc hp
  obtain ⟨hn0, hnd, hblt, hAB, hC⟩ := chainB_get hch
  obtain ⟨hfact, hF2⟩ := hw.get (fr := fr) (val := fun j => rs.getD j (.tup [])) (fun j => by rw [Nat.zero_add]) ((FrameOk.start l fr _).congr (fun j => by simp) (fun _ _ => rfl))
  have hstep : ∀ (val : Nat → AV) (listed : Array Bool) (cur : St) (i : Nat) (o : Oper), listed.size = l.toArray.size → GoodM P l n0 kp A fr σ (fun F s => Q .normal F s) rs val listed cur → (∀ x y, depT l.toArray x y → listed.getD x false = true → listed.getD y false = true) → (∀ y, depT l.toArray i y → listed.getD y false = true) → listed.getD i false = false → l.toArray[i]? = some o → StepG P l.toArray fr (GoodM P l n0 kp A fr σ (fun F s => Q .normal F s) rs) val listed cur i o :=
    fun val listed cur i o hsz hg hcl hdeps hun ho => stepM hpl hn0 hnd hblt hAB hC hA hsz hg hcl hdeps hun ho (fun h1 h2 => hfact i o (Nat.zero_le _) h1 h2 (by simpa using ho)) (fun _ => ⟨F2, hF2, hK⟩)
  obtain ⟨hok', hst'⟩ := hk.drawn (k.w.drawn + 1)
  refine wp_region_any hmix ?_
  have hrepl : ∀ x, (Array.replicate l.toArray.size false).getD x false = false := fun x => by
    rw [Array.getD_eq_getD_getElem?, Array.getElem?_replicate]
    split <;> rfl
  have := run_planG (fr := fr) (Q := Q) (k0 := k) (a0 := a) hpl.plan hstep (fun val listed cur k' a' hsz hg hall hs hdf hσ' hok hz' hnew hold => ?_) l.toArray.size (Array.replicate l.toArray.size false) { k with w := { k.w with drawn := k.w.drawn + 1 } } a (fun j => rs.getD j (.tup [])) σ (by simp) (by simp)
    ⟨fun _ _ _ => rfl, fun _ => 0, fun b t as et he hl => (by rw [hrepl] at hl; cases hl), .inl ⟨fun i hi => hrepl i, fun b t as et he hl => (by rw [hrepl] at hl; cases hl), fun x hx => rfl, fun e he e' he' hl => (by rw [hrepl] at hl; cases hl)⟩⟩
    ⟨hσ, hok', hz, (fun i j hi => by rw [hrepl] at hi; cases hi), fun j oj t _ _ h => (by rw [hrepl] at h; cases h), fun t av h _ => (hf.step hst') t av h⟩ hst' rfl
  · exact this
  · obtain ⟨hval, α, hα, hcase⟩ := hg
    have hfin : ∃ F, FrameOk l fr (fun x => x < l.length) val F ∧ DC P l kp σ (fun F s => Q .normal F s) l.length F cur := by
      rcases hcase with ⟨hC1, hS⟩ | ⟨j, F, h1, h2, h3, h4, h5, hkc⟩
      · have : n0 = l.length := by
          rcases Nat.lt_or_ge n0 l.length with h | h
          · have := hall n0 (by simpa using h)
            rw [hC1 n0 (Nat.le_refl _)] at this; cases this
          · omega
        subst this
        exact made_all hnd hA hval hα hS (fun e he => hall _ (by simpa using hblt e he)) hblt hF2 hK
      · have hj : l.length ≤ j := by
          rcases Nat.lt_or_ge j l.length with h | h
          · have := (h2 j (by omega) h).1 (hall j (by simpa using h)); omega
          · exact h
        cases h5 with
        | nil hi h => subst hi; exact ⟨F, h4, .nil rfl h⟩
        | cons ho hg hw hk2 h => have := (List.getElem?_eq_some_iff.1 ho).1; omega
    obtain ⟨F, hF, hD⟩ := hfin
    cases hD with
    | cons ho hg hw hk2 h => have := (List.getElem?_eq_some_iff.1 ho).1; omega
    | nil hi h =>
      refine ⟨hdf, hz'.trans hz.symm, k', .normal, F, rfl, hok, hs, fun t av ht => ?_, trivial, by rw [hσ']; exact h⟩
      rcases hF t av ht with ⟨j, h1, h2, rfl⟩ | ⟨h1, h2⟩
      · obtain ⟨oj, hoj, hojt⟩ := dstOf_some h2
        exact hnew j oj t (by simpa using hoj) hojt
      · exact hold t av h2 fun j oj hoj hojt => h1 j (by have := (List.getElem?_eq_some_iff.1 (show l[j]? = some oj by simpa using hoj)).1; exact this) (dstOf_of (by simpa using hoj) hojt)
end
end Go.Proofs.YtbpoeggmpjepfaaDoor.Ab

/- Abstract values over the model's memory: regions that draw their order, in which a row of our own is made beside the variables. -/
set_option linter.unusedVariables false
set_option linter.unusedSimpArgs false
set_option maxRecDepth 20000
namespace Go.Proofs.YtbpoeggmpjepfaaDoor.Ab
open Go

theorem OpW.mono {P : Program} {o : Oper} {E : Operand → Option AV} {σ : St} {R R' : AV → St → Prop} (h : OpW P o E σ R) (hR : ∀ r σ', R r σ' → R' r σ') : OpW P o E σ R' := fun k a K Q hσ hk hr hK => h k a K Q hσ hk hr fun k' v r h1 h2 h3 h4 => hK k' v r h1 h2 (hR _ _ h3) h4
theorem StepG.mono {P : Program} {ops : Array Oper} {fr : Fr} {Good Good' : (Nat → AV) → Array Bool → St → Prop} {val : Nat → AV} {listed : Array Bool} {σ : St} {i : Nat} {o : Oper} (h : StepG P ops fr Good val listed σ i o) (hG : ∀ val' σ', Good val' (listed.setIfInBounds i true) σ' → Good' val' (listed.setIfInBounds i true) σ') : StepG P ops fr Good' val listed σ i o := by
  obtain ⟨E, h1, h2⟩ := h
  refine ⟨E, h1, ?_⟩
  rcases h2 with ⟨h3, h4⟩ | ⟨g, want, t, b, c, h3, h4, h5, h6, h7, h8⟩
  · exact .inl ⟨h3, h4.mono fun r σ' ⟨val', a, b, c⟩ => ⟨val', a, b, hG _ _ c⟩⟩
  · exact .inr ⟨g, want, t, b, c, h3, h4, h5, h6, fun e => (h7 e).mono fun r σ' ⟨val', a, b, c⟩ => ⟨val', a, b, hG _ _ c⟩, fun e => ⟨hG _ _ (h8 e).1, (h8 e).2⟩⟩
inductive AS (P : Program) (l : List Oper) (c : List (List Nat)) (n0 : Nat) (kp : Bool) (bs : List Nat) (σ : St) (e : Nat) : Nat → Fr → List AV → Fr → Prop
  | nil (F : Fr) : AS P l c n0 kp bs σ e e F [] F
  | cons {i : Nat} {o : Oper} {F F2 : Fr} {r : AV} {rs : List AV} (ho : l[i]? = some o) (hb : i ∉ bs) (hf : FactA P l c n0 kp σ F i o r) (h : AS P l c n0 kp bs σ e (i + 1) (Ab.put F o.dst (some r)) rs F2) : AS P l c n0 kp bs σ e i F (r :: rs) F2
  | skip {i : Nat} {F F2 : Fr} {rs : List AV} (hb : i ∈ bs) (h : AS P l c n0 kp bs σ e (i + 1) F rs F2) : AS P l c n0 kp bs σ e i F (.tup [] :: rs) F2
theorem AS.len {P : Program} {l : List Oper} {c : List (List Nat)} {n0 : Nat} {kp : Bool} {bs : List Nat} {σ : St} {e i : Nat} {F F2 : Fr} {rs : List AV} (h : AS P l c n0 kp bs σ e i F rs F2) : i + rs.length = e := by
  induction h with
  | nil F => rfl
  | cons _ _ _ _ ih => rw [List.length_cons]; omega
  | skip _ _ ih => rw [List.length_cons]; omega
theorem AS.get {P : Program} {l : List Oper} {c : List (List Nat)} {n0 : Nat} {kp : Bool} {bs : List Nat} {σ : St} {fr : Fr} {val : Nat → AV} {e i : Nat} {F F2 : Fr} {rs : List AV} (h : AS P l c n0 kp bs σ e i F rs F2) : (∀ j, val (i + j) = rs.getD j (.tup [])) → FrameOk l fr (fun j => j < i ∧ j ∉ bs) val F →
    (∀ x o, i ≤ x → x < e → x ∉ bs → l[x]? = some o → ∃ F', FrameOk l fr (fun j => j < x ∧ j ∉ bs) val F' ∧ FactA P l c n0 kp σ F' x o (val x)) ∧ FrameOk l fr (fun j => j < e ∧ j ∉ bs) val F2 := by
  induction h with
  | nil F => exact fun _ hF => ⟨fun x o h1 h2 => by omega, hF⟩
  | @cons i o F F2 r rs ho hb hf h ih =>
    intro hv hF
    have hr : val i = r := hv 0
    have hd : dstOf l i = o.dst := by unfold dstOf; rw [ho]
    have hF' : FrameOk l fr (fun j => j < i + 1 ∧ j ∉ bs) val (Ab.put F o.dst (some r)) := by
      have := (hF.put i).congr (X' := fun j => j < i + 1 ∧ j ∉ bs) (val' := val) (fun j => by
        constructor
        · rintro (⟨h1, h2⟩ | rfl)
          · exact ⟨by omega, h2⟩
          · exact ⟨by omega, hb⟩
        · rintro ⟨h1, h2⟩
          by_cases hj : j = i
          · exact .inr hj
          · exact .inl ⟨by omega, h2⟩) (fun _ _ => rfl)
      rwa [hd, hr] at this
    obtain ⟨h1, h2⟩ := ih (fun j => by have := hv (j + 1); rw [show i + 1 + j = i + (j + 1) by omega]; exact this) hF'
    refine ⟨fun x o' hx1 hx2 hx3 ho' => ?_, h2⟩
    by_cases hxi : x = i
    · subst hxi
      rw [ho] at ho'; cases ho'
      exact ⟨F, hF, hr ▸ hf⟩
    · exact h1 x o' (by omega) hx2 hx3 ho'
  | @skip i F F2 rs hb h ih =>
    intro hv hF
    have hF' : FrameOk l fr (fun j => j < i + 1 ∧ j ∉ bs) val F := hF.congr (fun j => by
        constructor
        · rintro ⟨h1, h2⟩; exact ⟨by omega, h2⟩
        · rintro ⟨h1, h2⟩
          by_cases hj : j = i
          · subst hj; exact absurd hb h2
          · exact ⟨by omega, h2⟩) (fun _ _ => rfl)
    obtain ⟨h1, h2⟩ := ih (fun j => by have := hv (j + 1); rw [show i + 1 + j = i + (j + 1) by omega]; exact this) hF'
    refine ⟨fun x o' hx1 hx2 hx3 ho' => ?_, h2⟩
    by_cases hxi : x = i
    · subst hxi; exact absurd hb hx3
    · exact h1 x o' (by omega) hx2 hx3 ho'
theorem FactA.le {P : Program} {l : List Oper} {c : List (List Nat)} {n0 : Nat} {kp : Bool} {σ σ' : St} {F : Fr} {i : Nat} {o : Oper} {r : AV} (h : FactA P l c n0 kp σ F i o r) (hle : σ.le σ') : FactA P l c n0 kp σ' F i o r := by
  have hon : OnA P c n0 kp σ i o (ev F) r → OnA P c n0 kp σ' i o (ev F) r := fun h => by
    rcases h with h | ⟨h1, h2⟩
    · exact .inl h
    · exact .inr ⟨h1, fun s hs => h2 s (St.le_trans hle hs)⟩
  unfold FactA at h ⊢
  cases hg : o.guard with
  | none => rw [hg] at h; exact hon h
  | some p =>
    obtain ⟨g, want⟩ := p
    rw [hg] at h
    obtain ⟨t, b, cc, h1, h2, h3, h4, h5⟩ := h
    exact ⟨t, b, cc, h1, h2, h3, fun e => hon (h4 e), h5⟩
/-- A row is made. -/
def OwnK (P : Program) (σ : St) (o : Oper) (F : Fr) (rr : Nat → AV) (obj : AObj) : Prop := ∀ σ', σ.le σ' → OpW P o (ev F) σ' (fun r σ2 => ∃ id, σ' id = none ∧ r = rr id ∧ σ2 = σ'.set id obj)
def behindB (l : List Oper) (c : List (List Nat)) (bs : List Nat) (p : Nat) : Bool := (List.range l.length).all fun j => Nat.ble j p || bs.contains j || memB c j p
theorem behindB_get {l : List Oper} {c : List (List Nat)} {bs : List Nat} {p : Nat} (h : behindB l c bs p = true) {j : Nat} (hj : j < l.length) (hp : p < j) (hb : j ∉ bs) : memB c j p = true := by
  simp only [behindB, List.all_eq_true, List.mem_range, Bool.or_eq_true, List.contains_eq_mem, decide_eq_true_eq] at h
  rcases h j hj with (h | h) | h
  · have := Nat.le_of_ble_eq_true h; omega
  · exact absurd h hb
  · exact h
def aheadB (c : List (List Nat)) (p : Nat) : Bool := (List.range p).all fun j => memB c p j
theorem aheadB_get {c : List (List Nat)} {p : Nat} (h : aheadB c p = true) {j : Nat} (hj : j < p) : memB c p j = true := by
  simp only [aheadB, List.all_eq_true, List.mem_range] at h
  exact h j hj
/-- What stands ahead of the last part. -/
inductive CT (P : Program) (l : List Oper) (c : List (List Nat)) (n0 : Nat) (kp : Bool) (bs : List Nat) (K : Fr → St → Prop) : St → Nat → Fr → Prop
  | done {σ : St} {F : Fr} (h : K F σ) : CT P l c n0 kp bs K σ n0 F
  | cons {σ : St} {i : Nat} {o : Oper} {F : Fr} {r : AV} (ho : l[i]? = some o) (hb : i ∉ bs) (hf : FactA P l c n0 kp σ F i o r) (h : CT P l c n0 kp bs K σ (i + 1) (Ab.put F o.dst (some r))) : CT P l c n0 kp bs K σ i F
  | skip {σ : St} {i : Nat} {F : Fr} (hb : i ∈ bs) (h : CT P l c n0 kp bs K σ (i + 1) F) : CT P l c n0 kp bs K σ i F
  | own {σ : St} {i : Nat} {o : Oper} {F : Fr} {rr : Nat → AV} {obj : AObj} (ho : l[i]? = some o) (hb : i ∉ bs) (hn : i < n0) (hg : o.guard = none) (hd : behindB l c bs i = true) (hf : OwnK P σ o F rr obj) (h : ∀ id, σ id = none → CT P l c n0 kp bs K (σ.set id obj) (i + 1) (Ab.put F o.dst (some (rr id)))) : CT P l c n0 kp bs K σ i F
  | eff {σ : St} {i : Nat} {o : Oper} {F : Fr} {C : AV → St → Prop} (ho : l[i]? = some o) (hb : bs = []) (hn : i < n0) (hg : o.guard = none) (hd : behindB l c bs i = true) (ha : aheadB c i = true) (hf : OpW P o (ev F) σ C) (h : ∀ r σ1, C r σ1 → CT P l c n0 kp bs K σ1 (i + 1) (Ab.put F o.dst (some r))) : CT P l c n0 kp bs K σ i F
theorem CT.mono {P : Program} {l : List Oper} {c : List (List Nat)} {n0 : Nat} {kp : Bool} {bs : List Nat} {K K' : Fr → St → Prop} (hK : ∀ F s, K F s → K' F s) {σ : St} {i : Nat} {F : Fr} (h : CT P l c n0 kp bs K σ i F) : CT P l c n0 kp bs K' σ i F := by
  induction h with
  | done h => exact .done (hK _ _ h)
  | cons ho hb hf h ih => exact .cons ho hb hf ih
  | skip hb h ih => exact .skip hb ih
  | own ho hb hn hg hd hf h ih => exact .own ho hb hn hg hd hf ih
  | eff ho hb hn hg hd ha hf h ih => exact .eff ho hb hn hg hd ha hf ih
section
variable {P : Program} {l : List Oper} {c : List (List Nat)} {n0 nt : Nat} {kp : Bool} {A : List (Nat × Nat × List AV × TypeId)} {σ : St} {fr : Fr} {Kf : Fr → St → Prop}
def OwnAt (P : Program) (l : List Oper) (c : List (List Nat)) (n0 : Nat) (kp : Bool) (bs : List Nat) (K : Fr → St → Prop) (σ : St) (p : Nat) (F1 : Fr) : Prop :=
  ∃ o, l[p]? = some o ∧ p ∉ bs ∧ p < n0 ∧ o.guard = none ∧ behindB l c bs p = true ∧ ((∃ rr obj, OwnK P σ o F1 rr obj ∧ ∀ id, σ id = none → CT P l c n0 kp bs K (σ.set id obj) (p + 1) (Ab.put F1 o.dst (some (rr id)))) ∨
    ∃ C, bs = [] ∧ aheadB c p = true ∧ OpW P o (ev F1) σ C ∧ ∀ r σ1, C r σ1 → CT P l c n0 kp bs K σ1 (p + 1) (Ab.put F1 o.dst (some r)))
theorem CT.flat {bs : List Nat} {K : Fr → St → Prop} {i : Nat} {F : Fr} (h : CT P l c n0 kp bs K σ i F) : (∃ rs F2, AS P l c n0 kp bs σ n0 i F rs F2 ∧ K F2 σ) ∨ ∃ p rs F1, AS P l c n0 kp bs σ p i F rs F1 ∧ OwnAt P l c n0 kp bs K σ p F1 := by
  induction h with
  | done h => exact .inl ⟨[], _, .nil _, h⟩
  | cons ho hb hf h ih =>
    rcases ih with ⟨rs, F2, h1, h2⟩ | ⟨p, rs, F1, h1, h2⟩
    · exact .inl ⟨_, F2, .cons ho hb hf h1, h2⟩
    · exact .inr ⟨p, _, F1, .cons ho hb hf h1, h2⟩
  | skip hb h ih =>
    rcases ih with ⟨rs, F2, h1, h2⟩ | ⟨p, rs, F1, h1, h2⟩
    · exact .inl ⟨_, F2, .skip hb h1, h2⟩
    · exact .inr ⟨p, _, F1, .skip hb h1, h2⟩
  | own ho hb hn hg hd hf h _ => exact .inr ⟨_, [], _, .nil _, _, ho, hb, hn, hg, hd, .inl ⟨_, _, hf, h⟩⟩
  | eff ho hb hn hg hd ha hf h _ => exact .inr ⟨_, [], _, .nil _, _, ho, (by rw [hb]; simp), hn, hg, hd, .inr ⟨_, hb, ha, hf, h⟩⟩
def FactsP (P : Program) (l : List Oper) (c : List (List Nat)) (n0 : Nat) (kp : Bool) (A : List (Nat × Nat × List AV × TypeId)) (fr : Fr) (σ : St) (rs : List AV) (listed : Array Bool) (e : Nat) : Prop :=
  ∀ x o, x < e → x ∉ A.map (·.1) → listed.getD x false = false → l[x]? = some o → ∃ F', FrameOk l fr (fun j => j < x ∧ j ∉ A.map (·.1)) (fun j => rs.getD j (.tup [])) F' ∧ FactA P l c n0 kp σ F' x o (rs.getD x (.tup []))
def KP (P : Program) (l : List Oper) (n0 : Nat) (kp : Bool) (A : List (Nat × Nat × List AV × TypeId)) (Kf : Fr → St → Prop) : Fr → St → Prop := fun F s => AllocK (fun F s' => (kp = true → s.le s') → DC P l kp s Kf n0 F s') A F s
def GoodP (P : Program) (l : List Oper) (c : List (List Nat)) (n0 : Nat) (kp : Bool) (A : List (Nat × Nat × List AV × TypeId)) (fr : Fr) (Kf : Fr → St → Prop) (val : Nat → AV) (listed : Array Bool) (cur : St) : Prop :=
  ∃ σ rs, GoodM P l n0 kp A fr σ Kf rs val listed cur ∧
    ((FactsP P l c n0 kp A fr σ rs listed n0 ∧ ∃ F2, FrameOk l fr (fun j => j < n0 ∧ j ∉ A.map (·.1)) (fun j => rs.getD j (.tup [])) F2 ∧ KP P l n0 kp A Kf F2 σ) ∨
     ∃ p F1, rs.length = p ∧ FactsP P l c n0 kp A fr σ rs listed p ∧ FrameOk l fr (fun j => j < p ∧ j ∉ A.map (·.1)) (fun j => rs.getD j (.tup [])) F1 ∧ OwnAt P l c n0 kp (A.map (·.1)) (KP P l n0 kp A Kf) σ p F1 ∧ ∀ x, p ≤ x → x ∉ A.map (·.1) → listed.getD x false = false)
theorem getD_app_left (r s : List AV) {x : Nat} (h : x < r.length) : (r ++ s).getD x (.tup []) = r.getD x (.tup []) := by
  simp only [List.getD_eq_getElem?_getD, List.getElem?_append_left h]
theorem getD_app_right (r s : List AV) (x : Nat) : (r ++ s).getD (r.length + x) (.tup []) = s.getD x (.tup []) := by
  simp only [List.getD_eq_getElem?_getD, List.getElem?_append_right (Nat.le_add_right _ _), Nat.add_sub_cancel_left]
/-- A part begins. -/
theorem beginP (hblt : ∀ e ∈ A, e.1 < n0) {i : Nat} {F : Fr} (hct : CT P l c n0 kp (A.map (·.1)) (KP P l n0 kp A Kf) σ i F) {rs0 : List AV} (hlen : rs0.length = i) {val : Nat → AV} {listed : Array Bool} {cur : St} (hF : FrameOk l fr (fun j => j < i ∧ j ∉ A.map (·.1)) (fun j => rs0.getD j (.tup [])) F) (hfacts : FactsP P l c n0 kp A fr σ rs0 listed i)
    (hun : ∀ x, i ≤ x → x ∉ A.map (·.1) → listed.getD x false = false) (hv : ∀ x, x < i → x ∉ A.map (·.1) → val x = rs0.getD x (.tup [])) {α : Nat → Nat} (hα : ∀ b t as et, (b, t, as, et) ∈ A → listed.getD b false = true → val b = .ptr (α b) as.length 0 0) (hS : SIs A listed α σ cur) :
    ∃ val' : Nat → AV, (∀ j, listed.getD j false = true → val' j = val j) ∧ GoodP P l c n0 kp A fr Kf val' listed cur := by
  have main : ∀ {e : Nat} {rs : List AV} {F2 : Fr}, AS P l c n0 kp (A.map (·.1)) σ e i F rs F2 → e ≤ n0 →
      FactsP P l c n0 kp A fr σ (rs0 ++ rs) listed e ∧ FrameOk l fr (fun j => j < e ∧ j ∉ A.map (·.1)) (fun j => (rs0 ++ rs).getD j (.tup [])) F2 ∧
      GoodM P l n0 kp A fr σ Kf (rs0 ++ rs) (fun x => if x < i ∨ x ∈ A.map (·.1) then val x else (rs0 ++ rs).getD x (.tup [])) listed cur := fun {e rs F2} hA he => by
    have hie := hA.len
    have hR1 : ∀ x, x < i → (rs0 ++ rs).getD x (.tup []) = rs0.getD x (.tup []) := fun x hx => getD_app_left _ _ (by omega)
    obtain ⟨g1, g2⟩ := hA.get (fr := fr) (val := fun x => (rs0 ++ rs).getD x (.tup [])) (fun j => by rw [← hlen]; exact getD_app_right _ _ _) (hF.congr (fun _ => Iff.rfl) fun j hj => hR1 j hj.1)
    refine ⟨fun x o hx hxA hxl ho => ?_, g2, fun x hx hxA => ?_, α, fun b t as et he hl => ?_, .inl ⟨fun x hx => hun x (by omega) fun hm => ?_, hS⟩⟩
    · by_cases hxi : x < i
      · obtain ⟨F', h1, h2⟩ := hfacts x o hxi hxA hxl ho
        exact ⟨F', h1.congr (fun _ => Iff.rfl) fun j hj => hR1 j (by omega), by rw [hR1 x hxi]; exact h2⟩
      · exact g1 x o (by omega) hx hxA ho
    · dsimp only
      by_cases hxi : x < i
      · rw [if_pos (.inl hxi), hR1 x hxi]; exact hv x hxi hxA
      · rw [if_neg (fun h => h.elim hxi hxA)]
    · dsimp only
      rw [if_pos (.inr (List.mem_map.2 ⟨_, he, rfl⟩))]; exact hα b t as et he hl
    · obtain ⟨e, he, rfl⟩ := List.mem_map.1 hm
      have := hblt e he; omega
  have hag : ∀ (R : List AV) (j : Nat), listed.getD j false = true → (if j < i ∨ j ∈ A.map (·.1) then val j else R.getD j (.tup [])) = val j := fun R j hj => by
    by_cases h : j < i ∨ j ∈ A.map (·.1)
    · rw [if_pos h]
    · rw [hun j (by omega) (fun e => h (.inr e))] at hj; cases hj
  rcases hct.flat with ⟨rs, F2, hA, hK⟩ | ⟨p, rs, F1, hA, hO⟩
  · obtain ⟨h1, h2, h3⟩ := main hA (Nat.le_refl _)
    exact ⟨_, hag _, σ, _, h3, .inl ⟨h1, F2, h2, hK⟩⟩
  · have hpn : p < n0 := by obtain ⟨o, _, _, h, _⟩ := hO; exact h
    have hip := hA.len
    obtain ⟨h1, h2, h3⟩ := main hA (by omega)
    exact ⟨_, hag _, σ, _, h3, .inr ⟨p, F1, by rw [List.length_append]; omega, h1, h2, hO, fun x hx => hun x (by omega)⟩⟩
theorem set_false {listed : Array Bool} {i x : Nat} (h : (listed.setIfInBounds i true).getD x false = false) (hi : i < listed.size) : x ≠ i ∧ listed.getD x false = false := by
  by_cases hx : x = i
  · subst hx
    simp [hi] at h
  · exact ⟨hx, (getD_set_ne false (Ne.symm hx)).symm.trans h⟩
theorem stepP (hpl : PlanL l nt c) (hn0 : n0 < l.length) (hnd : nodupB (A.map (·.1)) = true) (hblt : ∀ e ∈ A, e.1 < n0) (hAB : ∀ i, i < l.length → i < n0 → i ∉ A.map (·.1) → ∀ e ∈ A, memB c i e.1 = false) (hC : ∀ i, i < l.length → n0 ≤ i → (∀ e ∈ A, memB c i e.1 = true) ∧ ∀ x, n0 ≤ x → x < i → memB c i x = true) (hA : AllocsOk P l A)
    {val : Nat → AV} {listed : Array Bool} {cur : St} {i : Nat} {o : Oper} (hsz : listed.size = l.toArray.size) (hgood : GoodP P l c n0 kp A fr Kf val listed cur) (hcl : ∀ x y, depT l.toArray x y → listed.getD x false = true → listed.getD y false = true) (hdeps : ∀ y, depT l.toArray i y → listed.getD y false = true) (hun : listed.getD i false = false) (ho : l.toArray[i]? = some o) : StepG P l.toArray fr (GoodP P l c n0 kp A fr Kf) val listed cur i o := by
  obtain ⟨σ, rs, hM, hcase⟩ := hgood
  have ho' : l[i]? = some o := by simpa using ho
  have hil : i < l.length := (List.getElem?_eq_some_iff.1 ho').1
  have hlt : i < listed.size := by rw [hsz]; simpa using hil
  rcases hcase with ⟨hfacts, hmade⟩ | ⟨p, F1, hlen, hfacts, hF1, hown, hwait⟩
  · exact (stepM hpl (Nat.le_of_lt hn0) hnd hblt hAB hC hA hsz hM hcl hdeps hun ho (fun h1 h2 => hfacts i o h1 h2 hun ho') (fun _ => hmade)).mono fun val' σ' hM' => ⟨σ, rs, hM', .inl ⟨fun x o hx hxA hxl ho => hfacts x o hx hxA (set_false hxl hlt).2 ho, hmade⟩⟩
  · obtain ⟨op, hop, hpA, hpn, hpg, hpb, hpE⟩ := hown
    have hafter : p < i → i ∉ A.map (·.1) → False := fun h1 h2 => by
      have := hdeps _ (hpl.dep _ _ (behindB_get hpb hil h1 h2))
      rw [hwait p (Nat.le_refl _) hpA] at this; cases this
    have hnA : ∀ x, n0 ≤ x → x ∉ A.map (·.1) := fun x hx hm => by
      obtain ⟨e, he, rfl⟩ := List.mem_map.1 hm
      have := hblt e he; omega
    by_cases hip : i = p
    · subst hip
      rw [ho'] at hop; cases hop
      obtain ⟨hval, α, hα, hc2⟩ := hM
      have hS : SIs A listed α σ cur := by
        rcases hc2 with ⟨_, hS⟩ | ⟨j, F, h1, h2, _⟩
        · exact hS
        · have := (h2 n0 (Nat.le_refl _) hn0).2 h1
          rw [hwait n0 (by omega) (hnA n0 (Nat.le_refl _))] at this; cases this
      have hgn : ∀ j, j ≠ i → (listed.setIfInBounds i true).getD j false = listed.getD j false := fun j hj => getD_set_ne false (Ne.symm hj)
      have hl' : ∀ e ∈ A, (listed.setIfInBounds i true).getD e.1 false = listed.getD e.1 false := fun e he => hgn _ fun h => hpA (List.mem_map.2 ⟨e, he, h⟩)
      have hFv : FrameOk l fr (fun j => j < i ∧ j ∉ A.map (·.1)) val F1 := hF1.congr (fun _ => Iff.rfl) fun j hj => hval j (by omega) hj.2
      rcases hpE with ⟨rr, obj, hpK, hpC⟩ | ⟨C, hpN, hpa, hpK, hpC⟩
      case inr =>
        obtain rfl : A = [] := List.map_eq_nil_iff.1 hpN
        have hcur : cur = σ := funext fun x => hS.2.1 x (fun e he => by cases he)
        subst hcur
        refine ⟨F1, hFv.src hpl ho' (fun j hj hm => ⟨hj, fun hjb => by cases hjb⟩) (fun j hj => hj.1), .inl ⟨hpg, hpK.mono ?_⟩⟩
        intro r s2 hC2
        have hR1 : ∀ x, x < i → (rs ++ [r]).getD x (.tup []) = rs.getD x (.tup []) := fun x hx => getD_app_left _ _ (by omega)
        have hR2 : (rs ++ [r]).getD i (.tup []) = r := by
          have := getD_app_right rs [r] 0
          rw [hlen] at this; exact this
        have hFp : FrameOk l fr (fun j => j < i + 1 ∧ j ∉ ([] : List (Nat × Nat × List AV × TypeId)).map (·.1)) (fun j => (rs ++ [r]).getD j (.tup [])) (Ab.put F1 o.dst (some r)) := by
          have h6 := ((hF1.congr (val' := fun j => (rs ++ [r]).getD j (.tup [])) (fun _ => Iff.rfl) fun j hj => hR1 j hj.1).put i).congr (X' := fun j => j < i + 1 ∧ j ∉ ([] : List (Nat × Nat × List AV × TypeId)).map (·.1)) (val' := fun j => (rs ++ [r]).getD j (.tup [])) (fun j => by
            constructor
            · rintro (⟨h1, h2⟩ | rfl)
              · exact ⟨by omega, h2⟩
              · exact ⟨by omega, hpA⟩
            · rintro ⟨h1, h2⟩
              by_cases hj : j = i
              · exact .inr hj
              · exact .inl ⟨by omega, h2⟩) (fun _ _ => rfl)
          rw [dstOf_eq ho', hR2] at h6
          exact h6
        obtain ⟨val', h1, h2⟩ := beginP (fr := fr) (val := fun x => if x = i then r else val x) (listed := listed.setIfInBounds i true) (cur := s2) (α := α) hblt (hpC r s2 hC2) (rs0 := rs ++ [r]) (by rw [List.length_append, hlen]; rfl) hFp
          (fun x o hx hxA hxl ho => by
            obtain ⟨h3, h4⟩ := set_false hxl hlt
            have := hdeps _ (hpl.dep _ _ (aheadB_get hpa (j := x) (by omega)))
            rw [h4] at this; cases this)
          (fun x hx hxA => by rw [getD_set_ne false (show i ≠ x by omega)]; exact hwait x (by omega) hxA)
          (fun x hx hxA => by
            show (if x = i then r else val x) = _
            by_cases hxi : x = i
            · subst hxi; rw [if_pos rfl, hR2]
            · rw [if_neg hxi, hR1 x (by omega)]; exact hval x (by omega) hxA)
          (fun b t as et he hl => by cases he)
          ⟨fun b t as et he hl => (by cases he), fun x hx => rfl, fun e he e' he' h3 h4 => (by cases he)⟩
        refine ⟨val', fun j hj => ?_, ?_, h2⟩
        · have hji : j ≠ i := fun e => by rw [e, hun] at hj; cases hj
          rw [h1 j (by rw [getD_set_ne false (Ne.symm hji)]; exact hj)]
          exact if_neg hji
        · rw [h1 i (by simp [hlt])]
          exact (if_pos rfl).symm
      refine ⟨F1, hFv.src hpl ho' (fun j hj hm => ⟨hj, fun hjb => ?_⟩) (fun j hj => hj.1), .inl ⟨hpg, (hpK cur hS.le).mono ?_⟩⟩
      · obtain ⟨e, he, rfl⟩ := List.mem_map.1 hjb
        rw [hAB i hil hpn hpA e he] at hm; cases hm
      · rintro r s2 ⟨id, hid, rfl, rfl⟩
        have hσid : σ id = none := by
          cases h : σ id with
          | none => rfl
          | some v => rw [hS.le id v h] at hid; cases hid
        have hR1 : ∀ x, x < i → (rs ++ [rr id]).getD x (.tup []) = rs.getD x (.tup []) := fun x hx => getD_app_left _ _ (by omega)
        have hR2 : (rs ++ [rr id]).getD i (.tup []) = rr id := by
          have := getD_app_right rs [rr id] 0
          rw [hlen] at this; exact this
        have hFp : FrameOk l fr (fun j => j < i + 1 ∧ j ∉ A.map (·.1)) (fun j => (rs ++ [rr id]).getD j (.tup [])) (Ab.put F1 o.dst (some (rr id))) := by
          have h6 := ((hF1.congr (val' := fun j => (rs ++ [rr id]).getD j (.tup [])) (fun _ => Iff.rfl) fun j hj => hR1 j hj.1).put i).congr (X' := fun j => j < i + 1 ∧ j ∉ A.map (·.1)) (val' := fun j => (rs ++ [rr id]).getD j (.tup [])) (fun j => by
            constructor
            · rintro (⟨h1, h2⟩ | rfl)
              · exact ⟨by omega, h2⟩
              · exact ⟨by omega, hpA⟩
            · rintro ⟨h1, h2⟩
              by_cases hj : j = i
              · exact .inr hj
              · exact .inl ⟨by omega, h2⟩) (fun _ _ => rfl)
          rw [dstOf_eq ho', hR2] at h6
          exact h6
        obtain ⟨val', h1, h2⟩ := beginP (fr := fr) (val := fun x => if x = i then rr id else val x) (listed := listed.setIfInBounds i true) (cur := cur.set id obj) (α := α) hblt (hpC id hσid) (rs0 := rs ++ [rr id]) (by rw [List.length_append, hlen]; rfl) hFp
          (fun x o hx hxA hxl ho => by
            obtain ⟨h3, h4⟩ := set_false hxl hlt
            obtain ⟨F', h5, h6⟩ := hfacts x o (by omega) hxA h4 ho
            exact ⟨F', h5.congr (fun _ => Iff.rfl) fun j hj => hR1 j (by omega), by rw [hR1 x (by omega)]; exact h6.le (St.le_set _ hσid)⟩)
          (fun x hx hxA => by rw [hgn x (by omega)]; exact hwait x (by omega) hxA)
          (fun x hx hxA => by
            show (if x = i then rr id else val x) = _
            by_cases hxi : x = i
            · subst hxi; rw [if_pos rfl, hR2]
            · rw [if_neg hxi, hR1 x (by omega)]; exact hval x (by omega) hxA)
          (fun b t as et he hl => by
            show (if b = i then rr id else val b) = _
            rw [if_neg (fun e : b = i => hpA (List.mem_map.2 ⟨_, he, e⟩))]
            exact hα b t as et he (by have := hl' _ he; dsimp only at this; rwa [this] at hl))
          ⟨fun b t as et he hl => by
            obtain ⟨h3, h4⟩ := hS.1 b t as et he (by have := hl' _ he; dsimp only at this; rwa [this] at hl)
            have hne : α b ≠ id := fun e => by rw [e, hid] at h3; cases h3
            exact ⟨by rw [St.set_ne _ _ _ hne]; exact h3, by rw [St.set_ne _ _ _ hne]; exact h4⟩,
           fun x hx => by
            by_cases hxi : x = id
            · subst hxi; rw [St.set_same, St.set_same]
            · rw [St.set_ne _ _ _ hxi, St.set_ne _ _ _ hxi]
              exact hS.2.1 x fun e he hl => hx e he (by rw [hl' e he]; exact hl),
           fun e he e' he' h3 h4 => hS.2.2 e he e' he' (by rwa [hl' e he] at h3) (by rwa [hl' e' he'] at h4)⟩
        refine ⟨val', fun j hj => ?_, ?_, h2⟩
        · have hji : j ≠ i := fun e => by rw [e, hun] at hj; cases hj
          rw [h1 j (by rw [hgn j hji]; exact hj)]
          exact if_neg hji
        · rw [h1 i (by simp [hlt])]
          exact (if_pos rfl).symm
    · refine (stepM hpl (Nat.le_of_lt hn0) hnd hblt hAB hC hA hsz hM hcl hdeps hun ho (fun h1 h2 => ?_) (fun h1 => (hafter (by omega) (hnA i h1)).elim)).mono fun val' σ' hM' => ⟨σ, rs, hM', .inr ⟨p, F1, hlen, fun x o hx hxA hxl ho => hfacts x o hx hxA (set_false hxl hlt).2 ho, hF1, ⟨op, hop, hpA, hpn, hpg, hpb, hpE⟩, fun x hx hxA => ?_⟩⟩
      · rcases Nat.lt_trichotomy i p with h | h | h
        · exact hfacts i o h h2 hun ho'
        · exact absurd h hip
        · exact (hafter h h2).elim
      · have hxi : x ≠ i := fun e => by
          subst e
          exact hafter (by omega) hxA
        rw [getD_set_ne false (Ne.symm hxi)]
        exact hwait x hx hxA
theorem cj_own {id : Nat} {Q : Post} (hmix : P.follows .mixedOrders = true) (hc : clo l [] = c) (hp : planB l nt c = true) (hch : chainB l c n0 (A.map (·.1)) = true) (hn1 : n0 < l.length) (hA : AllocsOk P l A)
    (hct : CT P l c n0 kp (A.map (·.1)) (fun F s => AllocK (fun F s' => (kp = true → s.le s') → DC P l kp s (fun F s => Q .normal F s) n0 F s') A F s) σ 0 fr) : CJ P nt (.region id l.toArray true) Q fr σ := fun k a hσ hk hz hf => by
  have hpl := planL hc hp
  obtain ⟨hn0, hnd, hblt, hAB, hC⟩ := chainB_get hch
  have hstep : ∀ (val : Nat → AV) (listed : Array Bool) (cur : St) (i : Nat) (o : Oper), listed.size = l.toArray.size → GoodP P l c n0 kp A fr (fun F s => Q .normal F s) val listed cur → (∀ x y, depT l.toArray x y → listed.getD x false = true → listed.getD y false = true) → (∀ y, depT l.toArray i y → listed.getD y false = true) → listed.getD i false = false → l.toArray[i]? = some o → StepG P l.toArray fr (GoodP P l c n0 kp A fr (fun F s => Q .normal F s)) val listed cur i o :=
    fun val listed cur i o hsz hg hcl hdeps hun ho => stepP hpl hn1 hnd hblt hAB hC hA hsz hg hcl hdeps hun ho
  obtain ⟨hok', hst'⟩ := hk.drawn (k.w.drawn + 1)
  refine wp_region_any hmix ?_
  have hrepl : ∀ x, (Array.replicate l.toArray.size false).getD x false = false := fun x => by
    rw [Array.getD_eq_getD_getElem?, Array.getElem?_replicate]
    split <;> rfl
  obtain ⟨val0, _, hgood0⟩ := beginP (fr := fr) (Kf := fun F s => Q .normal F s) (val := fun _ => .tup []) (listed := Array.replicate l.toArray.size false) (cur := σ) (α := fun _ => 0) hblt hct (rs0 := []) rfl ((FrameOk.start l fr _).congr (fun j => by simp) (fun _ _ => rfl)) (fun x o hx => absurd hx (Nat.not_lt_zero _)) (fun x _ _ => hrepl x) (fun x hx => absurd hx (Nat.not_lt_zero _)) (fun b t as et he hl => (by rw [hrepl] at hl; cases hl))
    ⟨fun b t as et he hl => (by rw [hrepl] at hl; cases hl), fun x hx => rfl, fun e he e' he' hl => (by rw [hrepl] at hl; cases hl)⟩
  have := run_planG (fr := fr) (Q := Q) (k0 := k) (a0 := a) hpl.plan hstep (fun val listed cur k' a' hsz hg hall hs hdf hσ' hok hz' hnew hold => ?_) l.toArray.size (Array.replicate l.toArray.size false) { k with w := { k.w with drawn := k.w.drawn + 1 } } a val0 σ (by simp) (by simp) hgood0
    ⟨hσ, hok', hz, (fun i j hi => by rw [hrepl] at hi; cases hi), fun j oj t _ _ h => (by rw [hrepl] at h; cases h), fun t av h _ => (hf.step hst') t av h⟩ hst' rfl
  · exact this
  · obtain ⟨σ1, rs, ⟨hval, α, hα, hcase⟩, hg2⟩ := hg
    rcases hg2 with ⟨_, F2, hF2, hK⟩ | ⟨p, F1, _, _, _, hown, hwait⟩
    · have hfin : ∃ F, FrameOk l fr (fun x => x < l.length) val F ∧ DC P l kp σ1 (fun F s => Q .normal F s) l.length F cur := by
        rcases hcase with ⟨hC1, hS⟩ | ⟨j, F, h1, h2, h3, h4, h5, hkc⟩
        · have := hall n0 (by simpa using hn1)
          rw [hC1 n0 (Nat.le_refl _)] at this; cases this
        · have hj : l.length ≤ j := by
            rcases Nat.lt_or_ge j l.length with h | h
            · have := (h2 j (by omega) h).1 (hall j (by simpa using h)); omega
            · exact h
          cases h5 with
          | nil hi h => subst hi; exact ⟨F, h4, .nil rfl h⟩
          | cons ho hg hw hk2 h => have := (List.getElem?_eq_some_iff.1 ho).1; omega
      obtain ⟨F, hF, hD⟩ := hfin
      cases hD with
      | cons ho hg hw hk2 h => have := (List.getElem?_eq_some_iff.1 ho).1; omega
      | nil hi h =>
        refine ⟨hdf, hz'.trans hz.symm, k', .normal, F, rfl, hok, hs, fun t av ht => ?_, trivial, by rw [hσ']; exact h⟩
        rcases hF t av ht with ⟨j, h1, h2, rfl⟩ | ⟨h1, h2⟩
        · obtain ⟨oj, hoj, hojt⟩ := dstOf_some h2
          exact hnew j oj t (by simpa using hoj) hojt
        · exact hold t av h2 fun j oj hoj hojt => h1 j (by have := (List.getElem?_eq_some_iff.1 (show l[j]? = some oj by simpa using hoj)).1; exact this) (dstOf_of (by simpa using hoj) hojt)
    · obtain ⟨op, hop, hpA, hpn, _⟩ := hown
      have := hall p (by simp; omega)
      rw [hwait p (Nat.le_refl _) hpA] at this; cases this
end
end Go.Proofs.YtbpoeggmpjepfaaDoor.Ab

/- Abstract values over the model's memory: the steps of regions that draw their order, in which variables are made and written. -/
set_option linter.unusedVariables false
set_option linter.unusedSimpArgs false
set_option maxRecDepth 20000
namespace Go.Proofs.YtbpoeggmpjepfaaDoor.Ab
open Go
def fsO : Nat → List Oper → Option Nat
  | _, [] => none
  | i, o :: r => match o.op with
    | .store _ _ _ => some i
    | _ => fsO (i + 1) r
theorem fsO_lt : ∀ (i : Nat) (l : List Oper) {n : Nat}, fsO i l = some n → n < i + l.length
  | _, [], _, h => by cases h
  | i, o :: r, n, h => by
    unfold fsO at h
    rw [List.length_cons]
    split at h
    · cases h; omega
    · have := fsO_lt (i + 1) r h; omega
def dropO : Nat → List Oper → Option (List Oper)
  | 0, l => some l
  | _ + 1, [] => none
  | n + 1, _ :: l => dropO n l
def alO (P : Program) : Nat → Nat → List Oper → List (Nat × Nat × List AV × TypeId) → Option (List (Nat × Nat × List AV × TypeId))
  | _, 0, _, acc => some acc
  | _, _ + 1, [], acc => some acc
  | i, n + 1, o :: r, acc => match o.op, o.dst, o.guard with
    | .alloc et, some t, none => match zeroIs P et with
      | some as => alO P (i + 1) n r ((i, t, as, et) :: acc)
      | none => alO P (i + 1) n r acc
    | _, _, _ => alO P (i + 1) n r acc
theorem dropO_eq : ∀ (n : Nat) (l r : List Oper), dropO n l = some r → l.drop n = r
  | 0, l, r, h => by cases h; rfl
  | n + 1, [], r, h => by cases h
  | n + 1, _ :: l, r, h => dropO_eq n l r h
theorem alO_ok {P : Program} {l : List Oper} : ∀ (n i : Nat) (r : List Oper) (acc A : List (Nat × Nat × List AV × TypeId)), l.drop i = r → AllocsOk P l acc → alO P i n r acc = some A → AllocsOk P l A
  | 0, i, r, acc, A, _, ha, h => by unfold alO at h; cases h; exact ha
  | n + 1, i, [], acc, A, _, ha, h => by unfold alO at h; cases h; exact ha
  | n + 1, i, o :: r, acc, A, hd, ha, h => by
    obtain ⟨h1, h2, h3⟩ := drop_cons hd
    unfold alO at h
    split at h
    · rename_i et t e1 e2 e3
      split at h
      · rename_i as hz
        refine alO_ok n (i + 1) r _ A h2 (show AllocsOk P l ((i, t, as, et) :: acc) from ⟨⟨o.type, o.pos, o.after, ?_, hz⟩, ha⟩) h
        rw [h1]
        obtain ⟨d, op, ty, pos, aft, g⟩ := o
        dsimp only at e1 e2 e3
        subst e1; subst e2; subst e3
        rfl
      · exact alO_ok n (i + 1) r acc A h2 ha h
    · exact alO_ok n (i + 1) r acc A h2 ha h
def DA (P : Program) (l : List Oper) (c : List (List Nat)) (n0 : Nat) (kp : Bool) (bs : List Nat) (σ : St) (K : Fr → St → Prop) (i : Nat) (rest : List Oper) (fr : Fr) : Prop := l.drop i = rest → CT P l c n0 kp bs K σ i fr
def DB (P : Program) (l : List Oper) (kp : Bool) (σb : St) (K : Fr → St → Prop) (i : Nat) (rest : List Oper) (F : Fr) (σ : St) : Prop := l.drop i = rest → (kp = true → σb.le σ) → DC P l kp σb K i F σ
section
variable {P : Program} {l : List Oper} {c : List (List Nat)} {n0 nt : Nat} {kp : Bool} {bs : List Nat} {σ σb : St} {K : Fr → St → Prop} {K2 : Fr → St → Prop} {i : Nat} {fr : Fr} {rest : List Oper} {t : Tmp} {op : Op} {ty : TypeId} {pos : String} {aft : Array Edge} {av : AV} {dst : Option Tmp}
theorem al (h : DA P l c n0 kp bs σ K i rest fr) : DA P l c n0 kp bs σ K i rest fr := h
theorem bl (h : DB P l kp σb K2 i rest fr σ) : DB P l kp σb K2 i rest fr σ := h
theorem da_nil (h : K fr σ) (hi : Nat.beq i n0 = true := by exact rfl) : DA P l c n0 kp bs σ K i rest fr := fun _ => by
  have := Nat.eq_of_beq_eq_true hi
  subst this
  exact .done h
theorem da_skip {o : Oper} (h : DA P l c n0 kp bs σ K (i + 1) rest fr) (hb : inN i bs = true := by exact rfl) : DA P l c n0 kp bs σ K i (o :: rest) fr := fun hr => by
  obtain ⟨h1, h2, h3⟩ := drop_cons hr
  exact .skip ((inN_iff _ _).1 hb) (h h2)
theorem da_cons {o : Oper} {r : AV} (hb : inN i bs = false) (hf : FactA P l c n0 kp σ fr i o r) (h : DA P l c n0 kp bs σ K (i + 1) rest (put fr o.dst (some r))) : DA P l c n0 kp bs σ K i (o :: rest) fr := fun hr => by
  obtain ⟨h1, h2, h3⟩ := drop_cons hr
  exact .cons h1 (fun hm => by rw [(inN_iff _ _).2 hm] at hb; cases hb) hf (h h2)
/-- A row of our own is made. -/
theorem da_own {o : Oper} {rr : Nat → AV} {obj : AObj} (hb : inN i bs = false) (hg : o.guard = none) (hn : Nat.blt i n0 = true) (hd : behindB l c bs i = true) (hf : OwnK P σ o fr rr obj) (h : ∀ id, σ id = none → DA P l c n0 kp bs (σ.set id obj) K (i + 1) rest (put fr o.dst (some (rr id)))) : DA P l c n0 kp bs σ K i (o :: rest) fr := fun hr => by
  obtain ⟨h1, h2, h3⟩ := drop_cons hr
  exact .own h1 (fun hm => by rw [(inN_iff _ _).2 hm] at hb; cases hb) (Nat.blt_eq.mp hn) hg hd hf fun id hid => h id hid h2
theorem ownK_of {o : Oper} {rr : Nat → AV} {obj : AObj} (hJ : ∀ σ', σ.le σ' → ∀ (R : Option AV → St → Prop), (∀ id, σ' id = none → R (some (rr id)) (σ'.set id obj)) → OpJ P o (ev fr) σ' R) : OwnK P σ o fr rr obj := fun σ' hle => .of_opj (hJ σ' hle _ fun id hid => ⟨id, hid, rfl, rfl⟩)
theorem fa_none {o : Oper} {r : AV} (hg : o.guard = none) (h : OnA P c n0 kp σ i o (ev fr) r) : FactA P l c n0 kp σ fr i o r := by
  unfold FactA; rw [hg]; exact h
theorem fa_yes {o : Oper} {r : AV} {g u : Nat} {b : Bool} (hg : o.guard = some (g, b)) (hj : dstOf l g = some u) (hl : lk fr u = some (.v (.bool b))) (h : OnA P c n0 kp σ i o (ev fr) r) : FactA P l c n0 kp σ fr i o r := by
  unfold FactA; rw [hg]
  cases b with
  | true => exact ⟨_, _, true, hj, hl, rfl, fun _ => h, fun e => by cases e⟩
  | false => exact ⟨_, _, true, hj, hl, rfl, fun _ => h, fun e => by cases e⟩
theorem fa_q {o : Oper} {r b : AV} {g u : Nat} {w cc : Bool} (hg : o.guard = some (g, w)) (hj : dstOf l g = some u) (hl : lk fr u = some b) (hgc : gc b w = some cc) (h : cc = true → OnA P c n0 kp σ i o (ev fr) (.mb cc r)) : FactA P l c n0 kp σ fr i o (.mb cc r) := by
  unfold FactA; rw [hg]
  exact ⟨_, b, cc, hj, hl, hgc, h, fun e k => Rep.mb_false e⟩
theorem da_n {j u : Nat} {b w : Bool} (hb : inN i bs = false) (hj : dstOf l j = some u) (hl : lk fr u = some (.v (.bool b))) (hne : (b == w) = false) (h : DA P l c n0 kp bs σ K (i + 1) rest (put fr dst (some (.tup [])))) : DA P l c n0 kp bs σ K i (⟨dst, op, ty, pos, aft, some (j, w)⟩ :: rest) fr :=
  da_cons hb (r := .tup []) (by
    unfold FactA
    have hu : ∀ k, Rep k (.tup []) undef := fun k => .tup (by simp [undef]) (fun j a u h _ => by simp at h)
    cases b <;> cases w <;> first | (cases hne; done) | exact ⟨_, _, false, hj, hl, rfl, (fun e => by cases e), fun _ => hu⟩) h
/-- Value alone. -/
theorem da_v (hb : inN i bs = false) (hJ : ∀ (σ' : St) (R : Option AV → St → Prop), R (some av) σ' → OpJ P ⟨some t, op, ty, pos, aft, none⟩ (ev fr) σ' R) (h : DA P l c n0 kp bs σ K (i + 1) rest ((t, av) :: fr)) : DA P l c n0 kp bs σ K i (⟨some t, op, ty, pos, aft, none⟩ :: rest) fr :=
  da_cons hb (fa_none rfl (.inl fun σ' => opw_of (r := some av) (hJ σ'))) h
theorem da_vy {j u : Nat} {b : Bool} (hb : inN i bs = false) (hj : dstOf l j = some u) (hl : lk fr u = some (.v (.bool b))) (hJ : ∀ (σ' : St) (R : Option AV → St → Prop), R (some av) σ' → OpJ P ⟨some t, op, ty, pos, aft, some (j, b)⟩ (ev fr) σ' R) (h : DA P l c n0 kp bs σ K (i + 1) rest ((t, av) :: fr)) : DA P l c n0 kp bs σ K i (⟨some t, op, ty, pos, aft, some (j, b)⟩ :: rest) fr :=
  da_cons hb (fa_yes rfl hj hl (.inl fun σ' => opw_of (r := some av) (hJ σ'))) h
theorem da_vq {j u : Nat} {w cc : Bool} {b : AV} (hb : inN i bs = false) (hj : dstOf l j = some u) (hl : lk fr u = some b) (hgc : gc b w = some cc) (hn : Needs cc fr op.operands.toList) (hJ : cc = true → ∀ (σ' : St) (R : Option AV → St → Prop), R (some av) σ' → OpJ P ⟨some t, op, ty, pos, aft, some (j, w)⟩ (ev (strip fr)) σ' R) (h : DA P l c n0 kp bs σ K (i + 1) rest ((t, .mb cc av) :: fr)) : DA P l c n0 kp bs σ K i (⟨some t, op, ty, pos, aft, some (j, w)⟩ :: rest) fr :=
  da_cons hb (fa_q rfl hj hl hgc fun hc => .inl fun σ' => (OpW.strip (o := ⟨some t, op, ty, pos, aft, some (j, w)⟩) hn hc (opw_of (r := some av) (hJ hc σ'))).mb hc) h
theorem da_vq0 {j u : Nat} {w cc : Bool} {b : AV} (hb : inN i bs = false) (hj : dstOf l j = some u) (hl : lk fr u = some b) (hgc : gc b w = some cc) (hJ : cc = true → ∀ (σ' : St) (R : Option AV → St → Prop), R (some av) σ' → OpJ P ⟨some t, op, ty, pos, aft, some (j, w)⟩ (ev fr) σ' R) (h : DA P l c n0 kp bs σ K (i + 1) rest ((t, .mb cc av) :: fr)) : DA P l c n0 kp bs σ K i (⟨some t, op, ty, pos, aft, some (j, w)⟩ :: rest) fr :=
  da_cons hb (fa_q rfl hj hl hgc fun hc => .inl fun σ' => (opw_of (r := some av) (hJ hc σ')).mb hc) h
/-- One that reads what was there ahead. -/
theorem da_l (hb : inN i bs = false) (hm : (kp || memB c n0 i) = true) (hJ : ∀ σ', σ.le σ' → ∀ (R : Option AV → St → Prop), R (some av) σ' → OpJ P ⟨some t, op, ty, pos, aft, none⟩ (ev fr) σ' R) (h : DA P l c n0 kp bs σ K (i + 1) rest ((t, av) :: fr)) : DA P l c n0 kp bs σ K i (⟨some t, op, ty, pos, aft, none⟩ :: rest) fr :=
  da_cons hb (fa_none rfl (.inr ⟨hm, fun σ' hle => opw_of (r := some av) (hJ σ' hle)⟩)) h
theorem da_ly {j u : Nat} {b : Bool} (hb : inN i bs = false) (hm : (kp || memB c n0 i) = true) (hj : dstOf l j = some u) (hl : lk fr u = some (.v (.bool b))) (hJ : ∀ σ', σ.le σ' → ∀ (R : Option AV → St → Prop), R (some av) σ' → OpJ P ⟨some t, op, ty, pos, aft, some (j, b)⟩ (ev fr) σ' R) (h : DA P l c n0 kp bs σ K (i + 1) rest ((t, av) :: fr)) : DA P l c n0 kp bs σ K i (⟨some t, op, ty, pos, aft, some (j, b)⟩ :: rest) fr :=
  da_cons hb (fa_yes rfl hj hl (.inr ⟨hm, fun σ' hle => opw_of (r := some av) (hJ σ' hle)⟩)) h
theorem da_lq {j u : Nat} {w cc : Bool} {b : AV} (hb : inN i bs = false) (hm : (kp || memB c n0 i) = true) (hj : dstOf l j = some u) (hl : lk fr u = some b) (hgc : gc b w = some cc) (hn : Needs cc fr op.operands.toList) (hJ : cc = true → ∀ σ', σ.le σ' → ∀ (R : Option AV → St → Prop), R (some av) σ' → OpJ P ⟨some t, op, ty, pos, aft, some (j, w)⟩ (ev (strip fr)) σ' R) (h : DA P l c n0 kp bs σ K (i + 1) rest ((t, .mb cc av) :: fr)) : DA P l c n0 kp bs σ K i (⟨some t, op, ty, pos, aft, some (j, w)⟩ :: rest) fr :=
  da_cons hb (fa_q rfl hj hl hgc fun hc => .inr ⟨hm, fun σ' hle => (OpW.strip (o := ⟨some t, op, ty, pos, aft, some (j, w)⟩) hn hc (opw_of (r := some av) (hJ hc σ' hle))).mb hc⟩) h
theorem db_nil (h : K2 fr σ) (hi : Nat.beq i l.length = true := by exact rfl) : DB P l kp σb K2 i [] fr σ := fun _ _ => .nil (Nat.eq_of_beq_eq_true hi) h
theorem db_cons {o : Oper} {r : AV} {σ1 : St} (hg : o.guard = none) (hw : OpW P o (ev fr) σ (fun r' σ' => r' = r ∧ σ' = σ1)) (hkp : kp = true → σb.le σ → σb.le σ1) (h : DB P l kp σb K2 (i + 1) rest (put fr o.dst (some r)) σ1) : DB P l kp σb K2 i (o :: rest) fr σ := fun hr hk => by
  obtain ⟨h1, h2, h3⟩ := drop_cons hr
  exact .cons h1 hg hw (fun r' s ⟨e1, e2⟩ hb => by subst e2; exact hkp hb (hk hb)) fun r' s ⟨e1, e2⟩ => by subst e1; subst e2; exact h h2 (fun hb => hkp hb (hk hb))
theorem db_op {o : Oper} {R : AV → St → Prop} (hg : o.guard = none) (hw : OpW P o (ev fr) σ R) (hkp : kp = true → σb.le σ → ∀ r σ1, R r σ1 → σb.le σ1) (h : ∀ r σ1, R r σ1 → DB P l kp σb K2 (i + 1) rest (put fr o.dst (some r)) σ1) : DB P l kp σb K2 i (o :: rest) fr σ := fun hr hk => by
  obtain ⟨h1, h2, h3⟩ := drop_cons hr
  exact .cons h1 hg hw (fun r' s hR hb => hkp hb (hk hb) r' s hR) fun r' s hR => h r' s hR h2 fun hb => hkp hb (hk hb) r' s hR
theorem al_cons {σb : St} {b tt : Nat} {as : List AV} {et : TypeId} {r : List (Nat × Nat × List AV × TypeId)} {as' : List AV} {k : Nat} (h : ∀ id, σ id = none → AllocK (fun F s => DB P l kp σb K2 n0 rest F s) r ((tt, .ptr id k 0 0) :: fr) (σ.set id (.row k et [as']))) (hn : as = as' := by (repeat' (first | exact nf_nil | apply nf_cons | exact nf_v | exact nf_sl | exact nf_osl | exact nf_ptr | exact nf_fp | exact nf_mp | exact nf_fn | exact nf_ifc | exact nf_it | exact nf_mb | exact rfl))) (hs : sizeIs P et = some k := by exact rfl) (hk : as.length = k := by exact rfl) : AllocK (fun F s => DB P l kp σb K2 n0 rest F s) ((b, tt, as, et) :: r) fr σ := by
  subst hn
  subst hk
  exact h
theorem al_nil (h : DB P l kp σb K2 n0 rest fr σ) : AllocK (fun F s => DB P l kp σb K2 n0 rest F s) [] fr σ := h
theorem allocK_mono {K K' : Fr → St → Prop} (h : ∀ F s, K F s → K' F s) : ∀ (A : List (Nat × Nat × List AV × TypeId)) (F : Fr) (s : St), AllocK K A F s → AllocK K' A F s
  | [], F, s, h1 => h F s h1
  | (b, t, as, et) :: r, F, s, h1 => fun id hid => allocK_mono h r _ _ (h1 id hid)
def lateE : List Edge → Bool
  | [] => false
  | e :: r => match e.ground with
    | .gcOnly _ => true
    | .textOnly _ => true
    | _ => lateE r
def lateB : List Oper → Bool
  | [] => false
  | o :: r => match lateE o.after.toList with
    | true => true
    | false => lateB r
/-- A region that draws its order, but for the last part (from n0 on), that goes one by one. -/
theorem cqe (n0 : Nat) (kp : Bool) {rest : List Oper} {id : Nat} {Q : Post} {A : List (Nat × Nat × List AV × TypeId)} (h : DA P l c n0 kp (A.map (·.1)) σ (fun F s => AllocK (fun F s' => DB P l kp s (fun F s => Q .normal F s) n0 rest F s') A F s) 0 l fr) (hA : alO P 0 n0 l [] = some A := by exact rfl) (hr : dropO n0 l = some rest := by exact rfl) (hn1 : Nat.blt n0 l.length = true := by exact rfl) (hmix : P.follows .mixedOrders = true := by kernel_rfl) (hc : clo l [] = c := by exact rfl) (hp : planB l nt c = true := by kernel_rfl) (hch : chainB l c n0 (A.map (·.1)) = true := by kernel_rfl) : CJ P nt (.region id l.toArray true) Q fr σ := by
  have hd := dropO_eq _ _ _ hr
  exact cj_own hmix hc hp hch (Nat.blt_eq.mp hn1) (alO_ok n0 0 l [] A rfl trivial hA) ((h rfl).mono fun F s h2 => allocK_mono (fun F s' h3 hk => h3 hd hk) A F s h2)
/-- A region that draws its order, makes variables and then writes. -/
theorem cqa {id : Nat} {Q : Post} {A : List (Nat × Nat × List AV × TypeId)} (h : DA P l c n0 false (A.map (·.1)) σ (fun F s => AllocK (fun F s' => DB P l false s (fun F s => Q .normal F s) n0 rest F s') A F s) 0 l fr) (hn : fsO 0 l = some n0 := by exact rfl) (hlate : lateB l = false := by exact rfl) (hA : alO P 0 n0 l [] = some A := by exact rfl) (hr : dropO n0 l = some rest := by exact rfl) (hmix : P.follows .mixedOrders = true := by kernel_rfl) (hc : clo l [] = c := by exact rfl) (hp : planB l nt c = true := by kernel_rfl) (hch : chainB l c n0 (A.map (·.1)) = true := by kernel_rfl) : CJ P nt (.region id l.toArray true) Q fr σ := by
  have hd := dropO_eq _ _ _ hr
  exact cj_own hmix hc hp hch (by simpa using fsO_lt 0 l hn) (alO_ok n0 0 l [] A rfl trivial hA) ((h rfl).mono fun F s h2 => allocK_mono (fun F s' h3 hk => h3 hd hk) A F s h2)
theorem cqk {id : Nat} {Q : Post} {A : List (Nat × Nat × List AV × TypeId)} (h : DA P l c n0 true (A.map (·.1)) σ (fun F s => AllocK (fun F s' => DB P l true s (fun F s => Q .normal F s) n0 rest F s') A F s) 0 l fr) (hn : fsO 0 l = some n0 := by exact rfl) (hlate : lateB l = true := by exact rfl) (hA : alO P 0 n0 l [] = some A := by exact rfl) (hr : dropO n0 l = some rest := by exact rfl) (hmix : P.follows .mixedOrders = true := by kernel_rfl) (hc : clo l [] = c := by exact rfl) (hp : planB l nt c = true := by kernel_rfl) (hch : chainB l c n0 (A.map (·.1)) = true := by kernel_rfl) : CJ P nt (.region id l.toArray true) Q fr σ := by
  have hd := dropO_eq _ _ _ hr
  exact cj_own hmix hc hp hch (by simpa using fsO_lt 0 l hn) (alO_ok n0 0 l [] A rfl trivial hA) ((h rfl).mono fun F s h2 => allocK_mono (fun F s' h3 hk => h3 hd hk) A F s h2)
theorem abd {bt : TypeId} {parts : Array (Nat × Operand)} {av0 : AV} (h : DA P l c n0 kp bs σ K (i + 1) rest ((t, av) :: fr)) (hbs : inN i bs = false := by exact rfl) (hv : valOp P fr (.build bt parts) = some av0 := by exact rfl) (hn : av0 = av := by (first | (apply nf_agg; (repeat' (first | exact nf_nil | apply nf_cons | exact nf_v | exact nf_sl | exact nf_osl | exact nf_ptr | exact nf_fp | exact nf_mp | exact nf_fn | exact nf_ifc | exact nf_it | exact nf_mb | exact rfl))) | exact nf_v | exact nf_sl | exact nf_osl | exact nf_ptr | exact nf_fp | exact nf_mp | exact nf_fn | exact nf_ifc | exact nf_it | exact nf_mb | exact rfl)) : DA P l c n0 kp bs σ K i (⟨some t, .build bt parts, ty, pos, aft, none⟩ :: rest) fr := da_v hbs (fun _ R hR => opj_valOp (hn ▸ hv) hR) h
theorem abl {lt : TypeId} {x : Operand} {av0 : AV} (h : DA P l c n0 kp bs σ K (i + 1) rest ((t, av) :: fr)) (hbs : inN i bs = false := by exact rfl) (hv : valOp P fr (.load lt x) = some av0 := by exact rfl) (hn : av0 = av := by (first | (apply nf_agg; (repeat' (first | exact nf_nil | apply nf_cons | exact nf_v | exact nf_sl | exact nf_osl | exact nf_ptr | exact nf_fp | exact nf_mp | exact nf_fn | exact nf_ifc | exact nf_it | exact nf_mb | exact rfl))) | exact nf_v | exact nf_sl | exact nf_osl | exact nf_ptr | exact nf_fp | exact nf_mp | exact nf_fn | exact nf_ifc | exact nf_it | exact nf_mb | exact rfl)) : DA P l c n0 kp bs σ K i (⟨some t, .load lt x, ty, pos, aft, none⟩ :: rest) fr := da_v hbs (fun _ R hR => opj_valOp (hn ▸ hv) hR) h
theorem a1 (h : DA P l c n0 kp bs σ K (i + 1) rest ((t, av) :: fr)) (hbs : inN i bs = false := by exact rfl) (hv : valOp P fr op = some av := by exact rfl) : DA P l c n0 kp bs σ K i (⟨some t, op, ty, pos, aft, none⟩ :: rest) fr := da_v hbs (fun _ R hR => opj_valOp hv hR) h
theorem a2 {j u : Nat} {b : Bool} {a : AV} (h : DA P l c n0 kp bs σ K (i + 1) rest ((t, av) :: fr)) (hbs : inN i bs = false := by exact rfl) (hj : dstOf l j = some u := by exact rfl) (hl : lk fr u = some a := by exact rfl) (hb : a = .v (.bool b) := by with_reducible rfl) (hv : valOp P fr op = some av := by exact rfl) : DA P l c n0 kp bs σ K i (⟨some t, op, ty, pos, aft, some (j, b)⟩ :: rest) fr := da_vy hbs hj (hb ▸ hl) (fun _ R hR => opj_valOp hv hR) h
theorem a3 {j u : Nat} {a : AV} (h : DA P l c n0 kp bs σ K (i + 1) rest ((t, .tup []) :: fr)) (hbs : inN i bs = false := by exact rfl) (hj : dstOf l j = some u := by exact rfl) (hl : lk fr u = some a := by exact rfl) (hb : a = .v (.bool false) := by with_reducible rfl) : DA P l c n0 kp bs σ K i (⟨some t, op, ty, pos, aft, some (j, true)⟩ :: rest) fr := da_n (dst := some t) hbs hj (hb ▸ hl) rfl h
theorem a3f {j u : Nat} {a : AV} (h : DA P l c n0 kp bs σ K (i + 1) rest ((t, .tup []) :: fr)) (hbs : inN i bs = false := by exact rfl) (hj : dstOf l j = some u := by exact rfl) (hl : lk fr u = some a := by exact rfl) (hb : a = .v (.bool true) := by with_reducible rfl) : DA P l c n0 kp bs σ K i (⟨some t, op, ty, pos, aft, some (j, false)⟩ :: rest) fr := da_n (dst := some t) hbs hj (hb ▸ hl) rfl h
theorem a7 {x y z : Operand} {b vy : Bool} (h : DA P l c n0 kp bs σ K (i + 1) rest ((t, .v (.bool (b || vy))) :: fr)) (hbs : inN i bs = false := by exact rfl) (hc : ev fr x = some (.v (.bool b)) := by exact rfl) (hx : ev fr y = some (.v (.bool true)) := by exact rfl) (hy : ev fr z = some (.mb (!b) (.v (.bool vy))) := by exact rfl) : DA P l c n0 kp bs σ K i (⟨some t, .pick x y z, ty, pos, aft, none⟩ :: rest) fr := da_v hbs (fun _ R hR => opj_or rfl hc hx hy hR) h
theorem a8 {x y z : Operand} {b vy : Bool} (h : DA P l c n0 kp bs σ K (i + 1) rest ((t, .v (.bool (b && vy))) :: fr)) (hbs : inN i bs = false := by exact rfl) (hc : ev fr x = some (.v (.bool b)) := by exact rfl) (hx : ev fr y = some (.mb b (.v (.bool vy))) := by exact rfl) (hy : ev fr z = some (.v (.bool false)) := by exact rfl) : DA P l c n0 kp bs σ K i (⟨some t, .pick x y z, ty, pos, aft, none⟩ :: rest) fr := da_v hbs (fun _ R hR => opj_and rfl hc hx hy hR) h
theorem a9 {j u : Nat} {w cc : Bool} {a : AV} (h : DA P l c n0 kp bs σ K (i + 1) rest ((t, .mb cc av) :: fr)) (hbs : inN i bs = false := by exact rfl) (hj : dstOf l j = some u := by exact rfl) (hl : lk fr u = some a := by exact rfl) (hg : gc a w = some cc := by exact rfl) (hv : valOp P (strip fr) op = some av := by exact rfl) (hn : Needs cc fr op.operands.toList := by repeat' (first | exact True.intro | refine And.intro ?_ ?_ | exact nd0 rfl | exact nd1 rfl | exact nd2 rfl | exact nd3 rfl | exact nd4 rfl)) : DA P l c n0 kp bs σ K i (⟨some t, op, ty, pos, aft, some (j, w)⟩ :: rest) fr := da_vq hbs hj hl hg hn (fun _ _ R hR => opj_valOp hv hR) h
theorem a10 {j u : Nat} {w cc : Bool} {a : AV} {x y z : Operand} {b vy : Bool} (h : DA P l c n0 kp bs σ K (i + 1) rest ((t, .mb cc (.v (.bool (b || vy)))) :: fr)) (hbs : inN i bs = false := by exact rfl) (hj : dstOf l j = some u := by exact rfl) (hl : lk fr u = some a := by exact rfl) (hg : gc a w = some cc := by exact rfl) (hc : ev fr x = some (.mb cc (.v (.bool b))) := by exact rfl) (hx : ev fr y = some (.v (.bool true)) := by exact rfl) (hy : ev fr z = some (.mb (cc && !b) (.v (.bool vy))) := by exact rfl) : DA P l c n0 kp bs σ K i (⟨some t, .pick x y z, ty, pos, aft, some (j, w)⟩ :: rest) fr := da_vq0 hbs hj hl hg (fun h σ R hR => opj_orq rfl hc hx hy h hR) h
theorem a11 {j u : Nat} {w cc : Bool} {a : AV} {x y z : Operand} {b vy : Bool} (h : DA P l c n0 kp bs σ K (i + 1) rest ((t, .mb cc (.v (.bool (b && vy)))) :: fr)) (hbs : inN i bs = false := by exact rfl) (hj : dstOf l j = some u := by exact rfl) (hl : lk fr u = some a := by exact rfl) (hg : gc a w = some cc := by exact rfl) (hc : ev fr x = some (.mb cc (.v (.bool b))) := by exact rfl) (hx : ev fr y = some (.mb (cc && b) (.v (.bool vy))) := by exact rfl) (hy : ev fr z = some (.v (.bool false)) := by exact rfl) : DA P l c n0 kp bs σ K i (⟨some t, .pick x y z, ty, pos, aft, some (j, w)⟩ :: rest) fr := da_vq0 hbs hj hl hg (fun h σ R hR => opj_andq rfl hc hx hy h hR) h
theorem a14 {lt : TypeId} {x : Operand} {q : Option Nat} {id sz ii jj : Nat} {elem : TypeId} {els : List (List AV)} {el : List AV} {av0 : AV} (h : DA P l c n0 kp bs σ K (i + 1) rest ((t, av) :: fr)) (hbs : inN i bs = false := by exact rfl) (hx : ev fr x = some (.ptr id sz ii jj) := by exact rfl) (hq : shapeOf P lt = some q := by exact rfl) (hσ : σ id = some (.row sz elem els) := by first | exact St.set_same _ _ _ | assumption | (repeat' (first | exact St.set_same _ _ _ | assumption | refine St.set_keep (by assumption) ?_ | refine St.set_ne2 (by first | assumption | exact St.nn0 (by assumption) | exact St.nn1 (by assumption) | exact St.nn2 (by assumption) | exact St.nn3 (by assumption) | exact St.nn4 (by assumption) | exact St.nn5 (by assumption) | exact St.nn6 (by assumption) | exact St.nn7 (by assumption) | exact St.nn8 (by assumption) | exact St.nn9 (by assumption) | exact St.nn10 (by assumption) | exact St.nn11 (by assumption) | exact St.nn12 (by assumption) | exact St.nn13 (by assumption) | exact Ne.symm (St.nn0 (by assumption)) | exact Ne.symm (St.nn1 (by assumption)) | exact Ne.symm (St.nn2 (by assumption)) | exact Ne.symm (St.nn3 (by assumption)) | exact Ne.symm (St.nn4 (by assumption)) | exact Ne.symm (St.nn5 (by assumption)) | exact Ne.symm (St.nn6 (by assumption)) | exact Ne.symm (St.nn7 (by assumption)) | exact Ne.symm (St.nn8 (by assumption)) | exact Ne.symm (St.nn9 (by assumption)) | exact Ne.symm (St.nn10 (by assumption)) | exact Ne.symm (St.nn11 (by assumption)) | exact Ne.symm (St.nn12 (by assumption)) | exact Ne.symm (St.nn13 (by assumption)) | exact St.ne_ns (by assumption) (by repeat' (first | exact St.sn_of (by assumption) | refine St.setn ?_))) ?_))) (he : els[ii]? = some el := by exact rfl) (hp : load? (el.drop jj) q = some av0 := by exact rfl) (hnn : av0 = av := by (first | (apply nf_agg; (repeat' (first | exact nf_nil | apply nf_cons | exact nf_v | exact nf_sl | exact nf_osl | exact nf_ptr | exact nf_fp | exact nf_mp | exact nf_fn | exact nf_ifc | exact nf_it | exact nf_mb | exact rfl))) | exact nf_v | exact nf_sl | exact nf_osl | exact nf_ptr | exact nf_fp | exact nf_mp | exact nf_fn | exact nf_ifc | exact nf_it | exact nf_mb | exact rfl)) (hm : (kp || memB c n0 i) = true := by first | exact rfl | decide +kernel) : DA P l c n0 kp bs σ K i (⟨some t, .load lt x, ty, pos, aft, none⟩ :: rest) fr := da_l hbs hm (fun _ hle R hR => opj_load_ptr rfl hq hx (hle _ _ hσ) he (hnn ▸ hp) hR) h
theorem a15 {lt : TypeId} {x : Operand} {q : Option Nat} {id sz ii jj : Nat} {elem : TypeId} {els : List (List AV)} {el : List AV} {av0 : AV} {j u : Nat} {b : Bool} {a : AV} (h : DA P l c n0 kp bs σ K (i + 1) rest ((t, av) :: fr)) (hbs : inN i bs = false := by exact rfl) (hj : dstOf l j = some u := by exact rfl) (hl : lk fr u = some a := by exact rfl) (hb : a = .v (.bool b) := by with_reducible rfl) (hx : ev fr x = some (.ptr id sz ii jj) := by exact rfl) (hq : shapeOf P lt = some q := by exact rfl) (hσ : σ id = some (.row sz elem els) := by first | exact St.set_same _ _ _ | assumption | (repeat' (first | exact St.set_same _ _ _ | assumption | refine St.set_keep (by assumption) ?_ | refine St.set_ne2 (by first | assumption | exact St.nn0 (by assumption) | exact St.nn1 (by assumption) | exact St.nn2 (by assumption) | exact St.nn3 (by assumption) | exact St.nn4 (by assumption) | exact St.nn5 (by assumption) | exact St.nn6 (by assumption) | exact St.nn7 (by assumption) | exact St.nn8 (by assumption) | exact St.nn9 (by assumption) | exact St.nn10 (by assumption) | exact St.nn11 (by assumption) | exact St.nn12 (by assumption) | exact St.nn13 (by assumption) | exact Ne.symm (St.nn0 (by assumption)) | exact Ne.symm (St.nn1 (by assumption)) | exact Ne.symm (St.nn2 (by assumption)) | exact Ne.symm (St.nn3 (by assumption)) | exact Ne.symm (St.nn4 (by assumption)) | exact Ne.symm (St.nn5 (by assumption)) | exact Ne.symm (St.nn6 (by assumption)) | exact Ne.symm (St.nn7 (by assumption)) | exact Ne.symm (St.nn8 (by assumption)) | exact Ne.symm (St.nn9 (by assumption)) | exact Ne.symm (St.nn10 (by assumption)) | exact Ne.symm (St.nn11 (by assumption)) | exact Ne.symm (St.nn12 (by assumption)) | exact Ne.symm (St.nn13 (by assumption)) | exact St.ne_ns (by assumption) (by repeat' (first | exact St.sn_of (by assumption) | refine St.setn ?_))) ?_))) (he : els[ii]? = some el := by exact rfl) (hp : load? (el.drop jj) q = some av0 := by exact rfl) (hnn : av0 = av := by (first | (apply nf_agg; (repeat' (first | exact nf_nil | apply nf_cons | exact nf_v | exact nf_sl | exact nf_osl | exact nf_ptr | exact nf_fp | exact nf_mp | exact nf_fn | exact nf_ifc | exact nf_it | exact nf_mb | exact rfl))) | exact nf_v | exact nf_sl | exact nf_osl | exact nf_ptr | exact nf_fp | exact nf_mp | exact nf_fn | exact nf_ifc | exact nf_it | exact nf_mb | exact rfl)) (hm : (kp || memB c n0 i) = true := by first | exact rfl | decide +kernel) : DA P l c n0 kp bs σ K i (⟨some t, .load lt x, ty, pos, aft, some (j, b)⟩ :: rest) fr := da_ly hbs hm hj (hb ▸ hl) (fun _ hle R hR => opj_load_ptr rfl hq hx (hle _ _ hσ) he (hnn ▸ hp) hR) h
theorem a16 {lt : TypeId} {x : Operand} {q : Option Nat} {id sz ii jj : Nat} {elem : TypeId} {els : List (List AV)} {el : List AV} {av0 : AV} {j u : Nat} {w cc : Bool} {a : AV} (h : DA P l c n0 kp bs σ K (i + 1) rest ((t, .mb cc av) :: fr)) (hbs : inN i bs = false := by exact rfl) (hj : dstOf l j = some u := by exact rfl) (hl : lk fr u = some a := by exact rfl) (hg : gc a w = some cc := by exact rfl) (hx : ev (strip fr) x = some (.ptr id sz ii jj) := by exact rfl) (hq : shapeOf P lt = some q := by exact rfl) (hσ : σ id = some (.row sz elem els) := by first | exact St.set_same _ _ _ | assumption | (repeat' (first | exact St.set_same _ _ _ | assumption | refine St.set_keep (by assumption) ?_ | refine St.set_ne2 (by first | assumption | exact St.nn0 (by assumption) | exact St.nn1 (by assumption) | exact St.nn2 (by assumption) | exact St.nn3 (by assumption) | exact St.nn4 (by assumption) | exact St.nn5 (by assumption) | exact St.nn6 (by assumption) | exact St.nn7 (by assumption) | exact St.nn8 (by assumption) | exact St.nn9 (by assumption) | exact St.nn10 (by assumption) | exact St.nn11 (by assumption) | exact St.nn12 (by assumption) | exact St.nn13 (by assumption) | exact Ne.symm (St.nn0 (by assumption)) | exact Ne.symm (St.nn1 (by assumption)) | exact Ne.symm (St.nn2 (by assumption)) | exact Ne.symm (St.nn3 (by assumption)) | exact Ne.symm (St.nn4 (by assumption)) | exact Ne.symm (St.nn5 (by assumption)) | exact Ne.symm (St.nn6 (by assumption)) | exact Ne.symm (St.nn7 (by assumption)) | exact Ne.symm (St.nn8 (by assumption)) | exact Ne.symm (St.nn9 (by assumption)) | exact Ne.symm (St.nn10 (by assumption)) | exact Ne.symm (St.nn11 (by assumption)) | exact Ne.symm (St.nn12 (by assumption)) | exact Ne.symm (St.nn13 (by assumption)) | exact St.ne_ns (by assumption) (by repeat' (first | exact St.sn_of (by assumption) | refine St.setn ?_))) ?_))) (he : els[ii]? = some el := by exact rfl) (hp : load? (el.drop jj) q = some av0 := by exact rfl) (hnn : av0 = av := by (first | (apply nf_agg; (repeat' (first | exact nf_nil | apply nf_cons | exact nf_v | exact nf_sl | exact nf_osl | exact nf_ptr | exact nf_fp | exact nf_mp | exact nf_fn | exact nf_ifc | exact nf_it | exact nf_mb | exact rfl))) | exact nf_v | exact nf_sl | exact nf_osl | exact nf_ptr | exact nf_fp | exact nf_mp | exact nf_fn | exact nf_ifc | exact nf_it | exact nf_mb | exact rfl)) (hm : (kp || memB c n0 i) = true := by first | exact rfl | decide +kernel) (hn : Needs cc fr (Op.load lt x).operands.toList := by repeat' (first | exact True.intro | refine And.intro ?_ ?_ | exact nd0 rfl | exact nd1 rfl | exact nd2 rfl | exact nd3 rfl | exact nd4 rfl)) : DA P l c n0 kp bs σ K i (⟨some t, .load lt x, ty, pos, aft, some (j, w)⟩ :: rest) fr := da_lq hbs hm hj hl hg hn (fun _ _ hle R hR => opj_load_ptr rfl hq hx (hle _ _ hσ) he (hnn ▸ hp) hR) h
theorem a18 {st : TypeId} {x ix : Operand} {s : ByteArray} {kk : IntKind} {n : Int} (h : DA P l c n0 kp bs σ K (i + 1) rest ((t, .v (.int .u8 (sb s n))) :: fr)) (hbs : inN i bs = false := by exact rfl) (ht : P.underlying st = some .string := by exact rfl) (hx : ev fr x = some (.v (.string s)) := by exact rfl) (hi : ev fr ix = some (.v (.int kk n)) := by exact rfl) (h0 : 0 ≤ n := by first | omega | (simp (disch := omega) only [w64, sb_bt, Int.toNat_zero, Int.toNat_one]; omega)) (h1 : n < s.size := by first | omega | (simp (disch := omega) only [w64, sb_bt, Int.toNat_zero, Int.toNat_one]; omega)) : DA P l c n0 kp bs σ K i (⟨some t, .index st x ix, ty, pos, aft, none⟩ :: rest) fr := da_v hbs (fun _ R hR => opj_index_str rfl ht hx hi h0 h1 hR) h
theorem a21 {st : TypeId} {x : Operand} {lo hi : Option Operand} {s : ByteArray} {b k : Int} (h : DA P l c n0 kp bs σ K (i + 1) rest ((t, .v (.string (s.extract b.toNat k.toNat))) :: fr)) (hbs : inN i bs = false := by exact rfl) (ht : P.underlying st = some .string := by exact rfl) (hx : ev fr x = some (.v (.string s)) := by exact rfl) (hlo : bound (ev fr) 0 lo = some b := by exact rfl) (hhi : bound (ev fr) s.size hi = some k := by exact rfl) (h0 : 0 ≤ b := by first | omega | (simp (disch := omega) only [w64, sb_bt, Int.toNat_zero, Int.toNat_one]; omega)) (h1 : b ≤ k := by first | omega | (simp (disch := omega) only [w64, sb_bt, Int.toNat_zero, Int.toNat_one]; omega)) (h2 : k ≤ s.size := by first | omega | (simp (disch := omega) only [w64, sb_bt, Int.toNat_zero, Int.toNat_one]; omega)) : DA P l c n0 kp bs σ K i (⟨some t, .slice st x lo hi none, ty, pos, aft, none⟩ :: rest) fr := da_v hbs (fun _ R hR => opj_slice_str rfl ht hx hlo hhi h0 h1 h2 hR) h
theorem ai1 {it et : TypeId} {x ix : Operand} {nl : Option Bool} {full : Bool} {sz : Nat} {els : List (List AV)} {kk : IntKind} {n : Int} {el : List AV} (h : DA P l c n0 kp bs σ K (i + 1) rest ((t, .fp el) :: fr)) (hbs : inN i bs = false := by exact rfl) (ht : P.underlying it = some (.slice et) := by exact rfl) (hs : sizeIs P et = some sz := by exact rfl) (hx : ev fr x = some (.sl nl full sz els) := by exact rfl) (hi : ev fr ix = some (.v (.int kk n)) := by exact rfl) (h0 : 0 ≤ n := by first | omega | (simp (disch := omega) only [w64, sb_bt, Int.toNat_zero, Int.toNat_one]; omega)) (hel : els[n.toNat]? = some el := by first | assumption | exact rfl) : DA P l c n0 kp bs σ K i (⟨some t, .indexAddr it x ix, ty, pos, aft, none⟩ :: rest) fr := da_v hbs (fun _ R hR => opj_indexAddr_sl rfl ht hs hx hi h0 hel hR) h
theorem ai2 {it et : TypeId} {x ix : Operand} {nl : Option Bool} {full : Bool} {sz : Nat} {els : List (List AV)} {kk : IntKind} {n : Int} {el : List AV} {j u : Nat} {b : Bool} {a : AV} (h : DA P l c n0 kp bs σ K (i + 1) rest ((t, .fp el) :: fr)) (hbs : inN i bs = false := by exact rfl) (hj : dstOf l j = some u := by exact rfl) (hl : lk fr u = some a := by exact rfl) (hb : a = .v (.bool b) := by with_reducible rfl) (ht : P.underlying it = some (.slice et) := by exact rfl) (hs : sizeIs P et = some sz := by exact rfl) (hx : ev fr x = some (.sl nl full sz els) := by exact rfl) (hi : ev fr ix = some (.v (.int kk n)) := by exact rfl) (h0 : 0 ≤ n := by first | omega | (simp (disch := omega) only [w64, sb_bt, Int.toNat_zero, Int.toNat_one]; omega)) (hel : els[n.toNat]? = some el := by first | assumption | exact rfl) : DA P l c n0 kp bs σ K i (⟨some t, .indexAddr it x ix, ty, pos, aft, some (j, b)⟩ :: rest) fr := da_vy hbs hj (hb ▸ hl) (fun _ R hR => opj_indexAddr_sl rfl ht hs hx hi h0 hel hR) h
theorem ai3 {it et : TypeId} {x ix : Operand} {nl : Option Bool} {full : Bool} {sz : Nat} {els : List (List AV)} {kk : IntKind} {n : Int} {el : List AV} {j u : Nat} {w cc : Bool} {a : AV} (h : DA P l c n0 kp bs σ K (i + 1) rest ((t, .mb cc (.fp el)) :: fr)) (hbs : inN i bs = false := by exact rfl) (hj : dstOf l j = some u := by exact rfl) (hl : lk fr u = some a := by exact rfl) (hg : gc a w = some cc := by exact rfl) (ht : P.underlying it = some (.slice et) := by exact rfl) (hs : sizeIs P et = some sz := by exact rfl) (hx : ev (strip fr) x = some (.sl nl full sz els) := by exact rfl) (hi : ev (strip fr) ix = some (.v (.int kk n)) := by exact rfl) (h0 : cc = true → 0 ≤ n := by intro h; first | omega | (simp only [Bool.and_eq_true, decide_eq_true_eq, Bool.not_eq_true', decide_eq_false_iff_not] at h; omega) | (simp only [Bool.and_eq_true, decide_eq_true_eq, Bool.not_eq_true', decide_eq_false_iff_not] at h; simp (disch := omega) only [w64, sb_bt, Int.toNat_zero, Int.toNat_one] at h ⊢; omega)) (hel : cc = true → els[n.toNat]? = some el := by intro h; first | assumption | exact rfl) (hn : Needs cc fr (Op.indexAddr it x ix).operands.toList := by repeat' (first | exact True.intro | refine And.intro ?_ ?_ | exact nd0 rfl | exact nd1 rfl | exact nd2 rfl | exact nd3 rfl | exact nd4 rfl)) : DA P l c n0 kp bs σ K i (⟨some t, .indexAddr it x ix, ty, pos, aft, some (j, w)⟩ :: rest) fr := da_vq hbs hj hl hg hn (fun hc _ R hR => opj_indexAddr_sl rfl ht hs hx hi (h0 hc) (hel hc) hR) h
theorem ai6 {it et : TypeId} {x ix : Operand} {id sz sz' n ii j : Nat} {kk : IntKind} {m : Int} (h : DA P l c n0 kp bs σ K (i + 1) rest ((t, .ptr id sz ii (j + m.toNat * sz')) :: fr)) (hbs : inN i bs = false := by exact rfl) (ht : P.underlying it = some (.array n et) := by exact rfl) (hs : sizeIs P et = some sz' := by exact rfl) (hx : ev fr x = some (.ptr id sz ii j) := by exact rfl) (hi : ev fr ix = some (.v (.int kk m)) := by exact rfl) (h0 : 0 ≤ m := by first | omega | (simp (disch := omega) only [w64, sb_bt, Int.toNat_zero, Int.toNat_one]; omega)) (h1 : m < n := by first | omega | (simp (disch := omega) only [w64, sb_bt, Int.toNat_zero, Int.toNat_one]; omega)) : DA P l c n0 kp bs σ K i (⟨some t, .indexAddr it x ix, ty, pos, aft, none⟩ :: rest) fr := da_v hbs (fun _ R hR => opj_indexAddr_arr rfl ht hs hx hi h0 h1 hR) h
theorem a25 {x y : Operand} {a b : ByteArray} {t1 t2 : TypeId} (h : DA P l c n0 kp bs σ K (i + 1) rest ((t, .v (.string (a ++ b))) :: fr)) (hbs : inN i bs = false := by exact rfl) (hx : ev fr x = some (.v (.string a)) := by exact rfl) (hy : ev fr y = some (.v (.string b)) := by exact rfl) (hb : a.size + b.size ≤ 9223372036854775807 := by (first | omega | (simp only [bsz, ByteArray.size_append, List.length_cons, List.length_nil, List.length_append, Nat.reduceAdd]; omega) | (simp only [bsz, ByteArray.size_append, List.length_cons, List.length_nil, List.length_append, Nat.reduceAdd] at *; omega))) : DA P l c n0 kp bs σ K i (⟨some t, .binOp .add t1 x y t2, ty, pos, aft, none⟩ :: rest) fr := da_v hbs (fun _ R hR => opj_concat rfl hx hy hb hR) h
theorem ai4 {it et : TypeId} {x ix : Operand} {id sz off len : Nat} {kk : IntKind} {n : Int} (h : DA P l c n0 kp bs σ K (i + 1) rest ((t, .ptr id sz (off + n.toNat) 0) :: fr)) (hbs : inN i bs = false := by exact rfl) (ht : P.underlying it = some (.slice et) := by exact rfl) (hs : sizeIs P et = some sz := by exact rfl) (hx : ev fr x = some (.osl id sz off len) := by exact rfl) (hi : ev fr ix = some (.v (.int kk n)) := by exact rfl) (h0 : 0 ≤ n := by first | omega | (simp (disch := omega) only [w64, sb_bt, Int.toNat_zero, Int.toNat_one]; omega)) (h1 : n < len := by first | omega | (simp (disch := omega) only [w64, sb_bt, Int.toNat_zero, Int.toNat_one]; omega)) : DA P l c n0 kp bs σ K i (⟨some t, .indexAddr it x ix, ty, pos, aft, none⟩ :: rest) fr := da_v hbs (fun _ R hR => opj_indexAddr_osl rfl ht hs hx hi h0 h1 hR) h
theorem ap {f : FuncId} {xs : Array Operand} {ts : Array TypeId} {as : List AV} {r : AV} (hp : Pure P f as r) (h : DA P l c n0 kp bs σ K (i + 1) rest ((t, r) :: fr)) (hbs : inN i bs = false := by exact rfl) (has : evs fr xs.toList = some as := by exact rfl) (hent : entered P f = true := by exact rfl) : DA P l c n0 kp bs σ K i (⟨some t, .call { callee := .value (.func f), args := xs, argTypes := ts }, ty, pos, aft, none⟩ :: rest) fr := da_cons hbs (fa_none rfl (.inl fun _ => opw_pure has hent hp)) h
theorem apw {f : FuncId} {xs : Array Operand} {ts : Array TypeId} {as : List AV} {r : AV} {bb : List AV} (hp : Pure P f bb r) (hw : WkL as bb) (h : DA P l c n0 kp bs σ K (i + 1) rest ((t, r) :: fr)) (hbs : inN i bs = false := by exact rfl) (has : evs fr xs.toList = some as := by exact rfl) (hent : entered P f = true := by exact rfl) : DA P l c n0 kp bs σ K i (⟨some t, .call { callee := .value (.func f), args := xs, argTypes := ts }, ty, pos, aft, none⟩ :: rest) fr := da_cons hbs (fa_none rfl (.inl fun _ => opw_pure has hent (hp.wka hw))) h
theorem apy {f : FuncId} {xs : Array Operand} {ts : Array TypeId} {as : List AV} {r : AV} {j u : Nat} {b : Bool} {a : AV} (hp : Pure P f as r) (h : DA P l c n0 kp bs σ K (i + 1) rest ((t, r) :: fr)) (hbs : inN i bs = false := by exact rfl) (hj : dstOf l j = some u := by exact rfl) (hl : lk fr u = some a := by exact rfl) (hb : a = .v (.bool b) := by with_reducible rfl) (has : evs fr xs.toList = some as := by exact rfl) (hent : entered P f = true := by exact rfl) : DA P l c n0 kp bs σ K i (⟨some t, .call { callee := .value (.func f), args := xs, argTypes := ts }, ty, pos, aft, some (j, b)⟩ :: rest) fr := da_cons hbs (fa_yes rfl hj (hb ▸ hl) (.inl fun _ => opw_pure has hent hp)) h
theorem alit {lt et : TypeId} {n sz : Nat} {parts : Array (Nat × Operand)} {zs out : List AV} {qs : List (Nat × AV)} {els : List (List AV)} (h : DA P l c n0 kp bs σ K (i + 1) rest ((t, .sl (some false) true sz els) :: fr)) (hbs : inN i bs = false := by exact rfl) (ht : P.underlying lt = some (.slice et) := by exact rfl) (hs : sizeIs P et = some sz := by exact rfl) (hz : zeroIs P et = some zs := by exact rfl) (hzl : zs.length = sz := by exact rfl) (hpos : Nat.blt 0 sz = true := by exact rfl) (hn : Nat.ble (n * sz) 16777216 = true := by exact rfl) (hq : evParts (ev fr) parts.toList = some qs := by exact rfl) (hf : afill (fun i => some (i * sz, sz)) ((List.replicate n zs).flatten) qs = some out := by exact rfl) (hol : out.length = n * sz := by exact rfl) (hnn : chunk sz n out = els := by (repeat' (first | exact nfl_nil | apply nfl_cons | exact nf_nil | apply nf_cons | exact nf_v | exact nf_sl | exact nf_osl | exact nf_ptr | exact nf_fp | exact nf_mp | exact nf_fn | exact nf_ifc | exact nf_it | exact nf_mb | exact rfl))) : DA P l c n0 kp bs σ K i (⟨some t, .buildSlice lt n parts, ty, pos, aft, none⟩ :: rest) fr := by
  subst hnn
  exact da_v hbs (fun _ R hR => opj_lit rfl ht hs hz hzl (Nat.blt_eq.mp hpos) (Nat.le_of_ble_eq_true hn) hq hf hol hR) h
theorem aapp (by_ : Nat) {lt et : TypeId} {sz : Nat} {x y : Operand} {nl : Option Bool} {full : Bool} {els news : List (List AV)} {ts : Array TypeId} {a : AV} {all : List (List AV)} (h : DA P l c n0 kp bs σ K (i + 1) rest ((t, .sl none false sz all) :: fr)) (hbs : inN i bs = false := by exact rfl) (hts : ts = #[lt, lt] := by exact rfl) (ht : P.underlying lt = some (.slice et) := by exact rfl) (hsz : sizeIs P et = some sz := by exact rfl) (hz : (zeroIs P et).map (·.length) = some sz := by exact rfl) (hpos : Nat.blt 0 sz = true := by exact rfl) (hby : bytesIs P et = some by_ := by exact rfl) (hb1 : Nat.blt 0 by_ = true := by exact rfl) (hx : ev fr x = some (.sl nl full sz els) := by exact rfl) (hfull : full = true ∨ nl = some true := by first | exact .inl rfl | exact .inr rfl) (hy : ev fr y = some a := by exact rfl) (hs : ∀ σ', srcOf σ' a = some (sz, news) := by exact fun _ => rfl) (hb : (els.length + news.length) * by_ ≤ 140737488355328 := by first | omega | (simp only [length_bys, length_chunk, List.length_nil, List.length_cons, List.length_map, Nat.mul_one]; omega)) (hall : els ++ news = all := by (first | exact List.nil_append _ | exact rfl)) : DA P l c n0 kp bs σ K i (⟨some t, .call { callee := .builtin .append, args := #[x, y], argTypes := ts }, ty, pos, aft, none⟩ :: rest) fr := by
  subst hall
  exact da_v hbs (fun σ' R hR => OpJ.weak (opj_append_sl rfl hts (elem_of ht hsz hz hpos) hby hx hfull hy (hs σ') hb (Nat.blt_eq.mp hb1) (fun h0 => ⟨rfl, _, rfl, by rw [h0, List.append_nil]; exact Wk.sl _ _ _ _⟩) (fun _ => ⟨rfl, _, rfl, Wk.sl _ _ _ _⟩)) hR) h
theorem aown (by_ : Nat) {lt et : TypeId} {sz : Nat} {x y : Operand} {nl : Option Bool} {full : Bool} {els news : List (List AV)} {ts : Array TypeId} {a : AV} {all : List (List AV)} {n : Nat} (h : ∀ id, σ id = none → DA P l c n0 kp bs (σ.set id (.row sz et all)) K (i + 1) rest ((t, .osl id sz 0 n) :: fr)) (hne : news ≠ []) (hbs : inN i bs = false := by exact rfl) (hts : ts = #[lt, lt] := by exact rfl) (ht : P.underlying lt = some (.slice et) := by exact rfl) (hsz : sizeIs P et = some sz := by exact rfl) (hz : (zeroIs P et).map (·.length) = some sz := by exact rfl) (hpos : Nat.blt 0 sz = true := by exact rfl) (hby : bytesIs P et = some by_ := by exact rfl) (hb1 : Nat.blt 0 by_ = true := by exact rfl) (hx : ev fr x = some (.sl nl full sz els) := by exact rfl) (hfull : full = true ∨ nl = some true := by first | exact .inl rfl | exact .inr rfl) (hy : ev fr y = some a := by exact rfl) (hs : ∀ σ', srcOf σ' a = some (sz, news) := by exact fun _ => rfl) (hb : (els.length + news.length) * by_ ≤ 140737488355328 := by first | omega | (simp only [length_bys, length_chunk, List.length_nil, List.length_cons, List.length_map, Nat.mul_one]; omega)) (hall : els ++ news = all := by (first | exact List.nil_append _ | exact rfl)) (hlen : els.length + news.length = n := by (first | exact Nat.zero_add _ | exact rfl)) (hp : Nat.blt i n0 = true := by exact rfl) (hd : behindB l c bs i = true := by kernel_rfl) : DA P l c n0 kp bs σ K i (⟨some t, .call { callee := .builtin .append, args := #[x, y], argTypes := ts }, ty, pos, aft, none⟩ :: rest) fr := by
  subst hall
  subst hlen
  exact da_own hbs rfl hp hd (rr := fun id => .osl id sz 0 (els.length + news.length)) (ownK_of fun σ' _ R hR => opj_append_new rfl hts (elem_of ht hsz hz hpos) hby hx hfull hy (hs σ') hne hb (Nat.blt_eq.mp hb1) hR) h
theorem bbd {bt : TypeId} {parts : Array (Nat × Operand)} {av0 : AV} (h : DB P l kp σb K2 (i + 1) rest ((t, av) :: fr) σ) (hv : valOp P fr (.build bt parts) = some av0 := by exact rfl) (hn : av0 = av := by (first | (apply nf_agg; (repeat' (first | exact nf_nil | apply nf_cons | exact nf_v | exact nf_sl | exact nf_osl | exact nf_ptr | exact nf_fp | exact nf_mp | exact nf_fn | exact nf_ifc | exact nf_it | exact nf_mb | exact rfl))) | exact nf_v | exact nf_sl | exact nf_osl | exact nf_ptr | exact nf_fp | exact nf_mp | exact nf_fn | exact nf_ifc | exact nf_it | exact nf_mb | exact rfl)) : DB P l kp σb K2 i (⟨some t, .build bt parts, ty, pos, aft, none⟩ :: rest) fr σ := db_cons rfl (opw_of (r := some av) fun R hR => opj_valOp (hn ▸ hv) hR) (fun _ h => h) h
theorem bbl {lt : TypeId} {x : Operand} {av0 : AV} (h : DB P l kp σb K2 (i + 1) rest ((t, av) :: fr) σ) (hv : valOp P fr (.load lt x) = some av0 := by exact rfl) (hn : av0 = av := by (first | (apply nf_agg; (repeat' (first | exact nf_nil | apply nf_cons | exact nf_v | exact nf_sl | exact nf_osl | exact nf_ptr | exact nf_fp | exact nf_mp | exact nf_fn | exact nf_ifc | exact nf_it | exact nf_mb | exact rfl))) | exact nf_v | exact nf_sl | exact nf_osl | exact nf_ptr | exact nf_fp | exact nf_mp | exact nf_fn | exact nf_ifc | exact nf_it | exact nf_mb | exact rfl)) : DB P l kp σb K2 i (⟨some t, .load lt x, ty, pos, aft, none⟩ :: rest) fr σ := db_cons rfl (opw_of (r := some av) fun R hR => opj_valOp (hn ▸ hv) hR) (fun _ h => h) h
theorem b1 (h : DB P l kp σb K2 (i + 1) rest ((t, av) :: fr) σ) (hv : valOp P fr op = some av := by exact rfl) : DB P l kp σb K2 i (⟨some t, op, ty, pos, aft, none⟩ :: rest) fr σ := db_cons rfl (opw_of (r := some av) fun R hR => opj_valOp hv hR) (fun _ h => h) h
theorem b14 {lt : TypeId} {x : Operand} {q : Option Nat} {id sz ii jj : Nat} {elem : TypeId} {els : List (List AV)} {el : List AV} {av0 : AV} (h : DB P l kp σb K2 (i + 1) rest ((t, av) :: fr) σ) (hx : ev fr x = some (.ptr id sz ii jj) := by exact rfl) (hq : shapeOf P lt = some q := by exact rfl) (hσ : σ id = some (.row sz elem els) := by first | exact St.set_same _ _ _ | assumption | (repeat' (first | exact St.set_same _ _ _ | assumption | refine St.set_keep (by assumption) ?_ | refine St.set_ne2 (by first | assumption | exact St.nn0 (by assumption) | exact St.nn1 (by assumption) | exact St.nn2 (by assumption) | exact St.nn3 (by assumption) | exact St.nn4 (by assumption) | exact St.nn5 (by assumption) | exact St.nn6 (by assumption) | exact St.nn7 (by assumption) | exact St.nn8 (by assumption) | exact St.nn9 (by assumption) | exact St.nn10 (by assumption) | exact St.nn11 (by assumption) | exact St.nn12 (by assumption) | exact St.nn13 (by assumption) | exact Ne.symm (St.nn0 (by assumption)) | exact Ne.symm (St.nn1 (by assumption)) | exact Ne.symm (St.nn2 (by assumption)) | exact Ne.symm (St.nn3 (by assumption)) | exact Ne.symm (St.nn4 (by assumption)) | exact Ne.symm (St.nn5 (by assumption)) | exact Ne.symm (St.nn6 (by assumption)) | exact Ne.symm (St.nn7 (by assumption)) | exact Ne.symm (St.nn8 (by assumption)) | exact Ne.symm (St.nn9 (by assumption)) | exact Ne.symm (St.nn10 (by assumption)) | exact Ne.symm (St.nn11 (by assumption)) | exact Ne.symm (St.nn12 (by assumption)) | exact Ne.symm (St.nn13 (by assumption)) | exact St.ne_ns (by assumption) (by repeat' (first | exact St.sn_of (by assumption) | refine St.setn ?_))) ?_))) (he : els[ii]? = some el := by exact rfl) (hp : load? (el.drop jj) q = some av0 := by exact rfl) (hnn : av0 = av := by (first | (apply nf_agg; (repeat' (first | exact nf_nil | apply nf_cons | exact nf_v | exact nf_sl | exact nf_osl | exact nf_ptr | exact nf_fp | exact nf_mp | exact nf_fn | exact nf_ifc | exact nf_it | exact nf_mb | exact rfl))) | exact nf_v | exact nf_sl | exact nf_osl | exact nf_ptr | exact nf_fp | exact nf_mp | exact nf_fn | exact nf_ifc | exact nf_it | exact nf_mb | exact rfl)) : DB P l kp σb K2 i (⟨some t, .load lt x, ty, pos, aft, none⟩ :: rest) fr σ := db_cons rfl (opw_of (r := some av) fun R hR => opj_load_ptr rfl hq hx hσ he (hnn ▸ hp) hR) (fun _ h => h) h
theorem b17 {st elem : TypeId} {x y : Operand} {id sz ii jj k : Nat} {els : List (List AV)} {el cs nel : List AV} {els' : List (List AV)} {a : AV} (h : DB P l kp σb K2 (i + 1) rest fr (σ.set id (.row sz elem els'))) (hx : ev fr x = some (.ptr id sz ii jj) := by exact rfl) (hy : ev fr y = some a := by exact rfl) (hm : sizeIs P st = some k := by exact rfl) (hσ : σ id = some (.row sz elem els) := by first | exact St.set_same _ _ _ | assumption | (repeat' (first | exact St.set_same _ _ _ | assumption | refine St.set_keep (by assumption) ?_ | refine St.set_ne2 (by first | assumption | exact St.nn0 (by assumption) | exact St.nn1 (by assumption) | exact St.nn2 (by assumption) | exact St.nn3 (by assumption) | exact St.nn4 (by assumption) | exact St.nn5 (by assumption) | exact St.nn6 (by assumption) | exact St.nn7 (by assumption) | exact St.nn8 (by assumption) | exact St.nn9 (by assumption) | exact St.nn10 (by assumption) | exact St.nn11 (by assumption) | exact St.nn12 (by assumption) | exact St.nn13 (by assumption) | exact Ne.symm (St.nn0 (by assumption)) | exact Ne.symm (St.nn1 (by assumption)) | exact Ne.symm (St.nn2 (by assumption)) | exact Ne.symm (St.nn3 (by assumption)) | exact Ne.symm (St.nn4 (by assumption)) | exact Ne.symm (St.nn5 (by assumption)) | exact Ne.symm (St.nn6 (by assumption)) | exact Ne.symm (St.nn7 (by assumption)) | exact Ne.symm (St.nn8 (by assumption)) | exact Ne.symm (St.nn9 (by assumption)) | exact Ne.symm (St.nn10 (by assumption)) | exact Ne.symm (St.nn11 (by assumption)) | exact Ne.symm (St.nn12 (by assumption)) | exact Ne.symm (St.nn13 (by assumption)) | exact St.ne_ns (by assumption) (by repeat' (first | exact St.sn_of (by assumption) | refine St.setn ?_))) ?_))) (he : els[ii]? = some el := by exact rfl) (hc : cellsOf a = some cs := by exact rfl) (hl : cs.length = k := by exact rfl) (hj : Nat.ble (jj + cs.length) el.length = true := by exact rfl) (hn1 : el.take jj ++ cs ++ el.drop (jj + cs.length) = nel := by (repeat' (first | exact nf_nil | apply nf_cons | exact nf_v | exact nf_sl | exact nf_osl | exact nf_ptr | exact nf_fp | exact nf_mp | exact nf_fn | exact nf_ifc | exact nf_it | exact nf_mb | exact rfl))) (hn2 : els.set ii nel = els' := by (first | exact nf_set0 | exact rfl)) (hkp : kp = true → σb.le σ → σb.le (σ.set id (.row sz elem els')) := by first | (intro h; cases h; done) | (intro _ h; exact St.le_any h)) : DB P l kp σb K2 i (⟨none, .store st x y, ty, pos, aft, none⟩ :: rest) fr σ := by
  subst hn1
  subst hn2
  exact db_cons (r := .tup []) rfl (opw_of (r := none) fun R hR => opj_store rfl hm hx hy hσ he hc hl (Nat.le_of_ble_eq_true hj) hR) hkp h
theorem b17t {st elem : TypeId} {x y : Operand} {id sz ii jj k : Nat} {els : List (List AV)} {el cs nel : List AV} {els' : List (List AV)} {a : AV} (h : DB P l kp σb K2 (i + 1) rest fr (σ.set id (.row sz elem els'))) (hx : ev fr x = some (.ptr id sz ii jj) := by exact rfl) (hy : ev fr y = some a := by exact rfl) (hm : sizeIs P st = some k := by exact rfl) (he : els[ii]? = some el := by exact rfl) (hc : cellsOf a = some cs := by exact rfl) (hl : cs.length = k := by exact rfl) (hj : Nat.ble (jj + cs.length) el.length = true := by exact rfl) (hn1 : el.take jj ++ cs ++ el.drop (jj + cs.length) = nel := by (repeat' (first | exact nf_nil | apply nf_cons | exact nf_v | exact nf_sl | exact nf_osl | exact nf_ptr | exact nf_fp | exact nf_mp | exact nf_fn | exact nf_ifc | exact nf_it | exact nf_mb | exact rfl))) (hn2 : els.set ii nel = els' := by (first | exact nf_set0 | exact rfl)) (hkp : kp = true → σb.le (σ.set id (.row sz elem els)) → σb.le (σ.set id (.row sz elem els')) := by first | (intro h; cases h; done) | (intro _ h; exact St.le_reset h)) : DB P l kp σb K2 i (⟨none, .store st x y, ty, pos, aft, none⟩ :: rest) fr (σ.set id (.row sz elem els)) := by
  subst hn1
  subst hn2
  rw [← St.set_set σ id (.row sz elem els)] at h
  exact db_cons (r := .tup []) rfl (opw_of (r := none) fun R hR => opj_store rfl hm hx hy (St.set_same _ _ _) he hc hl (Nat.le_of_ble_eq_true hj) hR) (fun hb hh => by rw [St.set_set]; exact hkp hb hh) h
theorem bcall {f : FuncId} {xs : Array Operand} {ts : Array TypeId} {as : List AV} {C : AEnd → St → Prop} (hp : ACalls P f as σ C) (h : ∀ r σ', C (.ret r) σ' → DB P l kp σb K2 (i + 1) rest ((t, r) :: fr) σ') (hnp : ∀ x σ', ¬ C (.panic x) σ') (hkp : kp = true → σb.le σ → ∀ r σ1, C (.ret r) σ1 → σb.le σ1 := by intro h; cases h) (has : evs fr xs.toList = some as := by exact rfl) (hent : entered P f = true := by exact rfl) : DB P l kp σb K2 i (⟨some t, .call { callee := .value (.func f), args := xs, argTypes := ts }, ty, pos, aft, none⟩ :: rest) fr σ := db_op rfl (OpW.of_calls (R := fun r σ' => C (.ret r) σ') has hent hp (fun e σ' he => by
  cases e with
  | ret r => exact ⟨r, rfl, he⟩
  | panic x => exact absurd he (hnp x σ'))) hkp h
theorem b25 {x y : Operand} {a b : ByteArray} {t1 t2 : TypeId} (h : DB P l kp σb K2 (i + 1) rest ((t, .v (.string (a ++ b))) :: fr) σ) (hx : ev fr x = some (.v (.string a)) := by exact rfl) (hy : ev fr y = some (.v (.string b)) := by exact rfl) (hb : a.size + b.size ≤ 9223372036854775807 := by (first | omega | (simp only [bsz, ByteArray.size_append, List.length_cons, List.length_nil, List.length_append, Nat.reduceAdd]; omega) | (simp only [bsz, ByteArray.size_append, List.length_cons, List.length_nil, List.length_append, Nat.reduceAdd] at *; omega))) : DB P l kp σb K2 i (⟨some t, .binOp .add t1 x y t2, ty, pos, aft, none⟩ :: rest) fr σ := db_cons rfl (opw_of (r := some _) fun R hR => opj_concat rfl hx hy hb hR) (fun _ h => h) h
end
end Go.Proofs.YtbpoeggmpjepfaaDoor.Ab

/- Abstract values over the model's memory: calls that hand on a row of their own, and loops that turn one. -/
set_option linter.unusedVariables false
set_option linter.unusedSimpArgs false
set_option maxRecDepth 20000
namespace Go.Proofs.YtbpoeggmpjepfaaDoor.Ab
open Go
theorem acalls_gives_ex {P : Program} {α : Type} {C : α → Prop} {S : α → St} {r : α → AV} {f : FuncId} {args : List AV} {σ0 : St} (h : ACalls P f args σ0 (fun e σ' => ∃ x, C x ∧ Gives (S x) (r x) e σ')) : ACalls P f args σ0 (fun e σ' => ∃ x, C x ∧ e = .ret (r x) ∧ σ' = S x) := fun k vs hσ hk hv =>
  (h k vs hσ hk hv).mono fun e w' ⟨k', e', h1, h2, h3, h4, x, hx, r0, h5, h6, h7⟩ => by
    subst h5
    cases e with
    | returned v =>
      obtain ⟨h8, h9⟩ := h2.forget h6
      exact ⟨{ k' with σ := S x }, .ret (r x), h1, h8, h3.trans h9, h7.rep h2 rfl h6 h4, x, hx, rfl, rfl⟩
    | panicked ch => exact h4.elim
    | outgrown => exact h4.elim
/-- Less or the same, but for one object. -/
def St.leX (id : Nat) (σ τ : St) : Prop := ∀ y, y ≠ id → ∀ v, σ y = some v → τ y = some v
theorem St.leX_refl (id : Nat) (σ : St) : St.leX id σ σ := fun _ _ _ h => h
theorem St.leX_of {id : Nat} {σ τ : St} (h : σ.le τ) : St.leX id σ τ := fun y _ v hv => h y v hv
theorem St.leX_same {id : Nat} {σ τ : St} {o : AObj} (h : St.leX id σ τ) : St.leX id σ (τ.set id o) := fun y hy v hv => by rw [St.set_ne _ _ _ hy]; exact h y hy v hv
theorem St.leX_any {id : Nat} {σ τ : St} {a : Nat} {x : AObj} (h : St.leX id σ τ) (ha : σ a = none := by first | assumption | exact St.ns1 (by assumption) | exact St.ns2 (by assumption) | exact St.ns3 (by assumption) | exact St.ns4 (by assumption) | exact St.ns5 (by assumption) | exact St.ns6 (by assumption) | exact St.ns7 (by assumption) | exact St.ns8 (by assumption) | exact St.ns9 (by assumption) | exact St.ns10 (by assumption) | exact St.ns11 (by assumption) | exact St.ns12 (by assumption) | exact St.ns13 (by assumption) | exact St.ns14 (by assumption) | exact St.ns10 (by assumption) | exact St.ns11 (by assumption) | exact St.ns12 (by assumption) | exact St.ns13 (by assumption) | exact St.ns14 (by assumption)) : St.leX id σ (τ.set a x) := fun y hy v hv => by
  by_cases hya : y = a
  · subst hya; rw [ha] at hv; cases hv
  · rw [St.set_ne _ _ _ hya]; exact h y hy v hv
theorem St.le_set2 {id : Nat} {σ τ : St} {o : AObj} (h : St.leX id σ τ) (ht : τ id = some o) : (σ.set id o).le τ := fun y v hv => by
  by_cases hy : y = id
  · subst hy; rw [St.set_same] at hv; rw [ht]; exact hv
  · rw [St.set_ne _ _ _ hy] at hv; exact h y hy v hv
section
variable {P : Program} {nt : Nat} {ops : Array Oper} {Q : Post} {fr : Fr} {σ : St} {c : Code}
/-- A loop that turns one object. -/
theorem cj_forr {α : Type} (I : α → Prop) (C : α → Fr) (m : α → Nat) (s0 : α) (id : Nat) (row : α → AObj) {kf : Fr} (hid : σ id = some (row s0)) (hI : I s0) (hC : SubW (C s0) fr)
    (hr : ∀ s, I s → CJ P nt c (thn Q (fun fr' σ' => ∃ s', I s' ∧ m s' < m s ∧ SubW (C s') fr' ∧ Sub kf fr' ∧ (σ.set id (row s')).le σ')) (C s ++ kf) (σ.set id (row s))) (hk : keepK (dstC c []) fr [] = some kf := by exact rfl) : CJ P nt (.loop c) Q fr σ :=
  cj_for I C (fun s => σ.set id (row s)) m s0 hI hC (by
    intro y v hv
    by_cases hy : y = id
    · subst hy; rw [St.set_same] at hv; rw [hid]; exact hv
    · rw [St.set_ne _ _ _ hy] at hv; exact hv) hr hk
/-- The end of such a round. -/
theorem nx_forr {α : Type} {I : α → Prop} {C : α → Fr} {m : α → Nat} {row : α → AObj} {k id : Nat} {kf : Fr} {σ0 : St} (s' : α) (hI : I s') (hm : m s' < k) (hC : SubW (C s') fr) (hrow : σ id = some (row s')) (hk : Sub kf fr := by repeat' (first | exact True.intro | refine And.intro rfl ?_)) (hle : St.leX id σ0 σ := by repeat' (first | exact St.leX_refl _ _ | refine St.leX_same ?_ | refine St.leX_any ?_)) :
    thn Q (fun fr' σ' => ∃ s', I s' ∧ m s' < k ∧ SubW (C s') fr' ∧ Sub kf fr' ∧ (σ0.set id (row s')).le σ') .normal fr σ := nx_thn ⟨s', hI, hm, hC, hk, St.le_set2 hle hrow⟩
end
section
variable {P : Program} {nt : Nat} {ops : Array Oper} {Q : Post} {fr : Fr} {σ : St} {c : Code}
/-- The store under a new name. -/
theorem cj_name (h : ∀ τ, τ = σ → CJ P nt c Q fr τ) : CJ P nt c Q fr σ := h σ rfl
theorem lj_name {l : List Oper} (h : ∀ τ, τ = σ → LJ P nt ops Q l fr τ) : LJ P nt ops Q l fr σ := h σ rfl
end
theorem St.leX_trans {id : Nat} {a b c : St} (h : St.leX id a b) (k : St.leX id b c) : St.leX id a c := fun y hy v hv => k y hy v (h y hy v hv)
theorem St.leX_le {id : Nat} {σ τ : St} (h : St.leX id σ τ) (h0 : σ id = none) : σ.le τ := fun y v hv => by
  by_cases hy : y = id
  · subst hy; rw [h0] at hv; cases hv
  · exact h y hy v hv
theorem St.none_X {w x : Nat} {σ τ : St} (hX : St.leX w σ τ) (h0 : σ w = none) (h : τ x = none) : σ x = none := by
  cases hs : σ x with
  | none => rfl
  | some v =>
    by_cases hx : x = w
    · subst hx; rw [h0] at hs; cases hs
    · rw [hX x hx v hs] at h; cases h
section
variable {P : Program} {nt : Nat} {ops : Array Oper} {Q : Post} {fr : Fr} {σ : St} {c : Code} {id sz i j : Nat}
/-- The name of what a slot points to. -/
theorem cj_id (t : Nat) (h : ∀ b, b = id → CJ P nt c Q fr σ) (ht : lk fr t = some (.ptr id sz i j) := by exact rfl) : CJ P nt c Q fr σ := h id rfl
theorem cj_ido (t : Nat) (h : ∀ b, b = id → CJ P nt c Q fr σ) (ht : lk fr t = some (.osl id sz i j) := by exact rfl) : CJ P nt c Q fr σ := h id rfl
theorem lj_id {l : List Oper} (t : Nat) (h : ∀ b, b = id → LJ P nt ops Q l fr σ) (ht : lk fr t = some (.ptr id sz i j) := by exact rfl) : LJ P nt ops Q l fr σ := h id rfl
theorem lj_ido {l : List Oper} (t : Nat) (h : ∀ b, b = id → LJ P nt ops Q l fr σ) (ht : lk fr t = some (.osl id sz i j) := by exact rfl) : LJ P nt ops Q l fr σ := h id rfl
end
/-! ### The end of a call, by its shape -/
def FinL (σ σ' : St) : List AV → List AV → Prop
  | [], [] => True
  | a :: as, b :: bs => Fin σ σ' a b ∧ FinL σ σ' as bs
  | _, _ => False
theorem FinL.get {σ σ' : St} : ∀ {as bs : List AV}, FinL σ σ' as bs → as.length = bs.length ∧ ∀ (j : Nat) a b, as[j]? = some a → bs[j]? = some b → Fin σ σ' a b
  | [], [], _ => ⟨rfl, fun j a b h => by simp at h⟩
  | a :: as, b :: bs, h => by
    obtain ⟨h1, h2⟩ := FinL.get h.2
    refine ⟨by rw [List.length_cons, List.length_cons, h1], fun j x y hx hy => ?_⟩
    cases j with
    | zero => cases hx; cases hy; exact h.1
    | succ j => exact h2 j x y hx hy
theorem finl_nil {σ σ' : St} : FinL σ σ' [] [] := trivial
theorem finl_cons {σ σ' : St} {a b : AV} {as bs : List AV} (h : Fin σ σ' a b) (h' : FinL σ σ' as bs) : FinL σ σ' (a :: as) (b :: bs) := ⟨h, h'⟩
theorem fin_agg {σ σ' : St} {as bs : List AV} (h : FinL σ σ' as bs) : Fin σ σ' (.agg as) (.agg bs) := .agg h.get.1 h.get.2
theorem fin_tup {σ σ' : St} {as bs : List AV} (h : FinL σ σ' as bs) : Fin σ σ' (.tup as) (.tup bs) := .tup h.get.1 h.get.2
theorem fin_pk2 {σ σ' : St} {a b : AV} {bs : List AV} (h : FinL σ σ' [a, b] bs) : Fin σ σ' (packed [a, b]) (.tup bs) := fin_tup h
theorem fin_pk3 {σ σ' : St} {a b c : AV} {bs : List AV} (h : FinL σ σ' [a, b, c] bs) : Fin σ σ' (packed [a, b, c]) (.tup bs) := fin_tup h
theorem fin_eq {σ σ' : St} {a b : AV} (h : a = b) : Fin σ σ' a b := h ▸ Fin.refl _ _ _
theorem fin_sl {σ σ' : St} {nl : Option Bool} {full : Bool} {sz : Nat} {els els' : List (List AV)} (h : els = els') : Fin σ σ' (.sl nl full sz els) (.sl none false sz els') := h ▸ .wk (Wk.sl _ _ _ _)
theorem fin_nil {σ σ' : St} {nl : Option Bool} {full : Bool} {sz sz' : Nat} : Fin σ σ' (.sl nl full sz []) (.sl none false sz' []) := .wk (Wk.nil _ _ _ _)
/-- A row of our own that nobody writes any more. -/
theorem fin_fz {α : Type} {σ σ' : St} {id sz len : Nat} {et : TypeId} {l : List α} {f : α → List AV} (h1 : σ' id = some (.row sz et (l.map f))) (h2 : σ id = none) (hl : len = (l.map f).length) (h4 : Nat.blt 0 sz = true) (h6 : ∀ x, (f x).length = sz) : Fin σ σ' (.osl id sz 0 len) (.sl none false sz (l.map f)) := by
  have := Fin.fz0 (σ := σ) (off := 0) (len := len) h1 h2 (by omega) (Nat.blt_eq.mp h4) (fun i e h => by
    rw [List.getElem?_map] at h
    cases hx : l[i]? with
    | none => rw [hx] at h; cases h
    | some x => rw [hx] at h; cases h; exact h6 x)
  rwa [List.drop_zero, hl, List.take_length, ← hl] at this
/-- All of a store that is kept, and one object more. -/
theorem St.le_setk {σ τ : St} {id : Nat} {o : AObj} (h : σ.le τ) (ht : τ id = some o) : (σ.set id o).le τ := fun y v hv => by
  by_cases hy : y = id
  · subst hy; rw [St.set_same] at hv; rw [ht]; exact hv
  · rw [St.set_ne _ _ _ hy] at hv; exact h y v hv
section
variable {P : Program} {nt : Nat} {ops : Array Oper} {Q : Post} {fr : Fr} {σ : St} {rest : List Oper} {t : Tmp} {ty : TypeId} {pos : String} {aft : Array Edge}
/-- A slice is made, and written no more; and one of our own. -/
theorem jmko {it et : TypeId} {sz by_ : Nat} {zs zs' : List AV} {x y : Operand} {kl kc : IntKind} {n c : Int} (h : ∀ id, σ id = none → LJ P nt ops Q rest ((t, .osl id sz 0 n.toNat) :: fr) (σ.set id (.row sz et (List.replicate n.toNat zs')))) (ht : P.underlying it = some (.slice et) := by exact rfl) (hsz : sizeIs P et = some sz := by exact rfl) (hz : zeroIs P et = some zs := by exact rfl) (hzl : zs.length = sz := by exact rfl) (hpos : Nat.blt 0 sz = true := by exact rfl) (hby : bytesIs P et = some by_ := by exact rfl) (hb1 : Nat.blt 0 by_ = true := by exact rfl) (hx : ev fr x = some (.v (.int kl n)) := by exact rfl) (hy : ev fr y = some (.v (.int kc c)) := by exact rfl) (hnn : zs = zs' := by (repeat' (first | exact nf_nil | apply nf_cons | exact nf_v | exact nf_sl | exact nf_osl | exact nf_ptr | exact nf_fp | exact nf_mp | exact nf_fn | exact nf_ifc | exact nf_it | exact nf_mb | exact rfl))) (hd : fits nt (some t) = true := by exact rfl) (h0 : 0 ≤ n := by first | omega | (simp (disch := omega) only [w64, sb_bt, Int.toNat_zero, Int.toNat_one, List.length_map]; omega)) (h1 : n ≤ c := by first | omega | (simp (disch := omega) only [w64, sb_bt, Int.toNat_zero, Int.toNat_one, List.length_map]; omega)) (hble : Nat.ble by_ 1024 = true := by exact rfl) (hb : 1024 * c ≤ 281474976710656 := by first | omega | (simp (disch := omega) only [w64, sb_bt, Int.toNat_zero, Int.toNat_one, List.length_map]; omega)) :
    LJ P nt ops Q (⟨some t, .makeSlice it x y, ty, pos, aft, none⟩ :: rest) fr σ := by
  subst hnn
  exact lj_f hd (fun R hR => opj_make rfl ⟨ht, hsz, by rw [hz]; exact congrArg some hzl, Nat.blt_eq.mp hpos⟩ hby hz hx hy h0 h1 (by
    have h9 : (by_ : Int) ≤ 1024 := by have := Nat.le_of_ble_eq_true hble; omega
    have := Int.mul_le_mul_of_nonneg_right h9 (show 0 ≤ c by omega)
    omega) (Nat.blt_eq.mp hb1) hR) h
theorem jmk {it et : TypeId} {sz by_ : Nat} {zs zs' : List AV} {x y : Operand} {kl kc : IntKind} {n c : Int} (h : LJ P nt ops Q rest ((t, .sl none false sz (List.replicate n.toNat zs')) :: fr) σ) (ht : P.underlying it = some (.slice et) := by exact rfl) (hsz : sizeIs P et = some sz := by exact rfl) (hz : zeroIs P et = some zs := by exact rfl) (hzl : zs.length = sz := by exact rfl) (hpos : Nat.blt 0 sz = true := by exact rfl) (hby : bytesIs P et = some by_ := by exact rfl) (hb1 : Nat.blt 0 by_ = true := by exact rfl) (hx : ev fr x = some (.v (.int kl n)) := by exact rfl) (hy : ev fr y = some (.v (.int kc c)) := by exact rfl) (hnn : zs = zs' := by (repeat' (first | exact nf_nil | apply nf_cons | exact nf_v | exact nf_sl | exact nf_osl | exact nf_ptr | exact nf_fp | exact nf_mp | exact nf_fn | exact nf_ifc | exact nf_it | exact nf_mb | exact rfl))) (hd : fits nt (some t) = true := by exact rfl) (h0 : 0 ≤ n := by first | omega | (simp (disch := omega) only [w64, sb_bt, Int.toNat_zero, Int.toNat_one, List.length_map]; omega)) (h1 : n ≤ c := by first | omega | (simp (disch := omega) only [w64, sb_bt, Int.toNat_zero, Int.toNat_one, List.length_map]; omega)) (hble : Nat.ble by_ 1024 = true := by exact rfl) (hb : 1024 * c ≤ 281474976710656 := by first | omega | (simp (disch := omega) only [w64, sb_bt, Int.toNat_zero, Int.toNat_one, List.length_map]; omega)) :
    LJ P nt ops Q (⟨some t, .makeSlice it x y, ty, pos, aft, none⟩ :: rest) fr σ := by
  refine jmko (zs' := zs') (hnn := hnn) (ht := ht) (hsz := hsz) (hz := hz) (hzl := hzl) (hpos := hpos) (hby := hby) (hb1 := hb1) (hx := hx) (hy := hy) (hd := hd) (h0 := h0) (h1 := h1) (hble := hble) (hb := hb) (fun id hid => ?_)
  refine lj_freeze t (id := id) (sz := sz) (et := et) (els := List.replicate n.toNat zs') (by rw [lk_cons, if_pos rfl]) (St.set_same _ _ _) (List.length_replicate ..).symm (Nat.blt_eq.mp hpos) ?_
  rw [St.del_set hid]
  refine lj_ghost (ghost_forget (fun u a hu => ?_) (St.le_refl _) h)
  rw [lk_cons] at hu ⊢
  split
  · rename_i e; rw [if_pos e] at hu; exact hu
  · rename_i e
    rw [if_neg e] at hu
    rw [lk_cons, if_neg e]; exact hu
/-- append, written no more. -/
theorem jap {lt et : TypeId} {sz by_ : Nat} {x y : Operand} {nl : Option Bool} {full : Bool} {els news all : List (List AV)} {ts : Array TypeId} {av : AV} (h : LJ P nt ops Q rest ((t, .sl none false sz all) :: fr) σ) (hts : ts = #[lt, lt] := by exact rfl) (ht : P.underlying lt = some (.slice et) := by exact rfl) (hsz : sizeIs P et = some sz := by exact rfl) (hz : (zeroIs P et).map (·.length) = some sz := by exact rfl) (hpos : Nat.blt 0 sz = true := by exact rfl) (hby : bytesIs P et = some by_ := by exact rfl) (hb1 : Nat.blt 0 by_ = true := by exact rfl) (hx : ev fr x = some (.sl nl full sz els) := by exact rfl) (hfull : full = true ∨ nl = some true := by first | exact .inl rfl | exact .inr rfl) (hy : ev fr y = some av := by exact rfl) (hs : srcOf σ av = some (sz, news) := by exact rfl) (hall : els ++ news = all := by (first | exact List.nil_append _ | exact rfl)) (hd : fits nt (some t) = true := by exact rfl) (hble : Nat.ble by_ 1024 = true := by exact rfl) (hb : (els.length + news.length) * 1024 ≤ 140737488355328 := by first | omega | (simp only [length_bys, length_chunk, List.length_nil, List.length_cons, List.length_map, List.length_append, List.length_replicate, Nat.mul_one] at *; omega)) :
    LJ P nt ops Q (⟨some t, .call { callee := .builtin .append, args := #[x, y], argTypes := ts }, ty, pos, aft, none⟩ :: rest) fr σ := by
  subst hall
  exact lj_v hd (fun R hR => OpJ.weak (opj_append_sl rfl hts (elem_of ht hsz hz hpos) hby hx hfull hy hs (Nat.le_trans (Nat.mul_le_mul_left _ (Nat.le_of_ble_eq_true hble)) hb) (Nat.blt_eq.mp hb1) (fun h0 => ⟨rfl, _, rfl, by rw [h0, List.append_nil]; exact Wk.sl _ _ _ _⟩) (fun _ => ⟨rfl, _, rfl, Wk.sl _ _ _ _⟩)) hR) h
end
theorem St.le_del {σ τ : St} {w : Nat} (h : σ.le τ) (hw : σ w = none) : σ.le (τ.del w) := fun x v hv => by
  have hx : x ≠ w := fun e => by rw [e, hw] at hv; cases hv
  unfold St.del
  rw [if_neg hx]; exact h x v hv
theorem St.none_le {σ τ : St} {x : Nat} (h : σ.le τ) (hx : τ x = none) : σ x = none := by
  cases hv : σ x with
  | none => rfl
  | some v => rw [h x v hv] at hx; cases hx
theorem St.ne_some {σ : St} {x y : Nat} {o : AObj} (hx : σ x = none) (hy : σ y = some o) : x ≠ y := fun e => by rw [e, hy] at hx; cases hx
/-- The end of a round of a loop that turns the store. -/
theorem nx_forS {Q : Post} {fr : Fr} {σ : St} {α : Type} {I : α → Prop} {C : α → Fr} {S : α → St} {m : α → Nat} {k : Nat} {kf : Fr} (s' : α) (hI : I s') (hm : m s' < k) (hC : SubW (C s') fr) (hle : (S s').le σ) (hk : Sub kf fr := by repeat' (first | exact True.intro | refine And.intro rfl ?_)) :
    thn Q (fun fr' σ' => ∃ s', I s' ∧ m s' < k ∧ SubW (C s') fr' ∧ Sub kf fr' ∧ (S s').le σ') .normal fr σ := nx_thn ⟨s', hI, hm, hC, hk, hle⟩
end Go.Proofs.YtbpoeggmpjepfaaDoor.Ab

/- Abstract values over the model's memory: what strings.Builder is made of. -/
set_option linter.unusedVariables false
set_option linter.unusedSimpArgs false
set_option maxRecDepth 20000
namespace Go.Proofs.YtbpoeggmpjepfaaDoor.Ab
open Go
section
variable {P : Program} {o : Oper} {E : Operand → Option AV} {σ : St} {R : Option AV → St → Prop}
/-- A pointer of our own, told as one of no type, and back. -/
theorem opj_to_unsafe {src dst t et : TypeId} {x : Operand} {id sz m : Nat} {el : List AV} {els : List (List AV)} (ho : o.op = .convert src dst x) (hs : P.underlying src = some (.pointer t)) (hd : P.underlying dst = some .unsafePointer) (ht : sizeIs P t = some m) (hm : 0 < m) (hsz : 0 < sz) (hx : E x = some (.ptr id sz 0 0)) (hσ : σ id = some (.row sz et (el :: els))) (hR : R (some (.ptr id sz 0 0)) σ) : OpJ P o E σ R :=
  opj_quiet _ (fun k e hk1 hk hr => by
    subst hk1
    have hxr := hr x (by rw [ho]; simp [Op.operands]) _ hx
    obtain ⟨i, hi, hz⟩ := sizeIs_info ht
    generalize hu : e x = u at hxr
    have hxr0 := hxr
    cases hxr with
    | @ptr _ _ _ _ b htp hb =>
      obtain ⟨cs, h1, h2⟩ := (hk.obj id _ hσ).row hb
      have hlen : 0 < cs.size := by
        have h4 := h2.2.1
        have h3 : 1 * sz ≤ (el :: els).length * sz := Nat.mul_le_mul_right _ (by simp)
        have h5 := Nat.le_trans h3 h4
        rw [Array.length_toList, Nat.one_mul] at h5
        omega
      have hrun := Lib.run_to_unsafe (P := P) k.w ⟨b, 0 * sz + 0, none⟩ hs hd hi (by omega) (e := et) (cells := cs.size) (by simp [World.shape?, h1]) (by simpa using hlen)
      refine ⟨_, ?_, hxr0⟩
      unfold execOp
      simp only [ho, hu, Sem.run_bind, hrun, Result.andThen_ok, Sem.run_pure]) hR
theorem liesAt_same {e : TypeId} (hc : P.cellsOf e ≠ 0) (count : Nat) (hn : 0 < count) : liesAt P P.depth e count 0 e 1 = true := by
  have hd : P.depth = (2 * (P.types.size + Made.depth) + 1) + 1 := rfl
  rw [hd]
  simp only [liesAt, Bool.or_eq_true]
  left
  rw [hd]
  simp [rowAt, hc, sameLayout]
  exact .inl hn
theorem opj_from_unsafe {src dst u : TypeId} {x : Operand} {id sz : Nat} {el : List AV} {els : List (List AV)} (ho : o.op = .convert src dst x) (hs : P.underlying src = some .unsafePointer) (hd : P.underlying dst = some (.pointer u)) (ht : sizeIs P u = some sz) (hc : P.cellsOf u = sz) (hsz : 0 < sz) (hx : E x = some (.ptr id sz 0 0)) (hσ : σ id = some (.row sz u (el :: els))) (hR : R (some (.ptr id sz 0 0)) σ) : OpJ P o E σ R :=
  opj_quiet _ (fun k e hk1 hk hr => by
    subst hk1
    have hxr := hr x (by rw [ho]; simp [Op.operands]) _ hx
    obtain ⟨i, hi, hz⟩ := sizeIs_info ht
    generalize hu : e x = v at hxr
    have hxr0 := hxr
    cases hxr with
    | @ptr _ _ _ _ b htp hb =>
      obtain ⟨cs, h1, h2⟩ := (hk.obj id _ hσ).row hb
      have hlen : sz ≤ cs.size := by
        have h4 := h2.2.1
        have h3 : 1 * sz ≤ (el :: els).length * sz := Nat.mul_le_mul_right _ (by simp)
        have h5 := Nat.le_trans h3 h4
        rw [Array.length_toList, Nat.one_mul] at h5
        omega
      have hrun := Lib.run_from_unsafe (P := P) k.w ⟨b, 0 * sz + 0, none⟩ hs hd hi (e := u) (cells := cs.size) (by simp [World.shape?, h1]) (by
        rw [Nat.zero_mul]
        exact liesAt_same (by omega) _ (Nat.div_pos (by omega) (by omega)))
      refine ⟨_, ?_, hxr0⟩
      unfold execOp
      simp only [ho, hu, Sem.run_bind, hrun, Result.andThen_ok, Sem.run_pure]) hR
/-- A function without a body that hands its argument on. -/
theorem opj_extern {f : FuncId} {fn : Func} {ext : Array Value → Sem Value} {x : Operand} {ts : Array TypeId} {av : AV} (ho : o.op = .call { callee := .value (.func f), args := #[x], argTypes := ts }) (hf : P.funcs[f]? = some fn) (hname : (fn.name == "runtime.NumGoroutine") = false) (hb : fn.body.isNone = true) (hn : Extern.findNext fn = none) (he : Extern.find fn = some ext) (hE : E (.func f) = some (.fn f [])) (hx : E x = some av) (hrun : ∀ (v : Value) (w : World), (ext #[v]).run P w = .ok v w) (hR : R (some av) σ) : OpJ P o E σ R :=
  opj_quiet _ (fun k e hk1 hk hr => by
    have hxr := hr x (by rw [ho]; simp [Op.operands, Call.operands]) _ hx
    have hfr := hr (.func f) (by rw [ho]; simp [Op.operands, Call.operands]) _ hE
    generalize hu : e (.func f) = u at hfr
    cases hfr with
    | fn hl hcap =>
      rename_i vs
      have hvs : vs = #[] := Array.eq_empty_of_size_eq_zero (by simpa using hl)
      subst hvs
      refine ⟨e x, ?_, hxr⟩
      unfold execOp
      simp only [ho, resolve, hu, Deferred.ofValue, invoke, Sem.run_bind, Sem.run_pure, Result.andThen_ok, List.map_toArray, List.map_cons, List.map_nil]
      have := run_callFunc_extern hf hname hb hn he #[e x] k.w
      rw [hrun] at this
      simpa using this) hR
/-- A pointer of our own is itself. -/
theorem opj_ne_self {tp te et' : TypeId} {x y : Operand} {id sz i j m : Nat} (ho : o.op = .binOp .neq tp x y et') (hp : P.underlying tp = some (.pointer te)) (hte : sizeIs P te = some m) (hx : E x = some (.ptr id sz i j)) (hy : E y = some (.ptr id sz i j)) (hR : R (some (.v (.bool false))) σ) : OpJ P o E σ R :=
  opj_quiet _ (fun k e hk1 hk hr => by
    have hxr := hr x (by rw [ho]; simp [Op.operands]) _ hx
    have hyr := hr y (by rw [ho]; simp [Op.operands]) _ hy
    obtain ⟨ti, hi, hz⟩ := sizeIs_info hte
    refine ⟨.bool false, ?_, .v rfl⟩
    generalize hu : e x = u at hxr
    generalize hv : e y = v at hyr
    cases hxr with
    | @ptr _ _ _ _ b htp hb =>
      cases hyr with
      | @ptr _ _ _ _ b' htp' hb' =>
        rw [hb] at hb'; cases hb'
        unfold execOp
        simp [ho, hu, hv, Sem.run_bind, Lib.run_neq_ptr_same k.w _ hp hi, eqGuard, Result.andThen_ok, Sem.run_pure]) hR
/-- append of a string's bytes on a row of our own. -/
theorem opj_append_ostr {t u et : TypeId} {x y : Operand} {id n : Nat} {els : List (List AV)} {ts : Array TypeId} {s : ByteArray} (ho : o.op = .call { callee := .builtin .append, args := #[x, y], argTypes := ts }) (hts : ts = #[t, u]) (he : Elem P t et 1) (hby : bytesIs P et = some 1) (hu : P.underlying u = some .string)
    (hx : E x = some (.osl id 1 0 n)) (hσ : σ id = some (.row 1 et els)) (hn : n ≤ els.length) (hy : E y = some (.v (.string s))) (hb : n + s.size ≤ 140737488355328)
    (hR : ∀ id', σ id' = none → R (some (.osl id' 1 0 (n + s.size))) ((σ.del id).set id' (.row 1 et (els.take n ++ bys s.data.toList)))) : OpJ P o E σ R := fun k e hσ' hk hr => by
  subst hts
  subst hσ'
  have hxr := hr x (by rw [ho]; simp [Op.operands, Call.operands]) _ hx
  have hyr := rep_v (hr y (by rw [ho]; simp [Op.operands, Call.operands]) _ hy)
  have htl : (els.take n).length = n := by simp; omega
  obtain ⟨old, hol, hor, hom, hxv⟩ := src_rep hk hxr (sz := 1) (news := els.take n) (by simp [srcOf, hσ, hn]) he.pos
  rw [htl, Nat.mul_one] at hol
  have hid : k.σ id ≠ none := by rw [hσ]; simp
  have hrun : ∀ v w', (Builtin.append_ #[t, u] o.type #[e x, e y]).run P k.w = .ok v w' → (execOp e o).run P k.w = .ok (.value v) w' := fun v w' h => by
    unfold execOp
    simp only [ho, resolve, invoke, builtin, Sem.run_bind, Sem.run_pure, Result.andThen_ok, List.map_toArray, List.map_cons, List.map_nil, h]
  have hm : n + s.size ≤ maxLen := by simp only [maxLen]; omega
  obtain ⟨i, z, hi, hz, hsz, hzs⟩ := he.info
  have hbi : i.bytes = 1 := by unfold bytesIs at hby; simpa [hi] using hby
  have hnew : RowRep k 1 (bys s.data.toList) (Lib.strCells s) := by
    refine ⟨fun i e h => ?_, by simp [length_bys, Lib.strCells], fun i j e a h h' => ?_⟩
    · have hi : i < s.data.toList.length := by have := (List.getElem?_eq_some_iff.1 h).1; rwa [length_bys] at this
      rw [bys_get _ i hi] at h; cases h; rfl
    · have hi : i < s.data.toList.length := by have := (List.getElem?_eq_some_iff.1 h).1; rwa [length_bys] at this
      rw [bys_get _ i hi] at h; cases h
      cases j with
      | succ j => simp at h'
      | zero =>
        simp at h'; subst h'
        refine ⟨.int .u8 s.data.toList[i].toNat, ?_, rfl, .v rfl⟩
        simp only [Lib.strCells, List.getElem?_map, Nat.mul_one, Nat.add_zero, List.getElem?_eq_getElem hi, Option.map_some]
  have hsl : (Lib.strCells s).length = s.size := Lib.strCells_length s
  -- a new block
  have grow : ∀ (a : Option Addr) (cap : Nat), e x = .slice a n cap → cap < n + s.size → (a = none → els.take n = [] ∧ cap = 0 ∧ n = 0) → ∃ k' nx r, (execOp e o).run P k.w = .ok nx k'.w ∧ Ok k' ∧ Step k k' ∧ R r k'.σ ∧ Gave k' nx r := by
    intro a cap hxe hcap ha0
    have hge := grownCap_ge k.w (n + s.size) cap et
    have hrow := hor.append (rest := (Builtin.zeroCells z.cells (grownCap k.w (n + s.size) cap et - (n + s.size))).toList) hnew (by rw [htl, Nat.mul_one]; exact hol)
    have happ : (Builtin.append_ #[t, u] o.type #[.slice a n cap, .string s]).run P k.w = .ok (.slice (some ⟨k.w.heap.size, 0, none⟩) (n + s.size) (grownCap k.w (n + s.size) cap et)) (k.w.drew.alloc (.cells (old ++ Lib.strCells s ++ (Builtin.zeroCells z.cells (grownCap k.w (n + s.size) cap et - (n + s.size))).toList).toArray et)) := by
      cases a with
      | none =>
        obtain ⟨h1, h2, h3⟩ := ha0 rfl
        subst h3; subst h2
        have hold : old = [] := List.eq_nil_of_length_eq_zero hol
        subst hold
        have hr2 := run_append_nil_string (P := P) k.w t u o.type et i z he.ht hu hi hz s (by omega) (by omega) (by rw [hbi]; omega)
        simp only [Nat.zero_add]
        rw [hr2]
        refine congrArg (fun c => Result.ok _ (k.w.drew.alloc (.cells c et))) ?_
        apply Array.ext'
        simp [Lib.strCells]
      | some ad =>
        have hac : ∀ (j : Nat) v, old[j]? = some v → k.w.cell? (ad.add j) = some v := fun j v hj => by
          rcases hxv with ⟨h1, _⟩ | ⟨ad2, c2, h1, h2⟩
          · rw [hxe] at h1; cases h1
          · rw [hxe] at h1; injection h1 with h1; cases h1; exact h2 j v hj
        have hr2 := Lib.run_append_grow_string (P := P) k.w t u o.type et i z he.ht hu hi hz ad n cap old (by rw [hsz, Nat.mul_one]; exact hol) hac s hcap (by omega) (by rw [hbi]; exact growslice_fits hcap (by omega))
        rw [hr2]
        refine congrArg (fun c => Result.ok _ (k.w.drew.alloc (.cells c et))) ?_
        apply Array.ext'
        simp
    have hh := hk.hand (id := id) (nb := some k.w.heap.size) (ob := .row 1 et (els.take n ++ bys s.data.toList)) (w' := k.w.drew.alloc (.cells (old ++ Lib.strCells s ++ (Builtin.zeroCells z.cells (grownCap k.w (n + s.size) cap et - (n + s.size))).toList).toArray et)) hid rfl rfl rfl (by simp) (fun b hb1 _ => heap_alloc_old k.w.drew _ _ hb1)
      (fun b cs t f hb1 hb2 => ⟨cs, f, (heap_alloc_old k.w.drew _ _ (Array.getElem?_eq_some_iff.1 hb2).1).trans hb2, rfl⟩) (fun b hb1 => by cases hb1; exact ⟨by simp, .inl (Nat.le_refl _)⟩)
      (fun k' hs hw hρ ht => RowRep.obj (cs := (old ++ Lib.strCells s ++ (Builtin.zeroCells z.cells (grownCap k.w (n + s.size) cap et - (n + s.size))).toList).toArray) hρ (by rw [hw]; exact heap_alloc_new k.w.drew _) (by simpa using hrow.step hs))
    refine ⟨_, .value _, some _, hrun _ _ (by rw [hxe, hyr]; exact happ), hh.1, hh.2, hR k.top hk.fresh, _, rfl, ?_⟩
    refine .osl (by simp) (by simp) (fun _ => by simp) hge hm ⟨_, et, (0, 0), heap_alloc_new k.w.drew _, ?_⟩
    simp only [List.size_toArray, List.length_append, hol, hsl, Array.length_toList, size_zeroCells, hzs, hsz]
    omega
  generalize hv : e x = v at hxr
  cases hxr with
  | oslnil hidt hρ =>
    have hels : els = [] := by
      rcases hk.obj id _ hσ with ⟨_, h⟩ | ⟨b, cs, h, _⟩
      · exact h
      · rw [hρ] at h; cases h
    subst hels
    by_cases h0 : s.size = 0
    · have hnil : bys s.data.toList = [] := List.eq_nil_of_length_eq_zero (by rw [length_bys, Array.length_toList]; exact h0)
      rw [h0, hnil] at hR
      have hh := hk.hand (id := id) (nb := none) (ob := .row 1 et []) (w' := k.w) hid rfl rfl rfl (Nat.le_refl _) (fun b _ _ => rfl) (fun b cs t f h _ => by rw [hρ] at h; cases h) (fun b h => by cases h) (fun k' hs hw hρ' ht => .inl ⟨hρ', rfl⟩)
      refine ⟨_, .value (.slice none 0 0), some _, hrun _ _ ?_, hh.1, hh.2, hR k.top hk.fresh, _, rfl, .oslnil (by simp) (by simp)⟩
      rw [hv, hyr]
      have hf := Lib.run_firstCells_string (P := P) k.w 1 s
      have hn0 : Lib.strCells s = [] := List.eq_nil_of_length_eq_zero (by rw [hsl]; exact h0)
      rw [h0, hn0] at hf
      simp [Builtin.append_, run_underlying he.ht, run_underlying hu, sizeOf, typeInfo, hi, hsz, Builtin.lenOf, h0, hf]
    · exact grow none 0 hv (by omega) (fun _ => ⟨by simp, rfl, rfl⟩)
  | @osl _ _ _ _ b cap p hidt hρ hp hl hm' hfit =>
    by_cases hroom : n + s.size ≤ cap
    · obtain ⟨cs, hh1, hh2⟩ := (hk.obj id _ hσ).row hρ
      have hcapfit : cap ≤ cs.size := by
        obtain ⟨cs', t', f', h1, h2⟩ := hfit
        rw [hh1] at h1; cases h1
        simpa using h2
      have hrow := (hh2.take n hn).append (rest := cs.toList.drop (n + s.size)) hnew (by rw [List.length_take, htl]; have := hh2.2.1; rw [Nat.mul_one] at this; omega)
      rw [Nat.mul_one] at hrow
      have hne2 : n ≤ cs.toList.length := by have := hh2.2.1; omega
      by_cases hc0 : cap = 0
      · subst hc0
        have h0 : s.size = 0 := by omega
        have hn0 : n = 0 := by omega
        subst hn0
        have hs0 : Lib.strCells s = [] := List.eq_nil_of_length_eq_zero (by rw [hsl]; exact h0)
        have hnil : bys s.data.toList = [] := List.eq_nil_of_length_eq_zero (by rw [length_bys, Array.length_toList]; exact h0)
        rw [h0, hnil] at hR
        have hh := hk.hand (id := id) (nb := some b) (ob := .row 1 et (els.take 0 ++ [])) (w' := k.w) hid rfl rfl rfl (Nat.le_refl _) (fun x _ _ => rfl)
          (fun x cs0 t0 f0 hx hx2 => ⟨cs0, f0, hx2, rfl⟩) (fun x hx => by cases hx; exact ⟨(hk.bas id b hid hρ).2, .inr hρ⟩)
          (fun k' hs hw hρ' ht => RowRep.obj (cs := cs) hρ' (by rw [hw]; exact hh1) ⟨fun i e h => by simp at h, by simp, fun i j e a h => by simp at h⟩)
        refine ⟨_, .value (.slice (some ⟨b, p, none⟩) 0 0), some _, hrun _ _ ?_, hh.1, hh.2, hR k.top hk.fresh, _, rfl, .osl (by simp) (by simp) (fun h => by omega) (Nat.le_refl _) (by simp [maxLen]) ⟨cs, et, (0, 0), hh1, by simp⟩⟩
        rw [hv, hyr]
        have hf := Lib.run_firstCells_string (P := P) k.w 1 s
        rw [h0, hs0] at hf
        simp [Builtin.append_, run_underlying he.ht, run_underlying hu, sizeOf, typeInfo, hi, hsz, Builtin.lenOf, h0, hf, storeCells]
      · have hp0 : p = 0 := by rw [hp (by omega)]
        subst hp0
        have hr2 := Lib.run_append_room_string (P := P) k.w t u o.type et i he.ht hu hi hsz b n cap cs hh1 s hroom (by omega)
        have hsize : (cs.toList.take n ++ Lib.strCells s ++ cs.toList.drop (n + s.size)).toArray.size = cs.size := by
          simp only [List.size_toArray, List.length_append, List.length_take, List.length_drop, hsl, Array.length_toList]
          rw [Array.length_toList] at hne2
          omega
        have hset := setRow_heap k.w b cs (cs.toList.take n ++ Lib.strCells s ++ cs.toList.drop (n + s.size)).toArray et (0, 0) hh1
        have hh := hk.hand (id := id) (nb := some b) (ob := .row 1 et (els.take n ++ bys s.data.toList)) (w' := k.w.setRow b (cs.toList.take n ++ Lib.strCells s ++ cs.toList.drop (n + s.size)).toArray) hid rfl rfl rfl (by simp) (fun x _ hx => setRow_other _ _ _ _ fun hxb => hx (by rw [hxb]; exact hρ))
          (fun x cs0 t0 f0 hx hx2 => by rw [hρ] at hx; cases hx; rw [hh1] at hx2; cases hx2; exact ⟨_, (0, 0), hset, hsize⟩) (fun x hx => by cases hx; exact ⟨by have := (hk.bas id b hid hρ).2; simpa using this, .inr hρ⟩)
          (fun k' hs hw hρ' ht => RowRep.obj hρ' (by rw [hw]; exact hset) (by simpa using hrow.step hs))
        refine ⟨_, .value _, some _, hrun _ _ (by rw [hv, hyr]; exact hr2), hh.1, hh.2, hR k.top hk.fresh, _, rfl, .osl (by simp) (by simp) hp hroom hm ⟨_, et, (0, 0), hset, by rw [hsize]; simpa using hcapfit⟩⟩
    · exact grow (some ⟨b, p, none⟩) cap hv (by omega) (fun h => by cases h)
/-- Where a row of bytes begins; where there is none nothing is told. -/
theorem opj_sliceData {t pt et : TypeId} {x : Operand} {id n : Nat} {ts : Array TypeId} {els : List (List AV)} (ho : o.op = .call { callee := .builtin .unsafeSliceData, args := #[x], argTypes := ts }) (hx : E x = some (.osl id 1 0 n)) (hn : 0 < n) (hR : R (some (.ptr id 1 0 0)) σ) : OpJ P o E σ R :=
  opj_quiet _ (fun k e hk1 hk hr => by
    have hxr := hr x (by rw [ho]; simp [Op.operands, Call.operands]) _ hx
    generalize hu : e x = u at hxr
    cases hxr with
    | oslnil => omega
    | @osl _ _ _ _ b cap p ht hb hp hl hm hsz =>
      have hp0 : p = 0 := by rw [hp (by omega)]
      subst hp0
      refine ⟨.pointer (some ⟨b, 0 * 1 + 0, none⟩), ?_, .ptr ht hb⟩
      have hrun := Lib.run_unsafeSliceData_row (P := P) k.w ts o.type ⟨b, 0, none⟩ n cap (by omega)
      unfold execOp
      simp only [ho, resolve, invoke, builtin, Sem.run_bind, Sem.run_pure, Result.andThen_ok, List.map_toArray, List.map_cons, List.map_nil, hu, hrun]) hR
/-- The bytes of a row, made a string: nobody writes the row any more. -/
theorem opj_unsafeString {pt it et : TypeId} {x y : Operand} {id : Nat} {ts : Array TypeId} {l : List UInt8} (ho : o.op = .call { callee := .builtin .unsafeString, args := #[x, y], argTypes := ts }) (hts : ts = #[pt, it]) (hp : P.underlying pt = some (.pointer et)) (hc : P.cellsOf et = 1) (hx : E x = some (.ptr id 1 0 0)) (hy : E y = some (.v (.int .i64 l.length))) (hσ : σ id = some (.row 1 et (bys l))) (hl : l ≠ []) (hl2 : l.length ≤ 140737488355328) (hR : R (some (.v (.string ⟨l.toArray⟩))) (σ.del id)) : OpJ P o E σ R := fun k e hk1 hk hr => by
  subst hk1
  subst hts
  have hxr := hr x (by rw [ho]; simp [Op.operands, Call.operands]) _ hx
  have hyr := rep_v (hr y (by rw [ho]; simp [Op.operands, Call.operands]) _ hy)
  have hid : k.σ id ≠ none := by rw [hσ]; simp
  generalize hu : e x = u at hxr
  cases hxr with
  | @ptr _ _ _ _ b htp hb =>
    obtain ⟨cs, h1, h2⟩ := (hk.obj id _ hσ).row hb
    have hlen : l.length ≤ cs.size := by have := h2.2.1; rw [length_bys, Nat.mul_one] at this; simpa using this
    have hrun := Lib.run_unsafeString_row (P := P) k.w pt it o.type et hp hc b cs.size (by simp [World.shape?, h1]) l hl hlen (by omega) (fun j x hj => by
      obtain ⟨hjl, rfl⟩ := List.getElem?_eq_some_iff.1 hj
      obtain ⟨v, h3, _, h4⟩ := h2.2.2 j 0 _ _ (bys_get l j hjl) rfl
      have hadd : (⟨b, 0, none⟩ : Addr).add j = ⟨b, j, none⟩ := by unfold Addr.add; split <;> simp_all
      rw [hadd]
      simp only [Nat.mul_one, Nat.add_zero] at h3
      rw [rep_v h4] at h3
      simp [World.cell?, h1]
      simpa using h3)
    have hfz : ∃ f', (k.w.freeze ⟨b, 0, none⟩ l.length).heap[b]? = some (.cells cs et f') := by
      unfold World.freeze
      split
      · exact ⟨_, h1⟩
      · simp [Array.getElem?_modify, h1]
    have hfo : ∀ x, x ≠ b → (k.w.freeze ⟨b, 0, none⟩ l.length).heap[x]? = k.w.heap[x]? := fun x hxb => by
      unfold World.freeze
      split
      · rfl
      · simp [Array.getElem?_modify, Ne.symm hxb]
    obtain ⟨f', hfz⟩ := hfz
    have hsz : (k.w.freeze ⟨b, 0, none⟩ l.length).heap.size = k.w.heap.size := by
      unfold World.freeze
      split <;> simp
    have hos : (k.w.freeze ⟨b, 0, none⟩ l.length).os = k.w.os ∧ (k.w.freeze ⟨b, 0, none⟩ l.length).tape = k.w.tape ∧ (k.w.freeze ⟨b, 0, none⟩ l.length).output = k.w.output := by
      unfold World.freeze
      split <;> exact ⟨rfl, rfl, rfl⟩
    have hh := hk.hand (id := id) (nb := none) (ob := .row 1 et []) (w' := k.w.freeze ⟨b, 0, none⟩ l.length) hid hos.1 hos.2.1 hos.2.2 (by rw [hsz]; exact Nat.le_refl _) (fun x _ hx => hfo x fun hxb => hx (by rw [hxb]; exact hb))
      (fun x cs0 t0 f0 hx hx2 => by rw [hb] at hx; cases hx; rw [h1] at hx2; cases hx2; exact ⟨cs, f', hfz, rfl⟩) (fun x h => by cases h) (fun k' hs hw hρ' ht => .inl ⟨hρ', rfl⟩)
    obtain ⟨hok, hst⟩ := hh
    obtain ⟨hok2, hst2⟩ := hok.forget (σ' := k.σ.del id) (fun x v hv => by
      have hx : x ≠ k.top := fun h => by
        subst h
        have := St.del_le k.σ id _ _ hv
        rw [hk.fresh] at this; cases this
      show ((k.σ.del id).set k.top _) x = some v
      rw [St.set_ne _ _ _ hx]; exact hv)
    refine ⟨_, .value (.string ⟨l.toArray⟩), some _, ?_, hok2, hst.trans hst2, hR, _, rfl, .v rfl⟩
    unfold execOp
    simp only [ho, resolve, invoke, builtin, Sem.run_bind, Sem.run_pure, Result.andThen_ok, List.map_toArray, List.map_cons, List.map_nil, hu, hyr]
    simp only [Nat.zero_mul, Nat.add_zero]
    rw [hrun]
    rfl
end
end Go.Proofs.YtbpoeggmpjepfaaDoor.Ab

/- Abstract values over the model's memory: a nil slice inside a variable as a row of our own; the steps of strings.Builder under short names. -/
set_option linter.unusedVariables false
set_option linter.unusedSimpArgs false
set_option maxRecDepth 20000
namespace Go.Proofs.YtbpoeggmpjepfaaDoor.Ab
open Go
/-- An object of our own, told otherwise. -/
theorem Ok.redesc {k : Cx} (hk : Ok k) {id : Nat} {o o' : AObj} (ho : k.σ id = some o) (h' : ObjOk k id o') : Ok { k with σ := k.σ.set id o' } ∧ Step k { k with σ := k.σ.set id o' } := by
  have hid : k.σ id ≠ none := by rw [ho]; simp
  have hne : ∀ x, k.σ.set id o' x ≠ none → k.σ x ≠ none := fun x hx => by
    by_cases h : x = id
    · rw [h]; exact hid
    · rwa [St.set_ne _ _ _ h] at hx
  have hst : Step k { k with σ := k.σ.set id o' } := ⟨Nat.le_refl _, fun _ _ => rfl, rfl, rfl, rfl, rfl, Nat.le_refl _, fun b h1 h2 => ⟨rfl, fun ⟨x, h3, h4⟩ => h2 ⟨x, hne x h3, h4⟩⟩, fun b cs t f h => ⟨cs, f, h, rfl⟩⟩
  refine ⟨⟨fun x h => hk.dom x (hne x h), fun x y b h1 h2 => hk.inj x y b (hne x h1) (hne y h2), fun x b h => hk.bas x b (hne x h), hk.hb, fun x ob h => ?_, hk.ground hst⟩, hst⟩
  change k.σ.set id o' x = some ob at h
  by_cases hx : x = id
  · subst hx
    rw [St.set_same] at h
    cases h
    exact h'.step hst (hk.dom x hid) (fun _ _ => rfl)
  · rw [St.set_ne _ _ _ hx] at h
    exact (hk.obj x ob h).step hst (hk.dom x (by rw [h]; simp)) (fun _ _ => rfl)
/-- A nil slice inside a variable of our own, as a row of our own. -/
theorem ghost_nilcell {b sz j s : Nat} {et : TypeId} {f : Bool} {cs : List AV} {fr : Fr} {σ : St} {K : Fr → St → Prop} (szw : Nat) (etw : TypeId) (hσ : σ b = some (.row sz et [cs])) (hj : cs[j]? = some (.sl (some true) f s [])) (h : ∀ w, σ w = none → K fr ((σ.set w (.row szw etw [])).set b (.row sz et [cs.set j (.osl w szw 0 0)]))) : Ghost fr σ K := fun k tmps hk1 hk hfr => by
  subst hk1
  obtain ⟨hok, hst⟩ := hk.nilRow szw etw
  let k1 : Cx := { k with ρ := fun x => if x = k.top then none else k.ρ x, top := k.top + 1, σ := k.σ.set k.top (.row szw etw []) }
  have hb : b ≠ k.top := fun e => by
    have := hk.fresh
    rw [← e, hσ] at this; cases this
  have hσ1 : k1.σ b = some (.row sz et [cs]) := by
    show (k.σ.set k.top _) b = _
    rw [St.set_ne _ _ _ hb]; exact hσ
  have hobj : ObjOk k1 b (.row sz et [cs.set j (.osl k.top szw 0 0)]) := by
    rcases hok.obj b _ hσ1 with ⟨_, h2⟩ | ⟨blk, vs, h1, h2, h3, h4, h5⟩
    · cases h2
    · refine .inr ⟨blk, vs, h1, h2, fun i e he => ?_, by simpa using h4, fun i jj e a he ha => ?_⟩
      · cases i with
        | zero => simp at he; subst he; rw [List.length_set]; exact h3 0 cs rfl
        | succ i => simp at he
      · cases i with
        | zero =>
          simp at he
          subst he
          by_cases hjj : jj = j
          · subst hjj
            have hlt := (List.getElem?_eq_some_iff.1 hj).1
            rw [List.getElem?_set_self hlt] at ha
            cases ha
            obtain ⟨u, h6, h7, h8⟩ := h5 0 jj cs _ rfl hj
            refine ⟨u, h6, h7, ?_⟩
            have hu : u = .slice none 0 0 := by
              cases h8 with
              | slnil => rfl
              | sle hn => exact absurd rfl hn
              | sl hn => exact absurd rfl hn
            subst hu
            exact .oslnil (show k.top < k.top + 1 by omega) (by show (if k.top = k.top then none else _) = none; rw [if_pos rfl])
          · rw [List.getElem?_set_ne (Ne.symm hjj)] at ha
            exact h5 0 jj cs a rfl ha
        | succ i => simp at he
  obtain ⟨hok2, hst2⟩ := Ok.redesc (k := k1) hok hσ1 hobj
  exact ⟨{ k1 with σ := k1.σ.set b (.row sz et [cs.set j (.osl k.top szw 0 0)]) }, fr, rfl, hok2, hst.trans hst2, fun x a hx => by
    obtain ⟨u, hu, hr⟩ := hfr x a hx
    exact ⟨u, hu, hr.step (hst.trans hst2)⟩, h k.top hk.fresh⟩
theorem cj_nilcell {P : Program} {nt : Nat} {Q : Post} {fr : Fr} {σ : St} {c : Code} {b sz s : Nat} {et : TypeId} {f : Bool} {cs : List AV} (t j szw : Nat) (etw : TypeId) (h : ∀ w, σ w = none → CJ P nt c Q fr ((σ.set w (.row szw etw [])).set b (.row sz et [cs.set j (.osl w szw 0 0)]))) (ht : lk fr t = some (.ptr b sz 0 0) := by exact rfl) (hσ : σ b = some (.row sz et [cs]) := by exact lkp) (hj : cs[j]? = some (.sl (some true) f s []) := by exact rfl) : CJ P nt c Q fr σ := cj_ghost (ghost_nilcell szw etw hσ hj h)
section
variable {P : Program} {nt : Nat} {ops : Array Oper} {Q : Post} {fr : Fr} {σ : St} {rest : List Oper} {t : Tmp} {ty : TypeId} {pos : String} {aft : Array Edge}
theorem jtu {src dst pt et : TypeId} {x : Operand} {id sz m : Nat} {el : List AV} {els : List (List AV)} (h : LJ P nt ops Q rest ((t, .ptr id sz 0 0) :: fr) σ) (hs : P.underlying src = some (.pointer pt) := by exact rfl) (hd : P.underlying dst = some .unsafePointer := by exact rfl) (ht : sizeIs P pt = some m := by exact rfl) (hm : Nat.blt 0 m = true := by exact rfl) (hx : ev fr x = some (.ptr id sz 0 0) := by exact rfl) (hσ : σ id = some (.row sz et (el :: els)) := by exact lkp) (hsz : Nat.blt 0 sz = true := by exact rfl) (hd2 : fits nt (some t) = true := by exact rfl) :
    LJ P nt ops Q (⟨some t, .convert src dst x, ty, pos, aft, none⟩ :: rest) fr σ := lj_v hd2 (fun R hR => opj_to_unsafe rfl hs hd ht (Nat.blt_eq.mp hm) (Nat.blt_eq.mp hsz) hx hσ hR) h
theorem jfu {src dst u : TypeId} {x : Operand} {id sz : Nat} {el : List AV} {els : List (List AV)} (h : LJ P nt ops Q rest ((t, .ptr id sz 0 0) :: fr) σ) (hs : P.underlying src = some .unsafePointer := by exact rfl) (hd : P.underlying dst = some (.pointer u) := by exact rfl) (ht : sizeIs P u = some sz := by exact rfl) (hc : P.cellsOf u = sz := by kernel_rfl) (hsz : Nat.blt 0 sz = true := by exact rfl) (hx : ev fr x = some (.ptr id sz 0 0) := by exact rfl) (hσ : σ id = some (.row sz u (el :: els)) := by exact lkp) (hd2 : fits nt (some t) = true := by exact rfl) :
    LJ P nt ops Q (⟨some t, .convert src dst x, ty, pos, aft, none⟩ :: rest) fr σ := lj_v hd2 (fun R hR => opj_from_unsafe rfl hs hd ht hc (Nat.blt_eq.mp hsz) hx hσ hR) h
theorem jxt {f : FuncId} {fn : Func} {x : Operand} {ts : Array TypeId} {av : AV} (h : LJ P nt ops Q rest ((t, av) :: fr) σ) (hf : P.funcs[f]? = some fn := by exact rfl) (hname : (fn.name == "runtime.NumGoroutine") = false := by kernel_rfl) (hb : fn.body.isNone = true := by kernel_rfl) (hn : Extern.findNext fn = none := by kernel_rfl) (he : Extern.find fn = some Extern.AbiNoEscape.same := by kernel_rfl) (hx : ev fr x = some av := by exact rfl) (hd2 : fits nt (some t) = true := by exact rfl) :
    LJ P nt ops Q (⟨some t, .call { callee := .value (.func f), args := #[x], argTypes := ts }, ty, pos, aft, none⟩ :: rest) fr σ := lj_v hd2 (fun R hR => opj_extern rfl hf hname hb hn he rfl hx (fun v w => Lib.run_noEscape w v) hR) h
theorem jnes {tp te et' : TypeId} {x y : Operand} {id sz i j m : Nat} (h : LJ P nt ops Q rest ((t, .v (.bool false)) :: fr) σ) (hp : P.underlying tp = some (.pointer te) := by exact rfl) (hte : sizeIs P te = some m := by exact rfl) (hx : ev fr x = some (.ptr id sz i j) := by exact rfl) (hy : ev fr y = some (.ptr id sz i j) := by exact rfl) (hd2 : fits nt (some t) = true := by exact rfl) :
    LJ P nt ops Q (⟨some t, .binOp .neq tp x y et', ty, pos, aft, none⟩ :: rest) fr σ := lj_v hd2 (fun R hR => opj_ne_self rfl hp hte hx hy hR) h
theorem jaos {lt u et : TypeId} {x y : Operand} {id n : Nat} {els : List (List AV)} {ts : Array TypeId} {s : ByteArray} (h : ∀ id', σ id' = none → LJ P nt ops Q rest ((t, .osl id' 1 0 (n + s.size)) :: fr) ((σ.del id).set id' (.row 1 et (els.take n ++ bys s.data.toList)))) (hts : ts = #[lt, u] := by exact rfl) (ht : P.underlying lt = some (.slice et) := by exact rfl) (hsz : sizeIs P et = some 1 := by exact rfl) (hz : (zeroIs P et).map (·.length) = some 1 := by exact rfl) (hby : bytesIs P et = some 1 := by exact rfl) (hu : P.underlying u = some .string := by exact rfl) (hx : ev fr x = some (.osl id 1 0 n) := by exact rfl) (hσ : σ id = some (.row 1 et els) := by exact lkp) (hn : n ≤ els.length := by first | omega | (simp only [length_bys] at *; omega)) (hy : ev fr y = some (.v (.string s)) := by exact rfl) (hb : n + s.size ≤ 140737488355328 := by omega) (hd2 : fits nt (some t) = true := by exact rfl) :
    LJ P nt ops Q (⟨some t, .call { callee := .builtin .append, args := #[x, y], argTypes := ts }, ty, pos, aft, none⟩ :: rest) fr σ := lj_fc hd2 (fun R hR => opj_append_ostr rfl hts ⟨ht, hsz, hz, by decide⟩ hby hu hx hσ hn hy hb hR) h
end
section
variable {P : Program} {l : List Oper} {c : List (List Nat)} {m nt : Nat} {σ σ0 σ1 : St} {K : Fr → Prop} {i : Nat} {fr : Fr} {rest : List Oper} {t : Tmp} {ty : TypeId} {pos : String} {aft : Array Edge}
theorem dsd {x : Operand} {id n : Nat} {ts : Array TypeId} (h : DJ P l c m σ0 σ1 K (i + 1) rest ((t, .ptr id 1 0 0) :: fr)) (him : Nat.beq i m = false := by exact rfl) (hx : ev fr x = some (.osl id 1 0 n) := by exact rfl) (hn : 0 < n := by omega) :
    DJ P l c m σ0 σ1 K i (⟨some t, .call { callee := .builtin .unsafeSliceData, args := #[x], argTypes := ts }, ty, pos, aft, none⟩ :: rest) fr := dj_v him (fun R hR => opj_sliceData (t := 0) (pt := 0) (et := 0) (els := []) rfl hx hn hR) (fun R hR => opj_sliceData (t := 0) (pt := 0) (et := 0) (els := []) rfl hx hn hR) h
theorem dus {pt it et : TypeId} {x y : Operand} {id : Nat} {ts : Array TypeId} {lb : List UInt8} (h : DJ P l c m σ0 (σ0.del id) K (i + 1) rest ((t, .v (.string ⟨lb.toArray⟩)) :: fr)) (him : Nat.beq i m = true := by exact rfl) (hts : ts = #[pt, it] := by exact rfl) (hp : P.underlying pt = some (.pointer et) := by exact rfl) (hc : P.cellsOf et = 1 := by kernel_rfl) (hx : ev fr x = some (.ptr id 1 0 0) := by exact rfl) (hy : ev fr y = some (.v (.int .i64 lb.length)) := by exact rfl) (hσ : σ0 id = some (.row 1 et (bys lb)) := by exact lkp) (hl : lb ≠ [] := by assumption) (hl2 : lb.length ≤ 140737488355328 := by omega) :
    DJ P l c m σ0 (σ0.del id) K i (⟨some t, .call { callee := .builtin .unsafeString, args := #[x, y], argTypes := ts }, ty, pos, aft, none⟩ :: rest) fr := dj_mw him (fun R hR => opj_unsafeString rfl hts hp hc hx hy hσ hl hl2 hR) h
end
end Go.Proofs.YtbpoeggmpjepfaaDoor.Ab

/- Abstract values over the model's memory: what is ours, lent to a call that only reads. -/
set_option linter.unusedVariables false
set_option linter.unusedSimpArgs false
set_option maxRecDepth 20000
namespace Go.Proofs.YtbpoeggmpjepfaaDoor.Ab
open Go
/-- What it stands for hangs on no memory. -/
def Indep (r : AV) : Prop := ∀ k k' u, Rep k r u → Rep k' r u
theorem indep_v (x : Value) : Indep (.v x) := fun k k' u h => by cases h; exact .v (by assumption)
theorem indep_agg {cs : List AV} (h : ∀ a ∈ cs, Indep a) : Indep (.agg cs) := fun k k' u hr => by
  cases hr with
  | agg hl h1 h2 => exact .agg hl h1 fun j a u ha hu => h a (List.mem_of_getElem? ha) k k' u (h2 j a u ha hu)
theorem indep_tup {cs : List AV} (h : ∀ a ∈ cs, Indep a) : Indep (.tup cs) := fun k k' u hr => by
  cases hr with
  | tup hl h2 => exact .tup hl fun j a u ha hu => h a (List.mem_of_getElem? ha) k k' u (h2 j a u ha hu)
/-- A call that only reads: all that is ours is lent to it. -/
theorem Pure.lend {P : Program} {f : FuncId} {args args' : List AV} {r : AV} {σ : St} (h : Pure P f args' r) (hr : Indep r) (ha : FinL (fun _ => none) σ args args') : ACalls P f args σ (fun e σ' => e = .ret r ∧ σ' = σ) := fun k vs hσ hk hv => by
  subst hσ
  have hle : St.le (fun _ => none) k.σ := fun _ _ h => by cases h
  obtain ⟨hok0, hst0⟩ := hk.forget hle
  obtain ⟨hl, hget⟩ := ha.get
  have hv' : Reps { k with σ := fun _ => none } args' vs := ⟨hv.1.trans hl, fun j b u hb hu => by
    have hj : j < args.length := by rw [hl]; exact (List.getElem?_eq_some_iff.1 hb).1
    have ha : args[j]? = some args[j] := List.getElem?_eq_getElem hj
    exact (hget j _ b ha hb).rep hk rfl hle (hv.2 j _ u ha hu)⟩
  refine (h (fun _ => none) _ vs rfl hok0 hv').mono fun e w' ⟨k', e', hw, hok, hst, hend, he, _⟩ => ?_
  subst he
  subst hw
  have hnl : ∀ b, ¬ ({ k with σ := fun _ => none } : Cx).live b := fun b ⟨id, h1, _⟩ => h1 rfl
  have hrho : ∀ id, k.σ id ≠ none → k'.ρ id = k.ρ id := fun id hid => hst.rho id (hk.dom id hid)
  let k2 : Cx := { ρ := k'.ρ, top := k'.top, σ := k.σ, base := k'.base, w := k'.w }
  have hst2 : Step k k2 := ⟨hst.top, hst.rho, hst.base, hst.os, hst.tape, hst.output, hst.size, fun b hb hn => ⟨(hst.frz b hb (hnl b)).1, fun ⟨id, h1, h2⟩ => hn ⟨id, h1, by rw [← hrho id h1]; exact h2⟩⟩, hst.shp⟩
  have hok2 : Ok k2 := by
    refine ⟨fun id hid => Nat.lt_of_lt_of_le (hk.dom id hid) hst.top, fun x y b hx hy h1 h2 => hk.inj x y b hx hy (by rw [← hrho x hx]; exact h1) (by rw [← hrho y hy]; exact h2), fun id b hid hb => ?_, hok.hb, fun id o ho => ?_, hok.gr⟩
    · have := hk.bas id b hid (by rw [← hrho id hid]; exact hb)
      exact ⟨by show k'.base ≤ b; rw [hst.base]; exact this.1, Nat.lt_of_lt_of_le this.2 hst.size⟩
    · have hid : k.σ id ≠ none := by rw [show k.σ id = some o from ho]; simp
      exact (hk.obj id o ho).step hst2 (hk.dom id hid) fun b hb => (hst.frz b (hk.bas id b hid hb).2 (hnl b)).1
  cases e with
  | returned v => exact ⟨k2, .ret r, rfl, hok2, hst2, hr _ _ _ hend, rfl, rfl⟩
  | panicked ch => exact hend.elim
  | outgrown => exact hend.elim
section
variable {P : Program} {l : List Oper} {c : List (List Nat)} {m nt : Nat} {σ σ0 σ1 : St} {K : Fr → Prop} {i : Nat} {fr : Fr} {rest : List Oper} {t : Tmp} {ty : TypeId} {pos : String} {aft : Array Edge}
theorem dkq {f : FuncId} {xs : Array Operand} {ts : Array TypeId} {as : List AV} {r : AV} {j u : Nat} {w cc : Bool} {a : AV} (hp : ∀ s, s = σ0 ∨ s = σ1 → ACalls P f as s (fun e σ' => e = .ret r ∧ σ' = s)) (h : DJ P l c m σ0 σ1 K (i + 1) rest ((t, .mb cc r) :: fr)) (him : Nat.beq i m = false := by exact rfl) (hj : dstOf l j = some u := by exact rfl) (hl : lk fr u = some a := by exact rfl) (hg : gc a w = some cc := by exact rfl) (has : evs (strip fr) xs.toList = some as := by exact rfl) (hent : entered P f = true := by exact rfl) (hn : Needs cc fr (Op.call { callee := .value (.func f), args := xs, argTypes := ts }).operands.toList := by repeat' (first | exact True.intro | refine And.intro ?_ ?_ | exact nd0 rfl | exact nd1 rfl | exact nd2 rfl | exact nd3 rfl | exact nd4 rfl)) : DJ P l c m σ0 σ1 K i (⟨some t, .call { callee := .value (.func f), args := xs, argTypes := ts }, ty, pos, aft, some (j, w)⟩ :: rest) fr :=
  dj_cons (factb_q rfl hj hl hg him fun hc => onb_ne him (fun _ => (OpW.strip (o := ⟨some t, .call { callee := .value (.func f), args := xs, argTypes := ts }, ty, pos, aft, some (j, w)⟩) hn hc (opw_calls has hent (hp σ0 (.inl rfl)))).mb hc) (fun _ => (OpW.strip (o := ⟨some t, .call { callee := .value (.func f), args := xs, argTypes := ts }, ty, pos, aft, some (j, w)⟩) hn hc (opw_calls has hent (hp σ1 (.inr rfl)))).mb hc)) h
theorem dkn {f : FuncId} {xs : Array Operand} {ts : Array TypeId} {as : List AV} {r : AV} (hp : ∀ s, s = σ0 ∨ s = σ1 → ACalls P f as s (fun e σ' => e = .ret r ∧ σ' = s)) (h : DJ P l c m σ0 σ1 K (i + 1) rest ((t, r) :: fr)) (him : Nat.beq i m = false := by exact rfl) (has : evs fr xs.toList = some as := by exact rfl) (hent : entered P f = true := by exact rfl) : DJ P l c m σ0 σ1 K i (⟨some t, .call { callee := .value (.func f), args := xs, argTypes := ts }, ty, pos, aft, none⟩ :: rest) fr := dkb h him has hent (hp σ0 (.inl rfl)) (hp σ1 (.inr rfl))
end
end Go.Proofs.YtbpoeggmpjepfaaDoor.Ab

/- Abstract values over the model's memory: maps of our own. -/
set_option linter.unusedVariables false
set_option linter.unusedSimpArgs false
set_option maxRecDepth 20000
namespace Go.Proofs.YtbpoeggmpjepfaaDoor.Ab
open Go Go.MapKept
section
variable {P : Program} {o : Oper} {E : Operand → Option AV} {σ : St} {R : Option AV → St → Prop}
theorem opj_makeMap {t : TypeId} (ho : o.op = .makeMap t none) (hR : ∀ id, σ id = none → R (some (.mp id)) (σ.set id (.map []))) : OpJ P o E σ R := fun k e hσ hk hr => by
  subst hσ
  have hst := hk.add_step (.map #[] 0) (.map [])
  have hok := hk.add (.map #[] 0) (.map []) ⟨k.w.heap.size, #[], 0, by simp [Cx.add], heap_alloc_new _ _, rfl, fun i e m h => by simp at h⟩
  refine ⟨_, .value (.map (some k.w.heap.size)), some _, ?_, hok, hst, hR k.top hk.fresh, _, rfl, .mp (by simp [Cx.add]) (by simp [Cx.add])⟩
  unfold execOp
  simp only [ho, Option.map_none, Instr.makeMap, Sem.run_bind, Sem.run_pure, Result.andThen_ok]
  rfl
/-- What a map has. -/
theorem map_spec {k : Cx} {d : TypeDesc} {kv : Value} {es : List (Value × AV)} {ms : Array MapEntry} (hk : IsKey d kv) (hes : ∀ e ∈ es, IsKey d e.1) (hsz : ms.size = es.length) (hms : ∀ (i : Nat) e m, es[i]? = some e → ms[i]? = some m → m.key = e.1 ∧ Rep k e.2 m.val) :
    (Instr.findNow d kv ms.toList 0 = some none ∧ ∀ e ∈ es, e.1 ≠ kv) ∨ ∃ j e m, Instr.findNow d kv ms.toList 0 = some (some (j, m.val)) ∧ es[j]? = some e ∧ ms[j]? = some m ∧ e.1 = kv ∧ m.key = kv ∧ Rep k e.2 m.val := by
  have hget : ∀ (i : Nat) m, ms[i]? = some m → ∃ e, es[i]? = some e ∧ m.key = e.1 ∧ Rep k e.2 m.val := fun i m hm => by
    have hi : i < es.length := by rw [← hsz]; exact (Array.getElem?_eq_some_iff.1 hm).1
    have he := List.getElem?_eq_getElem hi
    exact ⟨_, he, hms i _ m he hm⟩
  have hks : ∀ x ∈ ms.toList, IsKey d x.key := fun x hx => by
    obtain ⟨i, hi⟩ := List.mem_iff_getElem?.1 hx
    obtain ⟨e, he, h1, _⟩ := hget i x (by simpa using hi)
    rw [h1]; exact hes e (List.mem_of_getElem? he)
  rcases findNow_spec hk ms.toList 0 hks with ⟨h1, h2⟩ | ⟨j, m, h1, h2, h3⟩
  · refine .inl ⟨h1, fun e he hkv => ?_⟩
    obtain ⟨i, hi⟩ := List.mem_iff_getElem?.1 he
    have hlt : i < ms.size := by rw [hsz]; exact (List.getElem?_eq_some_iff.1 hi).1
    have hm := Array.getElem?_eq_getElem hlt
    have := (hms i e _ hi hm).1
    exact h2 ms[i] (by simp) (by rw [this]; exact hkv)
  · have hm : ms[j]? = some m := by simpa using h2
    obtain ⟨e, he, h4, h5⟩ := hget j m hm
    exact .inr ⟨j, e, m, by simpa using h1, he, hm, by rw [← h4]; exact h3, h3, h5⟩
theorem opj_lookup {mt kt et : TypeId} {d : TypeDesc} {x ix : Operand} {id : Nat} {es : List (Value × AV)} {kv z : Value} {a za : AV} (ho : o.op = .lookup mt x ix false) (hm : P.underlying mt = some (.map kt et)) (hd : P.underlying kt = some d) (hz : (P.info? et).bind (·.zero) = some z) (hzr : ∀ k, Rep k za z) (hx : E x = some (.mp id)) (hix : E ix = some (.v kv)) (hσ : σ id = some (.map es)) (hk : IsKey d kv) (hes : ∀ e ∈ es, IsKey d e.1) (h1 : ∀ e ∈ es, e.1 = kv → e.2 = a) (h2 : (∀ e ∈ es, e.1 ≠ kv) → za = a) (hR : R (some a) σ) : OpJ P o E σ R :=
  opj_quiet _ (fun k e hk1 hok hr => by
    subst hk1
    have hxr := hr x (by rw [ho]; simp [Op.operands]) _ hx
    have hir := rep_v (hr ix (by rw [ho]; simp [Op.operands]) _ hix)
    generalize hu : e x = u at hxr
    cases hxr with
    | @mp _ b ht hb =>
      obtain ⟨b', ms, clock, hb', hheap, hsz, hms⟩ := hok.obj id _ hσ
      rw [hb] at hb'; cases hb'
      obtain ⟨ti, hti, hz2⟩ := Option.bind_eq_some_iff.1 hz
      rcases map_spec hk hes hsz hms with ⟨h3, h4⟩ | ⟨j, e', m, h3, h4, h5, h6, h7, h8⟩
      · refine ⟨z, ?_, h2 h4 ▸ hzr _⟩
        unfold execOp
        simp only [ho, hu, hir, Instr.lookup, Sem.run_bind, run_underlying hm, MapKept.run_getObj_map hheap, MapKept.run_checkKey hd hk, MapKept.run_findKey hd h3, Result.andThen_ok, Sem.run_pure]
        simp [zeroValue, typeInfo, hti, hz2]
      · refine ⟨m.val, ?_, h1 e' (List.mem_of_getElem? h4) h6 ▸ h8⟩
        unfold execOp
        simp only [ho, hu, hir, Instr.lookup, Sem.run_bind, run_underlying hm, MapKept.run_getObj_map hheap, MapKept.run_checkKey hd hk, MapKept.run_findKey hd h3, Result.andThen_ok, Sem.run_pure]
        simp) hR
theorem opj_mapUpdate {mt kt et : TypeId} {d : TypeDesc} {x ix y : Operand} {id : Nat} {es es' : List (Value × AV)} {kv : Value} {a : AV} (ho : o.op = .mapUpdate mt x ix y) (hm : P.underlying mt = some (.map kt et)) (hd : P.underlying kt = some d) (hx : E x = some (.mp id)) (hix : E ix = some (.v kv)) (hy : E y = some a) (hσ : σ id = some (.map es)) (hk : IsKey d kv) (hes : ∀ e ∈ es, IsKey d e.1) (h1 : ∀ (i : Nat) e, es[i]? = some e → e.1 = kv → es' = es.set i (kv, a)) (h2 : (∀ e ∈ es, e.1 ≠ kv) → es' = es ++ [(kv, a)]) (hR : R none (σ.set id (.map es'))) : OpJ P o E σ R := fun k e hk1 hok hr => by
  subst hk1
  have hxr := hr x (by rw [ho]; simp [Op.operands]) _ hx
  have hir := rep_v (hr ix (by rw [ho]; simp [Op.operands]) _ hix)
  have hyr := hr y (by rw [ho]; simp [Op.operands]) _ hy
  have hid : k.σ id ≠ none := by rw [hσ]; simp
  generalize hu : e x = u at hxr
  cases hxr with
  | @mp _ b ht hb =>
    obtain ⟨b', ms, clock, hb', hheap, hsz, hms⟩ := hok.obj id _ hσ
    rw [hb] at hb'; cases hb'
    have hnc : ∀ (cs : Array Value) (t : TypeId) (f : Nat × Nat), k.w.heap[b]? ≠ some (.cells cs t f) := fun cs t f h => by rw [hheap] at h; cases h
    rcases map_spec hk hes hsz hms with ⟨h3, h4⟩ | ⟨j, e', m, h3, h4, h5, h6, h7, h8⟩
    · have e1 := h2 h4
      subst e1
      obtain ⟨hok2, hst2⟩ := hok.setObj (ob := .map (ms.push { key := kv, val := e y, born := clock }) (clock + 1)) (o' := .map (es ++ [(kv, a)])) hid hb hnc (fun k' hs hb2 hh => ⟨b, _, _, hb2, hh, by simp [hsz], fun i e2 m2 he hm2 => by
        rcases Nat.lt_trichotomy i es.length with hlt | heq | hgt
        · rw [List.getElem?_append_left hlt] at he
          rw [Array.getElem?_push_lt (by omega)] at hm2
          have := hms i e2 m2 he (by rw [Array.getElem?_eq_getElem (by omega)]; exact hm2)
          exact ⟨this.1, this.2.step hs⟩
        · subst heq
          rw [List.getElem?_append_right (Nat.le_refl _), Nat.sub_self] at he
          rw [← hsz, Array.getElem?_push_size] at hm2
          cases he; cases hm2
          exact ⟨rfl, hyr.step hs⟩
        · rw [List.getElem?_eq_none (by simp; omega)] at he; cases he⟩)
      refine ⟨_, .skip, none, ?_, hok2, hst2, hR, rfl⟩
      unfold execOp
      simp only [ho, hu, hir, Instr.mapUpdate, Sem.run_bind, run_underlying hm, MapKept.run_getObj_map hheap, MapKept.run_checkKey hd hk, MapKept.run_findKey hd h3, MapKept.run_setObj_map _ hheap, Result.andThen_ok, Sem.run_pure]
    · have e1 := h1 j e' h4 h6
      subst e1
      obtain ⟨hok2, hst2⟩ := hok.setObj (ob := .map (ms.modify j fun q => { q with key := kv, val := e y }) clock) (o' := .map (es.set j (kv, a))) hid hb hnc (fun k' hs hb2 hh => ⟨b, _, _, hb2, hh, by simp [hsz], fun i e2 m2 he hm2 => by
        rw [Array.getElem?_modify] at hm2
        by_cases hij : j = i
        · subst hij
          rw [List.getElem?_set_self (List.getElem?_eq_some_iff.1 h4).1] at he
          rw [if_pos rfl, h5] at hm2
          cases he; cases hm2
          exact ⟨rfl, hyr.step hs⟩
        · rw [List.getElem?_set_ne hij] at he
          rw [if_neg hij] at hm2
          have := hms i e2 m2 he hm2
          exact ⟨this.1, this.2.step hs⟩⟩)
      refine ⟨_, .skip, none, ?_, hok2, hst2, hR, rfl⟩
      unfold execOp
      simp only [ho, hu, hir, Instr.mapUpdate, Sem.run_bind, run_underlying hm, MapKept.run_getObj_map hheap, MapKept.run_checkKey hd hk, MapKept.run_findKey hd h3, Result.andThen_ok, Sem.run_pure, h5, Option.map_some, Option.getD_some, h7, MapKept.run_keyThatStays hk, MapKept.run_setObj_map _ hheap]
end
/-! ### Sets of names -/
def setM (ns : List ByteArray) : List (Value × AV) := ns.map fun s => (.string s, .v (.bool true))
def hasS (s : ByteArray) (ns : List ByteArray) : Bool := ns.any fun x => decide (x = s)
theorem hasS_iff {s : ByteArray} {ns : List ByteArray} : hasS s ns = true ↔ s ∈ ns := by
  unfold hasS
  rw [List.any_eq_true]
  exact ⟨fun ⟨x, hx, h⟩ => by rw [decide_eq_true_eq] at h; exact h ▸ hx, fun h => ⟨s, h, by simp⟩⟩
def putS (s : ByteArray) (ns : List ByteArray) : List ByteArray := if hasS s ns = true then ns else ns ++ [s]
theorem setM_key {ns : List ByteArray} {e : Value × AV} (h : e ∈ setM ns) : ∃ s ∈ ns, e = (.string s, .v (.bool true)) := by
  obtain ⟨s, hs, rfl⟩ := List.mem_map.1 h
  exact ⟨s, hs, rfl⟩
section
variable {P : Program} {nt : Nat} {ops : Array Oper} {Q : Post} {fr : Fr} {σ : St} {rest : List Oper} {t : Tmp} {ty : TypeId} {pos : String} {aft : Array Edge}
theorem jmm {mt : TypeId} (h : ∀ id, σ id = none → LJ P nt ops Q rest ((t, .mp id) :: fr) (σ.set id (.map []))) (hd : fits nt (some t) = true := by exact rfl) : LJ P nt ops Q (⟨some t, .makeMap mt none, ty, pos, aft, none⟩ :: rest) fr σ := lj_fc hd (fun R hR => opj_makeMap rfl hR) h
/-- A name looked for in a set of names; and put into it. -/
theorem jls {mt kt et : TypeId} {x ix : Operand} {id : Nat} {ns : List ByteArray} {s : ByteArray} (h : LJ P nt ops Q rest ((t, .v (.bool (hasS s ns))) :: fr) σ) (hm : P.underlying mt = some (.map kt et) := by exact rfl) (hd : P.underlying kt = some .string := by exact rfl) (hz : (P.info? et).bind (·.zero) = some (.bool false) := by exact rfl) (hx : ev fr x = some (.mp id) := by exact rfl) (hix : ev fr ix = some (.v (.string s)) := by exact rfl) (hσ : σ id = some (.map (setM ns)) := by exact lkp) (hd2 : fits nt (some t) = true := by exact rfl) : LJ P nt ops Q (⟨some t, .lookup mt x ix false, ty, pos, aft, none⟩ :: rest) fr σ :=
  lj_v hd2 (fun R hR => opj_lookup (za := .v (.bool false)) rfl hm hd hz (fun k => .v rfl) hx hix hσ trivial (fun e he => by obtain ⟨s', _, rfl⟩ := setM_key he; trivial) (fun e he hk => by
    obtain ⟨s', hs', rfl⟩ := setM_key he
    cases hk
    rw [hasS_iff.2 hs']) (fun hn => by
    have : hasS s ns = false := by
      rw [Bool.eq_false_iff]
      exact fun hs => hn (.string s, .v (.bool true)) (List.mem_map.2 ⟨s, hasS_iff.1 hs, rfl⟩) rfl
    rw [this]) hR) h
theorem jus {mt kt et : TypeId} {x ix y : Operand} {id : Nat} {ns : List ByteArray} {s : ByteArray} (h : LJ P nt ops Q rest fr (σ.set id (.map (setM (putS s ns))))) (hm : P.underlying mt = some (.map kt et) := by exact rfl) (hd : P.underlying kt = some .string := by exact rfl) (hx : ev fr x = some (.mp id) := by exact rfl) (hix : ev fr ix = some (.v (.string s)) := by exact rfl) (hy : ev fr y = some (.v (.bool true)) := by exact rfl) (hσ : σ id = some (.map (setM ns)) := by exact lkp) : LJ P nt ops Q (⟨none, .mapUpdate mt x ix y, ty, pos, aft, none⟩ :: rest) fr σ :=
  lj_s (fun R hR => opj_mapUpdate (es' := setM (putS s ns)) rfl hm hd hx hix hy hσ trivial (fun e he => by obtain ⟨s', _, rfl⟩ := setM_key he; trivial) (fun i e he hk => by
    have hmem := List.mem_of_getElem? he
    obtain ⟨s', hs', rfl⟩ := setM_key hmem
    cases hk
    rw [putS, if_pos (hasS_iff.2 hs')]
    apply List.ext_getElem?
    intro j
    by_cases hj : i = j
    · subst hj
      rw [List.getElem?_set_self (List.getElem?_eq_some_iff.1 he).1, he]
    · rw [List.getElem?_set_ne hj]) (fun hn => by
    rw [putS, if_neg (fun hs => hn (.string s, .v (.bool true)) (List.mem_map.2 ⟨s, hasS_iff.1 hs, rfl⟩) rfl)]
    simp [setM]) hR) h
end
end Go.Proofs.YtbpoeggmpjepfaaDoor.Ab

/- Abstract values over the model's memory: a method's value, made and called. -/
set_option linter.unusedVariables false
set_option linter.unusedSimpArgs false
set_option maxRecDepth 20000
namespace Go.Proofs.YtbpoeggmpjepfaaDoor.Ab
open Go
section
variable {P : Program} {nt : Nat} {ops : Array Oper} {Q : Post} {fr : Fr} {σ : St} {rest : List Oper} {t : Tmp} {ty : TypeId} {pos : String} {aft : Array Edge} {o : Oper} {E : Operand → Option AV} {R : Option AV → St → Prop}
theorem opj_makeBound {f : FuncId} {x : Operand} {a : AV} (ho : o.op = .makeFunc (.func f) #[x] #[]) (hx : E x = some a) (hR : R (some (.bf f [a])) σ) : OpJ P o E σ R :=
  opj_quiet _ (fun k e hk1 hk hr => by
    have hxr := hr x (by rw [ho]; simp [Op.operands]) _ hx
    refine ⟨.func (.func f) #[e x] #[], ?_, .bf rfl fun j b u hb hu => ?_⟩
    · unfold execOp
      simp [ho, Instr.makeFunc]
    · cases j with
      | zero => simp at hb hu; subst hb; subst hu; exact hxr
      | succ j => simp at hb) hR
theorem jbfn {f : FuncId} {x : Operand} {a : AV} (h : LJ P nt ops Q rest ((t, .bf f [a]) :: fr) σ) (hx : ev fr x = some a := by exact rfl) (hd : fits nt (some t) = true := by exact rfl) : LJ P nt ops Q (⟨some t, .makeFunc (.func f) #[x] #[], ty, pos, aft, none⟩ :: rest) fr σ := lj_v hd (fun R hR => opj_makeBound rfl hx hR) h
theorem lj_callb {c : Call} {x : Operand} {f : FuncId} {pre as : List AV} (ho : o.op = .call c) (hc : c.callee = .value x) (hg : o.guard = none) (hd : fits nt o.dst = true) (hx : ev fr x = some (.bf f pre)) (has : evs fr c.args.toList = some as)
    (hent : entered P f = true)
    (h : ACalls P f (pre ++ as) σ (fun e σ' => match e with
      | .ret r => LJ P nt ops Q rest (put fr o.dst (some r)) σ'
      | .panic r => Q (.panic r) fr σ')) : LJ P nt ops Q (o :: rest) fr σ := fun k a hσ hk hz hf => by
  unfold wpList
  rw [if_pos (by simp [Region.wanted, hg])]
  refine .inl ?_
  have hr := ev_ok hf x _ hx
  have hargs := evs_reps hf _ _ has
  generalize hu : a.eval x = u at hr
  cases hr with
  | bf hl hcap =>
    rename_i vs
    have hcaps : Reps k pre vs.toList := ⟨by simp [hl], fun j b v hj hv => hcap j b v hj (by simpa using hv)⟩
    have hrun : (execOp a.eval o).run P k.w = .ok (.enter f (vs ++ c.args.map a.eval)) k.w := by
      unfold execOp
      simp only [ho, resolve, hc, hu, Deferred.ofValue, invoke, Sem.run_bind, Sem.run_pure, Result.andThen_ok, run_callFunc hent]
      simp
    unfold Oper.wp
    rw [hrun]
    simp only [Oper.upon]
    have hvs : (vs ++ c.args.map a.eval) = (vs.toList ++ c.args.toList.map a.eval).toArray := by simp
    rw [hvs]
    refine (h k _ hσ hk (hcaps.append hargs)).mono fun e w' ⟨k', e', h1, h2, h3, h4, h5⟩ => ?_
    subst h1
    cases e' <;> cases e <;> simp only [EndOk] at h4
    case ret.returned r v =>
      exact wpList_mono (fun _ _ _ => conc_step h3 (Act.defers_put ..) (Act.size_put ..)) _ _ _ (h5 k' _ rfl h2 ((Act.size_put ..).trans hz) ((hf.step h3).put (by rw [hz]; exact hd) h4))
    case panic.panicked =>
      exact ⟨rfl, rfl, k', .panic _, fr, rfl, h2, h3, hf.step h3, h4, h5⟩
/-- A method's value called: what it answers, and what it leaves. -/
theorem jclb {x : Operand} {f : FuncId} {xs : Array Operand} {ts : Array TypeId} {pre as : List AV} {r : AV} {σ' : St} (hp : ACalls P f (pre ++ as) σ (fun e s => e = .ret r ∧ s = σ')) (h : LJ P nt ops Q rest ((t, r) :: fr) σ') (hx : ev fr x = some (.bf f pre) := by exact rfl) (has : evs fr xs.toList = some as := by exact rfl) (hent : entered P f = true := by exact rfl) (hd : fits nt (some t) = true := by exact rfl) : LJ P nt ops Q (⟨some t, .call { callee := .value x, args := xs, argTypes := ts }, ty, pos, aft, none⟩ :: rest) fr σ :=
  lj_callb (x := x) (f := f) (pre := pre) rfl rfl rfl hd hx has hent (hp.mono fun e s ⟨h1, h2⟩ => by subst h1; subst h2; exact h)
end
end Go.Proofs.YtbpoeggmpjepfaaDoor.Ab

/- Abstract values over the model's memory: append on a row of our own, as the last part of a region that draws. -/
set_option linter.unusedVariables false
set_option linter.unusedSimpArgs false
set_option maxRecDepth 20000
namespace Go.Proofs.YtbpoeggmpjepfaaDoor.Ab
open Go
section
variable {P : Program} {l : List Oper} {c : List (List Nat)} {n0 nt : Nat} {kp : Bool} {σ σb : St} {K2 : Fr → St → Prop} {i : Nat} {fr : Fr} {rest : List Oper} {t : Tmp} {ty : TypeId} {pos : String} {aft : Array Edge}
theorem bapo {lt et : TypeId} {sz by_ n m : Nat} {x y : Operand} {id : Nat} {els news all : List (List AV)} {ts : Array TypeId} {a : AV} (h : ∀ id', σ id' = none → DB P l false σb K2 (i + 1) rest ((t, .osl id' sz 0 m) :: fr) ((σ.del id).set id' (.row sz et all))) (hall : els.take n ++ news = all) (hm : n + news.length = m) (hts : ts = #[lt, lt] := by exact rfl) (ht : P.underlying lt = some (.slice et) := by exact rfl) (hsz : sizeIs P et = some sz := by exact rfl) (hz : (zeroIs P et).map (·.length) = some sz := by exact rfl) (hpos : Nat.blt 0 sz = true := by exact rfl) (hby : bytesIs P et = some by_ := by exact rfl) (hb1 : Nat.blt 0 by_ = true := by exact rfl) (hble : Nat.ble by_ 1024 = true := by exact rfl) (hx : ev fr x = some (.osl id sz 0 n) := by exact rfl) (hσ : σ id = some (.row sz et els) := by exact lkp) (hn : n ≤ els.length := by omega) (hy : ev fr y = some a := by exact rfl) (hs : srcOf σ a = some (sz, news) := by exact rfl) (hb : (n + news.length) * 1024 ≤ 140737488355328 := by omega) :
    DB P l false σb K2 i (⟨some t, .call { callee := .builtin .append, args := #[x, y], argTypes := ts }, ty, pos, aft, none⟩ :: rest) fr σ := by
  subst hall
  subst hm
  exact db_op (R := fun r σ1 => ∃ id', σ id' = none ∧ r = .osl id' sz 0 (n + news.length) ∧ σ1 = (σ.del id).set id' (.row sz et (els.take n ++ news))) rfl (.of_opj (opj_append_osl rfl hts (elem_of ht hsz hz hpos) hby hx hσ hn hy hs (Nat.le_trans (Nat.mul_le_mul_left _ (Nat.le_of_ble_eq_true hble)) hb) (Nat.blt_eq.mp hb1) fun id' hid => ⟨id', hid, rfl, rfl⟩)) (by intro h; cases h) fun r σ1 ⟨id', h1, h2, h3⟩ => by
    subst h2; subst h3
    exact h id' h1
end
end Go.Proofs.YtbpoeggmpjepfaaDoor.Ab

/- Abstract values over the model's memory: scopes and labels that nobody jumps to by goto. -/
set_option linter.unusedVariables false
set_option linter.unusedSimpArgs false
set_option maxRecDepth 20000
namespace Go.Proofs.YtbpoeggmpjepfaaDoor.Ab
open Go
section
variable {P : Program} {nt : Nat} {Q : Post} {fr : Fr} {σ : St}
theorem clb {n : Nat} (h : Q .normal fr σ) : CJ P nt (.label n) Q fr σ := fun k a hσ hk hz hf => wp_label ⟨rfl, rfl, k, .normal, fr, rfl, hk, .refl k, hf, trivial, hσ ▸ h⟩
theorem cj_scope {c : Code} (hg : ∀ i fr σ, ¬ Q (.goto i) fr σ) (h : CJ P nt c Q fr σ) : CJ P nt (.scope c) Q fr σ := fun k a hσ hk hz hf => by
  refine wp_scope_straight (Code.wp_mono (fun e a' w' hc => ?_) (h k a hσ hk hz hf))
  cases e with
  | goto l =>
    obtain ⟨_, _, k', e', fr', _, _, _, _, he, hq⟩ := hc
    cases e' <;> simp only [ExitOk] at he
    exact hg _ _ _ hq
  | _ => exact hc
theorem csc {c : Code} {rs : List ResultVar} {K : AEnd → St → Prop} (h : CJ P nt c (endR P rs K) fr σ) : CJ P nt (.scope c) (endR P rs K) fr σ := cj_scope (fun i fr σ h => h) h
end
end Go.Proofs.YtbpoeggmpjepfaaDoor.Ab

/- Abstract values over the model's memory: regions that draw, in which one operation turns the store; operations under a guard that never holds. -/
set_option linter.unusedVariables false
set_option linter.unusedSimpArgs false
set_option maxRecDepth 20000
namespace Go.Proofs.YtbpoeggmpjepfaaDoor.Ab
open Go
section
variable {P : Program} {l : List Oper} {c : List (List Nat)} {n0 nt m : Nat} {kp : Bool} {bs : List Nat} {σ σ0 σ1 : St} {K : Fr → St → Prop} {K1 : Fr → Prop} {i : Nat} {fr : Fr} {rest : List Oper} {t : Tmp} {op : Op} {ty : TypeId} {pos : String} {aft : Array Edge}
theorem da_eff {o : Oper} {C : AV → St → Prop} (hbs : bs = []) (hg : o.guard = none) (hn : Nat.blt i n0 = true) (hd : behindB l c bs i = true) (ha : aheadB c i = true) (hf : OpW P o (ev fr) σ C) (h : ∀ r σ1, C r σ1 → DA P l c n0 kp bs σ1 K (i + 1) rest (put fr o.dst (some r))) : DA P l c n0 kp bs σ K i (o :: rest) fr := fun hr => by
  obtain ⟨h1, h2, h3⟩ := drop_cons hr
  exact .eff h1 hbs (Nat.blt_eq.mp hn) hg hd ha hf fun r σ1 hC => h r σ1 hC h2
/-- A call that turns the store, all others ahead of it or behind it. -/
theorem acall {f : FuncId} {xs : Array Operand} {ts : Array TypeId} {as : List AV} {C : AEnd → St → Prop} (hp : ACalls P f as σ C) (h : ∀ r σ', C (.ret r) σ' → DA P l c n0 kp bs σ' K (i + 1) rest ((t, r) :: fr)) (hnp : ∀ x σ', ¬ C (.panic x) σ') (hbs : bs = [] := by exact rfl) (has : evs fr xs.toList = some as := by exact rfl) (hent : entered P f = true := by exact rfl) (hn : Nat.blt i n0 = true := by exact rfl) (hd : behindB l c bs i = true := by kernel_rfl) (ha : aheadB c i = true := by kernel_rfl) : DA P l c n0 kp bs σ K i (⟨some t, .call { callee := .value (.func f), args := xs, argTypes := ts }, ty, pos, aft, none⟩ :: rest) fr :=
  da_eff hbs rfl hn hd ha (OpW.of_calls (R := fun r σ' => C (.ret r) σ') has hent hp (fun e σ' he => by
    cases e with
    | ret r => exact ⟨r, rfl, he⟩
    | panic x => exact absurd he (hnp x σ'))) h
/-- A guard that does not hold. -/
theorem dff {j u : Nat} {w cc : Bool} {a : AV} (h : DJ P l c m σ0 σ1 K1 (i + 1) rest ((t, .mb cc (.v (.bool false))) :: fr)) (him : Nat.beq i m = false := by exact rfl) (hj : dstOf l j = some u := by exact rfl) (hl : lk fr u = some a := by exact rfl) (hg : gc a w = some cc := by exact rfl) (hf : cc = false := by exact rfl) : DJ P l c m σ0 σ1 K1 i (⟨some t, op, ty, pos, aft, some (j, w)⟩ :: rest) fr :=
  dj_cons (factb_q rfl hj hl hg him fun hc => by rw [hf] at hc; cases hc) h
theorem aff {j u : Nat} {w cc : Bool} {a : AV} (h : DA P l c n0 kp bs σ K (i + 1) rest ((t, .mb cc (.v (.bool false))) :: fr)) (hbs : inN i bs = false := by exact rfl) (hj : dstOf l j = some u := by exact rfl) (hl : lk fr u = some a := by exact rfl) (hg : gc a w = some cc := by exact rfl) (hf : cc = false := by exact rfl) : DA P l c n0 kp bs σ K i (⟨some t, op, ty, pos, aft, some (j, w)⟩ :: rest) fr :=
  da_cons hbs (fa_q rfl hj hl hg fun hc => by rw [hf] at hc; cases hc) h
end
theorem St.swap {σ : St} {a b : Nat} {x y : AObj} (h : a ≠ b) : (σ.set a x).set b y = (σ.set b y).set a x := by
  funext z
  unfold St.set
  by_cases h1 : z = b
  · have h2 : z ≠ a := fun e => h (e.symm.trans h1)
    rw [if_pos h1, if_neg h2, if_pos h1]
  · rw [if_neg h1]
    by_cases h2 : z = a
    · rw [if_pos h2, if_pos h2]
    · rw [if_neg h2, if_neg h2, if_neg h1]
theorem St.le_of_eq {σ τ : St} (h : σ = τ) : σ.le τ := h ▸ St.le_refl _
end Go.Proofs.YtbpoeggmpjepfaaDoor.Ab
