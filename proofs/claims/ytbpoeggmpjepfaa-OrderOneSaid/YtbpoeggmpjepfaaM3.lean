/- The texts AbL, Ty, one behind the other. -/
import Derived.Test.YtbpoeggmpjepfaaM1
import Derived.Test.YtbpoeggmpjepfaaM2
/- Abstract values over the model's memory: loops that keep their frame, places in slices, functions called as values, and what is told less of. -/
set_option linter.unusedVariables false
set_option linter.unusedSimpArgs false
set_option maxRecDepth 20000
namespace Go.Proofs.Ytbpoeggmpjepfaa.Ab
open Go
/-! ### What a loop keeps -/
/-- Slots that a list of operations writes. -/
def dstL : List Oper → List Nat → List Nat
  | [], acc => acc
  | o :: r, acc => match o.dst with
    | some t => dstL r (t :: acc)
    | none => dstL r acc
def dstC : Code → List Nat → List Nat
  | .region _ l _, acc => dstL l.toList acc
  | .seq x y, acc => dstC y (dstC x acc)
  | .cond _ x y, acc => dstC y (dstC x acc)
  | .block _ x, acc => dstC x acc
  | .loop x, acc => dstC x acc
  | _, acc => acc
def inN (t : Nat) : List Nat → Bool
  | [] => false
  | u :: r => bif Nat.beq t u then true else inN t r
/-- The newest entry of each slot that is none of some, told in a new list. -/
def keepK : List Nat → Fr → Fr → Option Fr
  | _, [], acc => some acc
  | ws, (t, a) :: r, acc => bif inN t ws then keepK ws r acc else keepK (t :: ws) r ((t, a) :: acc)
theorem inN_iff (t : Nat) : ∀ l : List Nat, inN t l = true ↔ t ∈ l
  | [] => by simp [inN]
  | u :: r => by
    unfold inN
    by_cases h : t = u
    · subst h; simp
    · have : Nat.beq t u = false := by
        cases hb : Nat.beq t u with
        | false => rfl
        | true => exact absurd (Nat.eq_of_beq_eq_true hb) h
      rw [this, cond_false, inN_iff t r]
      simp [h]
theorem lk_skip {t : Nat} : ∀ (p : Fr) (g : Fr), (∀ x ∈ p, x.1 ≠ t) → lk (p ++ g) t = lk g t
  | [], g, _ => rfl
  | (u, b) :: p, g, h => by
    rw [List.cons_append, lk_cons, if_neg (Ne.symm (h (u, b) (.head _)))]
    exact lk_skip p g fun x hx => h x (.tail _ hx)
theorem keep_sub : ∀ (fr : Fr) (ws : List Nat) (pre acc kf : Fr), (∀ x ∈ pre, x.1 ∈ ws) → Sub acc (pre ++ fr) → keepK ws fr acc = some kf → Sub kf (pre ++ fr)
  | [], ws, pre, acc, kf, _, ha, h => by cases h; exact ha
  | (t, a) :: r, ws, pre, acc, kf, hp, ha, h => by
    have e : pre ++ (t, a) :: r = (pre ++ [(t, a)]) ++ r := by simp
    unfold keepK at h
    cases hi : inN t ws with
    | true =>
      rw [hi, cond_true] at h
      rw [e] at ha ⊢
      refine keep_sub r ws _ acc kf (fun x hx => ?_) ha h
      rcases List.mem_append.1 hx with hx | hx
      · exact hp x hx
      · obtain rfl := List.mem_singleton.1 hx
        exact (inN_iff _ _).1 hi
    | false =>
      rw [hi, cond_false] at h
      have hl : lk (pre ++ (t, a) :: r) t = some a := by
        rw [lk_skip pre _ (fun x hx he => by
          have := (inN_iff t ws).2 (he ▸ hp x hx)
          rw [hi] at this; cases this), lk_cons, if_pos rfl]
      have ha' : Sub ((t, a) :: acc) (pre ++ (t, a) :: r) := ⟨hl, ha⟩
      rw [e] at ha' ⊢
      refine keep_sub r (t :: ws) _ _ kf (fun x hx => ?_) ha' h
      rcases List.mem_append.1 hx with hx | hx
      · exact .tail _ (hp x hx)
      · obtain rfl := List.mem_singleton.1 hx
        exact .head _
theorem subw_of_sub {g : Fr} : ∀ {f : Fr}, Sub f g → SubW f g
  | [], _ => trivial
  | (t, a) :: r, h => ⟨⟨a, h.1, fun _ _ x => x⟩, subw_of_sub h.2⟩
theorem subw_append {g : Fr} : ∀ {a b : Fr}, SubW a g → SubW b g → SubW (a ++ b) g
  | [], b, _, h => h
  | (t, x) :: a, b, ha, hb => ⟨ha.1, subw_append ha.2 hb⟩
def Op1 (c : Code) : Option (List Nat) := some (dstC c [])
section
variable {P : Program} {nt : Nat} {Q : Post} {fr : Fr} {σ : St} {c : Code}
/-- A loop: C what it carries, by a state of one's own; what it does not write stays as it is. -/
theorem cj_for {α : Type} (I : α → Prop) (C : α → Fr) (S : α → St) (m : α → Nat) (s0 : α) {kf : Fr} (hI : I s0) (hC : SubW (C s0) fr) (hσ : (S s0).le σ)
    (hr : ∀ s, I s → CJ P nt c (thn Q (fun fr' σ' => ∃ s', I s' ∧ m s' < m s ∧ SubW (C s') fr' ∧ Sub kf fr' ∧ (S s').le σ')) (C s ++ kf) (S s)) (hk : keepK (dstC c []) fr [] = some kf := by exact rfl) : CJ P nt (.loop c) Q fr σ :=
  cj_headW I (fun s => C s ++ kf) S m s0 hI (subw_append hC (subw_of_sub (keep_sub fr _ [] [] kf (fun x hx => by cases hx) trivial hk))) hσ (fun s hs => (hr s hs).mono fun e fr' σ' h => by
    cases e with
    | normal => obtain ⟨s', h1, h2, h3, h4, h5⟩ := h; exact ⟨s', h1, h2, subw_append h3 (subw_of_sub h4), h5⟩
    | _ => exact h)
end
/-! ### Less told -/
def WkL : List AV → List AV → Prop
  | [], [] => True
  | a :: l, b :: m => Wk a b ∧ WkL l m
  | _, _ => False
theorem WkL.length : ∀ {l m : List AV}, WkL l m → l.length = m.length
  | [], [], _ => rfl
  | _ :: _, _ :: _, h => congrArg (· + 1) (WkL.length h.2)
  | [], _ :: _, h => h.elim
  | _ :: _, [], h => h.elim
theorem WkL.get : ∀ {l m : List AV}, WkL l m → ∀ (j : Nat) a b, l[j]? = some a → m[j]? = some b → Wk a b
  | [], _, _, j, a, b, h, _ => by simp at h
  | _ :: _, [], h, _, _, _, _, _ => h.elim
  | x :: l, y :: m, h, 0, a, b, ha, hb => by simp at ha hb; subst ha; subst hb; exact h.1
  | x :: l, y :: m, h, j + 1, a, b, ha, hb => WkL.get h.2 j a b (by simpa using ha) (by simpa using hb)
theorem WkL.refl : ∀ l : List AV, WkL l l
  | [] => trivial
  | a :: l => ⟨Wk.refl a, WkL.refl l⟩
theorem Wk.trans {a b c : AV} (h : Wk a b) (h' : Wk b c) : Wk a c := fun k u r => h' k u (h k u r)
theorem Wk.agg {a b : List AV} (h : WkL a b) : Wk (.agg a) (.agg b) := fun k u r => by
  cases r with
  | agg hl h1 h2 =>
    exact .agg (hl.trans h.length) h1 fun j x u hx hu => by
      have hj : j < a.length := by rw [h.length]; exact (List.getElem?_eq_some_iff.1 hx).1
      exact h.get j _ x (List.getElem?_eq_getElem hj) hx k u (h2 j _ u (List.getElem?_eq_getElem hj) hu)
theorem Wk.tup {a b : List AV} (h : WkL a b) : Wk (.tup a) (.tup b) := fun k u r => by
  cases r with
  | tup hl h2 =>
    exact .tup (hl.trans h.length) fun j x u hx hu => by
      have hj : j < a.length := by rw [h.length]; exact (List.getElem?_eq_some_iff.1 hx).1
      exact h.get j _ x (List.getElem?_eq_getElem hj) hx k u (h2 j _ u (List.getElem?_eq_getElem hj) hu)
def WkE : List (List AV) → List (List AV) → Prop
  | [], [] => True
  | a :: l, b :: m => WkL a b ∧ WkE l m
  | _, _ => False
theorem WkE.length : ∀ {l m : List (List AV)}, WkE l m → l.length = m.length
  | [], [], _ => rfl
  | _ :: _, _ :: _, h => congrArg (· + 1) (WkE.length h.2)
  | [], _ :: _, h => h.elim
  | _ :: _, [], h => h.elim
theorem WkE.get : ∀ {l m : List (List AV)}, WkE l m → ∀ (j : Nat) a b, l[j]? = some a → m[j]? = some b → WkL a b
  | [], _, _, j, a, b, h, _ => by simp at h
  | _ :: _, [], h, _, _, _, _, _ => h.elim
  | x :: l, y :: m, h, 0, a, b, ha, hb => by simp at ha hb; subst ha; subst hb; exact h.1
  | x :: l, y :: m, h, j + 1, a, b, ha, hb => WkE.get h.2 j a b (by simpa using ha) (by simpa using hb)
theorem WkE.refl : ∀ l : List (List AV), WkE l l
  | [] => trivial
  | a :: l => ⟨WkL.refl a, WkE.refl l⟩
theorem getE {α : Type} {a : List α} {n j : Nat} (h : n = a.length) (hj : j < n) : ∃ x, a[j]? = some x := ⟨_, List.getElem?_eq_getElem (h ▸ hj)⟩
theorem Wk.els {nl : Option Bool} {full : Bool} {sz : Nat} {a b : List (List AV)} (h : WkE a b) : Wk (.sl nl full sz a) (.sl none false sz b) := fun k u r => by
  refine Wk.trans (b := .sl nl full sz b) ?_ (Wk.sl _ _ _ _) k u r
  clear r u k
  intro k u r
  have hlen := h.length
  have get1 : ∀ (j : Nat) (y : List AV), b[j]? = some y → ∃ x, a[j]? = some x ∧ WkL x y := fun j y hy => by
    have hj : j < a.length := by rw [hlen]; exact (List.getElem?_eq_some_iff.1 hy).1
    exact ⟨_, List.getElem?_eq_getElem hj, h.get j _ y (List.getElem?_eq_getElem hj) hy⟩
  have get2 : ∀ (x y : List AV), WkL x y → ∀ (j : Nat) (w : AV), y[j]? = some w → ∃ v, x[j]? = some v ∧ Wk v w := fun x y hxy j w hw => by
    have hj : j < x.length := by rw [hxy.length]; exact (List.getElem?_eq_some_iff.1 hw).1
    exact ⟨_, List.getElem?_eq_getElem hj, hxy.get j _ w (List.getElem?_eq_getElem hj) hw⟩
  cases r with
  | slnil hn => cases b with
    | nil => exact .slnil hn
    | cons y b => simp at hlen
  | sle hn => cases b with
    | nil => exact .sle hn
    | cons y b => simp at hlen
  | @sl _ _ _ _ bb o cap f hn hc hm hf hsz hfr hw hcc =>
    rw [hlen]
    refine .sl (f := f) hn (hlen ▸ hc) (hlen ▸ hm) (fun e => hlen ▸ hf e) (fun i e he => ?_) (fun hne => hfr fun e => hne ?_) (fun i j e w he hj => ?_) (fun i j e w he hj => ?_)
    · obtain ⟨x, hx, hxe⟩ := get1 i e he
      rw [← hxe.length]; exact hsz i x hx
    · exact List.length_eq_zero_iff.1 (by rw [← hlen, e]; rfl)
    · obtain ⟨x, hx, hxe⟩ := get1 i e he
      obtain ⟨v, hv, _⟩ := get2 x e hxe j w hj
      exact hw i j x v hx hv
    · obtain ⟨x, hx, hxe⟩ := get1 i e he
      obtain ⟨v, hv, hvw⟩ := get2 x e hxe j w hj
      exact hvw k _ (hcc i j x v hx hv)
theorem Reps.wk {k : Cx} {a b : List AV} {vs : List Value} (h : WkL a b) (hr : Reps k a vs) : Reps k b vs :=
  ⟨hr.1.trans h.length, fun j x u hx hu => by
    have hj : j < a.length := by rw [h.length]; exact (List.getElem?_eq_some_iff.1 hx).1
    exact h.get j _ x (List.getElem?_eq_getElem hj) hx k u (hr.2 j _ u (List.getElem?_eq_getElem hj) hu)⟩
theorem ACalls.wk {P : Program} {f : FuncId} {as bs : List AV} {σ : St} {R : AEnd → St → Prop} (h : ACalls P f bs σ R) (hw : WkL as bs) : ACalls P f as σ R := fun k vs hσ hk hv => h k vs hσ hk (Reps.wk hw hv)
theorem Pure.wka {P : Program} {f : FuncId} {as bs : List AV} {r : AV} (h : Pure P f bs r) (hw : WkL as bs) : Pure P f as r := fun σ => (h σ).wk hw
section
variable {P : Program} {nt : Nat} {ops : Array Oper} {Q : Post} {fr : Fr} {σ : St} {rest : List Oper} {t : Tmp} {ty : TypeId} {pos : String} {aft : Array Edge}
/-! ### Places in slices -/
theorem ji1 {it et : TypeId} {x ix : Operand} {nl : Option Bool} {full : Bool} {sz : Nat} {els : List (List AV)} {kk : IntKind} {n : Int} {el : List AV} (h : LJ P nt ops Q rest ((t, .fp el) :: fr) σ) (ht : P.underlying it = some (.slice et) := by exact rfl) (hs : sizeIs P et = some sz := by exact rfl) (hx : ev fr x = some (.sl nl full sz els) := by exact rfl) (hi : ev fr ix = some (.v (.int kk n)) := by exact rfl) (h0 : 0 ≤ n := by first | omega | (simp (disch := omega) only [w64, sb_bt, Int.toNat_zero, Int.toNat_one]; omega)) (hel : els[n.toNat]? = some el := by first | assumption | exact rfl) (hd : fits nt (some t) = true := by exact rfl) : LJ P nt ops Q (⟨some t, .indexAddr it x ix, ty, pos, aft, none⟩ :: rest) fr σ := lj_v hd (fun R hR => opj_indexAddr_sl rfl ht hs hx hi h0 hel hR) h
theorem ji2 {it et : TypeId} {x ix : Operand} {nl : Option Bool} {full : Bool} {sz : Nat} {els : List (List AV)} {kk : IntKind} {n : Int} {el : List AV} {j u : Nat} {b : Bool} {a : AV} (h : LJ P nt ops Q rest ((t, .fp el) :: fr) σ) (hj : (ops[j]?).bind (·.dst) = some u := by exact rfl) (hl : lk fr u = some a := by exact rfl) (hb : a = .v (.bool b) := by with_reducible rfl) (ht : P.underlying it = some (.slice et) := by exact rfl) (hs : sizeIs P et = some sz := by exact rfl) (hx : ev fr x = some (.sl nl full sz els) := by exact rfl) (hi : ev fr ix = some (.v (.int kk n)) := by exact rfl) (h0 : 0 ≤ n := by first | omega | (simp (disch := omega) only [w64, sb_bt, Int.toNat_zero, Int.toNat_one]; omega)) (hel : els[n.toNat]? = some el := by first | assumption | exact rfl) (hd : fits nt (some t) = true := by exact rfl) : LJ P nt ops Q (⟨some t, .indexAddr it x ix, ty, pos, aft, some (j, b)⟩ :: rest) fr σ := lj_vy hd hj (hb ▸ hl) (fun R hR => opj_indexAddr_sl rfl ht hs hx hi h0 hel hR) h
theorem ji3 {it et : TypeId} {x ix : Operand} {nl : Option Bool} {full : Bool} {sz : Nat} {els : List (List AV)} {kk : IntKind} {n : Int} {el : List AV} {j u : Nat} {w cc : Bool} {a : AV} (h : LJ P nt ops Q rest ((t, .mb cc (.fp el)) :: fr) σ) (hj : (ops[j]?).bind (·.dst) = some u := by exact rfl) (hl : lk fr u = some a := by exact rfl) (hg : gc a w = some cc := by exact rfl) (ht : P.underlying it = some (.slice et) := by exact rfl) (hs : sizeIs P et = some sz := by exact rfl) (hx : ev (strip fr) x = some (.sl nl full sz els) := by exact rfl) (hi : ev (strip fr) ix = some (.v (.int kk n)) := by exact rfl) (h0 : cc = true → 0 ≤ n := by intro h; first | omega | (simp only [Bool.and_eq_true, decide_eq_true_eq, Bool.not_eq_true', decide_eq_false_iff_not] at h; omega) | (simp only [Bool.and_eq_true, decide_eq_true_eq, Bool.not_eq_true', decide_eq_false_iff_not] at h; simp (disch := omega) only [w64, sb_bt, Int.toNat_zero, Int.toNat_one] at h ⊢; omega)) (hel : cc = true → els[n.toNat]? = some el := by intro h; first | assumption | exact rfl) (hd : fits nt (some t) = true := by exact rfl) (hn : Needs cc fr (Op.indexAddr it x ix).operands.toList := by repeat' (first | exact True.intro | refine And.intro ?_ ?_ | exact nd0 rfl | exact nd1 rfl | exact nd2 rfl | exact nd3 rfl | exact nd4 rfl)) : LJ P nt ops Q (⟨some t, .indexAddr it x ix, ty, pos, aft, some (j, w)⟩ :: rest) fr σ := lj_q hd hj hl hg hn (fun hc R hR => opj_indexAddr_sl rfl ht hs hx hi (h0 hc) (hel hc) hR) h
theorem ji4 {it et : TypeId} {x ix : Operand} {id sz off len : Nat} {kk : IntKind} {n : Int} (h : LJ P nt ops Q rest ((t, .ptr id sz (off + n.toNat) 0) :: fr) σ) (ht : P.underlying it = some (.slice et) := by exact rfl) (hs : sizeIs P et = some sz := by exact rfl) (hx : ev fr x = some (.osl id sz off len) := by exact rfl) (hi : ev fr ix = some (.v (.int kk n)) := by exact rfl) (h0 : 0 ≤ n := by first | omega | (simp (disch := omega) only [w64, sb_bt, Int.toNat_zero, Int.toNat_one]; omega)) (h1 : n < len := by first | omega | (simp (disch := omega) only [w64, sb_bt, Int.toNat_zero, Int.toNat_one]; omega)) (hd : fits nt (some t) = true := by exact rfl) : LJ P nt ops Q (⟨some t, .indexAddr it x ix, ty, pos, aft, none⟩ :: rest) fr σ := lj_v hd (fun R hR => opj_indexAddr_osl rfl ht hs hx hi h0 h1 hR) h
theorem ji5 {it et : TypeId} {x ix : Operand} {id sz off len : Nat} {kk : IntKind} {n : Int} {j u : Nat} {b : Bool} {a : AV} (h : LJ P nt ops Q rest ((t, .ptr id sz (off + n.toNat) 0) :: fr) σ) (hj : (ops[j]?).bind (·.dst) = some u := by exact rfl) (hl : lk fr u = some a := by exact rfl) (hb : a = .v (.bool b) := by with_reducible rfl) (ht : P.underlying it = some (.slice et) := by exact rfl) (hs : sizeIs P et = some sz := by exact rfl) (hx : ev fr x = some (.osl id sz off len) := by exact rfl) (hi : ev fr ix = some (.v (.int kk n)) := by exact rfl) (h0 : 0 ≤ n := by first | omega | (simp (disch := omega) only [w64, sb_bt, Int.toNat_zero, Int.toNat_one]; omega)) (h1 : n < len := by first | omega | (simp (disch := omega) only [w64, sb_bt, Int.toNat_zero, Int.toNat_one]; omega)) (hd : fits nt (some t) = true := by exact rfl) : LJ P nt ops Q (⟨some t, .indexAddr it x ix, ty, pos, aft, some (j, b)⟩ :: rest) fr σ := lj_vy hd hj (hb ▸ hl) (fun R hR => opj_indexAddr_osl rfl ht hs hx hi h0 h1 hR) h
theorem ji6 {it et : TypeId} {x ix : Operand} {id sz sz' na ii jj : Nat} {kk : IntKind} {n : Int} (h : LJ P nt ops Q rest ((t, .ptr id sz ii (jj + n.toNat * sz')) :: fr) σ) (ht : P.underlying it = some (.array na et) := by exact rfl) (hs : sizeIs P et = some sz' := by exact rfl) (hx : ev fr x = some (.ptr id sz ii jj) := by exact rfl) (hi : ev fr ix = some (.v (.int kk n)) := by exact rfl) (h0 : 0 ≤ n := by first | omega | (simp (disch := omega) only [w64, sb_bt, Int.toNat_zero, Int.toNat_one]; omega)) (h1 : n < na := by first | omega | (simp (disch := omega) only [w64, sb_bt, Int.toNat_zero, Int.toNat_one]; omega)) (hd : fits nt (some t) = true := by exact rfl) : LJ P nt ops Q (⟨some t, .indexAddr it x ix, ty, pos, aft, none⟩ :: rest) fr σ := lj_v hd (fun R hR => opj_indexAddr_arr rfl ht hs hx hi h0 h1 hR) h
/-- A function called as a value. -/
theorem jcl {x : Operand} {f : FuncId} {xs : Array Operand} {ts : Array TypeId} {caps as : List AV} {r : AV} (hp : Pure P f (as ++ caps) r) (h : LJ P nt ops Q rest ((t, r) :: fr) σ) (hx : ev fr x = some (.fn f caps) := by exact rfl) (has : evs fr xs.toList = some as := by exact rfl) (hent : entered P f = true := by exact rfl) (hd : fits nt (some t) = true := by exact rfl) : LJ P nt ops Q (⟨some t, .call { callee := .value x, args := xs, argTypes := ts }, ty, pos, aft, none⟩ :: rest) fr σ := lj_call_pure (x := x) (f := f) (caps := caps) rfl rfl rfl hd hx has hent hp h
/-- A call whose arguments are told more of. -/
theorem jpw {f : FuncId} {xs : Array Operand} {ts : Array TypeId} {as bs : List AV} {r : AV} (hp : Pure P f bs r) (hw : WkL as bs) (h : LJ P nt ops Q rest ((t, r) :: fr) σ) (has : evs fr xs.toList = some as := by exact rfl) (hent : entered P f = true := by exact rfl) (hd : fits nt (some t) = true := by exact rfl) : LJ P nt ops Q (⟨some t, .call { callee := .value (.func f), args := xs, argTypes := ts }, ty, pos, aft, none⟩ :: rest) fr σ := lj_pure hd has hent (hp.wka hw) h
end
section
variable {P : Program} {l : List Oper} {c : List (List Nat)} {m nt : Nat} {σ σ0 σ1 : St} {K : Fr → Prop} {i : Nat} {fr : Fr} {rest : List Oper} {t : Tmp} {ty : TypeId} {pos : String} {aft : Array Edge}
theorem di1 {it et : TypeId} {x ix : Operand} {nl : Option Bool} {full : Bool} {sz : Nat} {els : List (List AV)} {kk : IntKind} {n : Int} {el : List AV} (h : DJ P l c m σ0 σ1 K (i + 1) rest ((t, .fp el) :: fr)) (him : Nat.beq i m = false := by exact rfl) (ht : P.underlying it = some (.slice et) := by exact rfl) (hs : sizeIs P et = some sz := by exact rfl) (hx : ev fr x = some (.sl nl full sz els) := by exact rfl) (hi : ev fr ix = some (.v (.int kk n)) := by exact rfl) (h0 : 0 ≤ n := by first | omega | (simp (disch := omega) only [w64, sb_bt, Int.toNat_zero, Int.toNat_one]; omega)) (hel : els[n.toNat]? = some el := by first | assumption | exact rfl) : DJ P l c m σ0 σ1 K i (⟨some t, .indexAddr it x ix, ty, pos, aft, none⟩ :: rest) fr := dj_v him (fun R hR => opj_indexAddr_sl rfl ht hs hx hi h0 hel hR) (fun R hR => opj_indexAddr_sl rfl ht hs hx hi h0 hel hR) h
theorem di2 {it et : TypeId} {x ix : Operand} {nl : Option Bool} {full : Bool} {sz : Nat} {els : List (List AV)} {kk : IntKind} {n : Int} {el : List AV} {j u : Nat} {b : Bool} {a : AV} (h : DJ P l c m σ0 σ1 K (i + 1) rest ((t, .fp el) :: fr)) (him : Nat.beq i m = false := by exact rfl) (hj : dstOf l j = some u := by exact rfl) (hl : lk fr u = some a := by exact rfl) (hb : a = .v (.bool b) := by with_reducible rfl) (ht : P.underlying it = some (.slice et) := by exact rfl) (hs : sizeIs P et = some sz := by exact rfl) (hx : ev fr x = some (.sl nl full sz els) := by exact rfl) (hi : ev fr ix = some (.v (.int kk n)) := by exact rfl) (h0 : 0 ≤ n := by first | omega | (simp (disch := omega) only [w64, sb_bt, Int.toNat_zero, Int.toNat_one]; omega)) (hel : els[n.toNat]? = some el := by first | assumption | exact rfl) : DJ P l c m σ0 σ1 K i (⟨some t, .indexAddr it x ix, ty, pos, aft, some (j, b)⟩ :: rest) fr := dj_vy him hj (hb ▸ hl) (fun R hR => opj_indexAddr_sl rfl ht hs hx hi h0 hel hR) (fun R hR => opj_indexAddr_sl rfl ht hs hx hi h0 hel hR) h
theorem di3 {it et : TypeId} {x ix : Operand} {nl : Option Bool} {full : Bool} {sz : Nat} {els : List (List AV)} {kk : IntKind} {n : Int} {el : List AV} {j u : Nat} {w cc : Bool} {a : AV} (h : DJ P l c m σ0 σ1 K (i + 1) rest ((t, .mb cc (.fp el)) :: fr)) (him : Nat.beq i m = false := by exact rfl) (hj : dstOf l j = some u := by exact rfl) (hl : lk fr u = some a := by exact rfl) (hg : gc a w = some cc := by exact rfl) (ht : P.underlying it = some (.slice et) := by exact rfl) (hs : sizeIs P et = some sz := by exact rfl) (hx : ev (strip fr) x = some (.sl nl full sz els) := by exact rfl) (hi : ev (strip fr) ix = some (.v (.int kk n)) := by exact rfl) (h0 : cc = true → 0 ≤ n := by intro h; first | omega | (simp only [Bool.and_eq_true, decide_eq_true_eq, Bool.not_eq_true', decide_eq_false_iff_not] at h; omega) | (simp only [Bool.and_eq_true, decide_eq_true_eq, Bool.not_eq_true', decide_eq_false_iff_not] at h; simp (disch := omega) only [w64, sb_bt, Int.toNat_zero, Int.toNat_one] at h ⊢; omega)) (hel : cc = true → els[n.toNat]? = some el := by intro h; first | assumption | exact rfl) (hn : Needs cc fr (Op.indexAddr it x ix).operands.toList := by repeat' (first | exact True.intro | refine And.intro ?_ ?_ | exact nd0 rfl | exact nd1 rfl | exact nd2 rfl | exact nd3 rfl | exact nd4 rfl)) : DJ P l c m σ0 σ1 K i (⟨some t, .indexAddr it x ix, ty, pos, aft, some (j, w)⟩ :: rest) fr := dj_q him hj hl hg hn (fun hc R hR => opj_indexAddr_sl rfl ht hs hx hi (h0 hc) (hel hc) hR) (fun hc R hR => opj_indexAddr_sl rfl ht hs hx hi (h0 hc) (hel hc) hR) h
theorem di4 {it et : TypeId} {x ix : Operand} {id sz off len : Nat} {kk : IntKind} {n : Int} (h : DJ P l c m σ0 σ1 K (i + 1) rest ((t, .ptr id sz (off + n.toNat) 0) :: fr)) (him : Nat.beq i m = false := by exact rfl) (ht : P.underlying it = some (.slice et) := by exact rfl) (hs : sizeIs P et = some sz := by exact rfl) (hx : ev fr x = some (.osl id sz off len) := by exact rfl) (hi : ev fr ix = some (.v (.int kk n)) := by exact rfl) (h0 : 0 ≤ n := by first | omega | (simp (disch := omega) only [w64, sb_bt, Int.toNat_zero, Int.toNat_one]; omega)) (h1 : n < len := by first | omega | (simp (disch := omega) only [w64, sb_bt, Int.toNat_zero, Int.toNat_one]; omega)) : DJ P l c m σ0 σ1 K i (⟨some t, .indexAddr it x ix, ty, pos, aft, none⟩ :: rest) fr := dj_v him (fun R hR => opj_indexAddr_osl rfl ht hs hx hi h0 h1 hR) (fun R hR => opj_indexAddr_osl rfl ht hs hx hi h0 h1 hR) h
theorem di6 {it et : TypeId} {x ix : Operand} {id sz sz' na ii jj : Nat} {kk : IntKind} {n : Int} (h : DJ P l c m σ0 σ1 K (i + 1) rest ((t, .ptr id sz ii (jj + n.toNat * sz')) :: fr)) (him : Nat.beq i m = false := by exact rfl) (ht : P.underlying it = some (.array na et) := by exact rfl) (hs : sizeIs P et = some sz' := by exact rfl) (hx : ev fr x = some (.ptr id sz ii jj) := by exact rfl) (hi : ev fr ix = some (.v (.int kk n)) := by exact rfl) (h0 : 0 ≤ n := by first | omega | (simp (disch := omega) only [w64, sb_bt, Int.toNat_zero, Int.toNat_one]; omega)) (h1 : n < na := by first | omega | (simp (disch := omega) only [w64, sb_bt, Int.toNat_zero, Int.toNat_one]; omega)) : DJ P l c m σ0 σ1 K i (⟨some t, .indexAddr it x ix, ty, pos, aft, none⟩ :: rest) fr := dj_v him (fun R hR => opj_indexAddr_arr rfl ht hs hx hi h0 h1 hR) (fun R hR => opj_indexAddr_arr rfl ht hs hx hi h0 h1 hR) h
end
section
variable {P : Program} {nt : Nat} {ops : Array Oper} {Q : Post} {fr : Fr} {σ : St} {c : Code}
/-- Likewise, nothing of ours is turned. -/
theorem cj_fors {α : Type} (I : α → Prop) (C : α → Fr) (m : α → Nat) (s0 : α) {kf : Fr} (hI : I s0) (hC : SubW (C s0) fr)
    (hr : ∀ s, I s → CJ P nt c (thn Q (fun fr' σ' => ∃ s', I s' ∧ m s' < m s ∧ SubW (C s') fr' ∧ Sub kf fr' ∧ σ.le σ')) (C s ++ kf) σ) (hk : keepK (dstC c []) fr [] = some kf := by exact rfl) : CJ P nt (.loop c) Q fr σ :=
  cj_for I C (fun _ => σ) m s0 hI hC (St.le_refl _) hr hk
/-- The end of a round. -/
theorem nx_for {α : Type} {I : α → Prop} {C : α → Fr} {m : α → Nat} {k : Nat} {kf : Fr} {σ0 : St} (s' : α) (hI : I s') (hm : m s' < k) (hC : SubW (C s') fr) (hk : Sub kf fr := by repeat' (first | exact True.intro | refine And.intro rfl ?_)) (hle : σ0.le σ := by repeat' (first | exact St.le_refl _ | refine St.le_any ?_)) :
    thn Q (fun fr' σ' => ∃ s', I s' ∧ m s' < k ∧ SubW (C s') fr' ∧ Sub kf fr' ∧ σ0.le σ') .normal fr σ := nx_thn ⟨s', hI, hm, hC, hk, hle⟩
theorem lenfact {k : Cx} {nl : Option Bool} {full : Bool} {sz : Nat} {els : List (List AV)} {u : Value} (h : Rep k (.sl nl full sz els) u) : els.length ≤ maxLen := by
  cases h with
  | slnil => exact Nat.zero_le _
  | sle => exact Nat.zero_le _
  | sl hn hc hm => exact hm
theorem cj_len (t : Nat) {nl : Option Bool} {full : Bool} {sz : Nat} {els : List (List AV)} (h : els.length ≤ 9223372036854775807 → CJ P nt c Q fr σ) (ht : lk fr t = some (.sl nl full sz els) := by exact rfl) : CJ P nt c Q fr σ := fun k a hσ hk hz hf => by
  obtain ⟨v, _, hv⟩ := hf t _ ht
  exact h (lenfact hv) k a hσ hk hz hf
theorem lj_len (t : Nat) {l : List Oper} {nl : Option Bool} {full : Bool} {sz : Nat} {els : List (List AV)} (h : els.length ≤ 9223372036854775807 → LJ P nt ops Q l fr σ) (ht : lk fr t = some (.sl nl full sz els) := by exact rfl) : LJ P nt ops Q l fr σ := fun k a hσ hk hz hf => by
  obtain ⟨v, _, hv⟩ := hf t _ ht
  exact h (lenfact hv) k a hσ hk hz hf
theorem cj_lenA (t j : Nat) {cs : List AV} {nl : Option Bool} {full : Bool} {sz : Nat} {els : List (List AV)} (h : els.length ≤ 9223372036854775807 → CJ P nt c Q fr σ) (ht : lk fr t = some (.agg cs) := by exact rfl) (hj : cs[j]? = some (.sl nl full sz els) := by exact rfl) : CJ P nt c Q fr σ := fun k a hσ hk hz hf => by
  obtain ⟨v, _, hv⟩ := hf t _ ht
  cases hv with
  | @agg _ vs hl h1 h2 =>
    have hlt : j < vs.size := by rw [hl]; exact (List.getElem?_eq_some_iff.1 hj).1
    exact h (lenfact (h2 j _ vs[j] hj (Array.getElem?_eq_getElem hlt))) k a hσ hk hz hf
theorem wk1 {i : Nat} (h : i < 9223372036854775807) : Wk (.v (.int .i64 (IntKind.i64.wrap ((i : Int) + 1)))) (.v (.int .i64 ((i + 1 : Nat) : Int))) := Wk.of_eq (by rw [w64 (by omega) (by omega)]; rfl)
/-- A function called as a value, that reads what is ours. -/
theorem jcs {rest : List Oper} {t : Tmp} {ty : TypeId} {pos : String} {aft : Array Edge} {x : Operand} {f : FuncId} {xs : Array Operand} {ts : Array TypeId} {caps as : List AV} {r : AV} {σ' : St} (hent : entered P f = true) (hp : ACalls P f (as ++ caps) σ (fun e σ2 => e = .ret r ∧ σ2 = σ')) (h : LJ P nt ops Q rest ((t, r) :: fr) σ')
    (hx : ev fr x = some (.fn f caps) := by exact rfl) (has : evs fr xs.toList = some as := by exact rfl) (hd : fits nt (some t) = true := by exact rfl) : LJ P nt ops Q (⟨some t, .call { callee := .value x, args := xs, argTypes := ts }, ty, pos, aft, none⟩ :: rest) fr σ :=
  lj_call (x := x) (f := f) (caps := caps) rfl rfl rfl hd hx has hent (hp.mono fun e σ2 ⟨h1, h2⟩ => by subst h1; subst h2; exact h)
end
theorem dropn {α : Type} {l : List α} {i : Nat} (h : l.drop i = []) : l.length ≤ i := by simpa using h
theorem dropc {α : Type} {l : List α} {i : Nat} {x : α} {r : List α} (h : l.drop i = x :: r) : i < l.length ∧ l.drop (i + 1) = r ∧ l[i]? = some x := by
  have h1 : i < l.length := by
    have := congrArg List.length h
    simp at this; omega
  rw [List.drop_eq_getElem_cons h1] at h
  exact ⟨h1, (List.cons.inj h).2, by rw [List.getElem?_eq_getElem h1, (List.cons.inj h).1]⟩
theorem get_map {α β : Type} {l : List α} {i : Nat} {x : α} (f : α → β) (h : l[i]? = some x) : (l.map f)[(i : Int).toNat]? = some (f x) := by
  rw [Int.toNat_natCast, List.getElem?_map, h]; rfl
/-- The first place at which g holds, or -1. -/
def idxG {α : Type} (g : α → Bool) : List α → Nat → Int
  | [], _ => -1
  | x :: r, i => if g x = true then i else idxG g r (i + 1)
theorem idxG_lt {α : Type} (g : α → Bool) : ∀ (l : List α) (i : Nat), idxG g l i < 0 ↔ ∀ x ∈ l, g x = false
  | [], i => by simp [idxG]
  | x :: r, i => by
    unfold idxG
    by_cases h : g x = true
    · rw [if_pos h]; simp [h]
    · rw [if_neg h, idxG_lt g r (i + 1)]; simp [Bool.not_eq_true _ ▸ h]
theorem idxG_get {α : Type} (g : α → Bool) : ∀ (l : List α) (i : Nat), 0 ≤ idxG g l i → ∃ j x, idxG g l i = ((i + j : Nat) : Int) ∧ l[j]? = some x ∧ g x = true ∧ l.find? g = some x
  | [], i, h => by simp [idxG] at h
  | x :: r, i, h => by
    unfold idxG at h ⊢
    by_cases hx : g x = true
    · exact ⟨0, x, by rw [if_pos hx]; rfl, rfl, hx, by simp [hx]⟩
    · rw [if_neg hx] at h ⊢
      obtain ⟨j, y, h1, h2, h3, h4⟩ := idxG_get g r (i + 1) h
      exact ⟨j + 1, y, by rw [h1]; congr 1; omega, by simpa using h2, h3, by simp [hx, h4]⟩
end Go.Proofs.Ytbpoeggmpjepfaa.Ab

/- The program's data. -/
set_option linter.unusedVariables false
set_option linter.unusedSimpArgs false
set_option maxRecDepth 20000
namespace Go.Proofs.Ytbpoeggmpjepfaa.Ab
open Go
structure Vl where
  k : Int
  n : Int
  s : ByteArray
  deriving DecidableEq
structure Cls where
  name : ByteArray
  attrs : List ByteArray
structure Fc where
  tag : Int
  cls : ByteArray
  vals : List Vl
structure Bd where
  name : ByteArray
  val : Vl
abbrev vc (v : Vl) : List AV := [.v (.int .u8 v.k), .v (.int .i64 v.n), .v (.string v.s)]
abbrev str1 (s : ByteArray) : List AV := [.v (.string s)]
abbrev cc (c : Cls) : List AV := [.v (.string c.name), .sl none false 1 (c.attrs.map str1)]
abbrev fc (f : Fc) : List AV := [.v (.int .i64 f.tag), .v (.string f.cls), .sl none false 3 (f.vals.map vc)]
abbrev bc (b : Bd) : List AV := [.v (.string b.name), .v (.int .u8 b.val.k), .v (.int .i64 b.val.n), .v (.string b.val.s)]
structure Tst where
  p : Int
  v : ByteArray
  val : Vl
structure Atr where
  attr : ByteArray
  ones : List Vl
  tests : List Tst
structure Cnd where
  neg : Bool
  cls : ByteArray
  attrs : List Atr
abbrev tc (t : Tst) : List AV := [.v (.int .u8 t.p), .v (.string t.v), .v (.int .u8 t.val.k), .v (.int .i64 t.val.n), .v (.string t.val.s)]
abbrev ac (a : Atr) : List AV := [.v (.string a.attr), .sl none false 3 (a.ones.map vc), .sl none false 5 (a.tests.map tc)]
abbrev dc (c : Cnd) : List AV := [.v (.bool c.neg), .v (.string c.cls), .sl none false 3 (c.attrs.map ac)]
end Go.Proofs.Ytbpoeggmpjepfaa.Ab
