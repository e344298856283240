/- The texts Ab10, Ab11, AbG, AbD, AbE, AbF, AbH, AbW, AbX, AbY, one behind the other. -/
import Derived.Test.YtbpoeggmpjepfaaDoorM1
import Derived.Orders
import Derived.LoopN
/- Abstract values over the model's memory, 10: one rule for all operations that need no word of ours. -/
set_option linter.unusedVariables false
set_option linter.unusedSimpArgs false
set_option maxRecDepth 20000
namespace Go.Proofs.YtbpoeggmpjepfaaDoor.Ab
open Go

def binV (P : Program) (op : BinOp) (t : TypeId) (a b : AV) : Option AV :=
  match a, b with
  | .v (.bool x), .v (.bool y) => match P.underlying t, op with
    | some .bool, .eql => some (.v (.bool (x == y)))
    | some .bool, .neq => some (.v (.bool (!(x == y))))
    | _, _ => none
  | .v (.int k x), .v (.int k' y) => match bin2 op (.int k x) (.int k' y) with
    | some (.int k z) => some (.v (.int k z))
    | some (.bool z) => some (.v (.bool z))
    | _ => none
  | .v (.string x), .v (.string y) => match bin2 op (.string x) (.string y) with
    | some (.bool z) => some (.v (.bool z))
    | _ => none
  | .agg _, .agg _ => none
  | a, b => match P.underlying t with
    | some d => match nilKind d a, theNil d b, isNil a, op with
      | true, true, some r, .eql => some (.v (.bool r))
      | true, true, some r, .neq => some (.v (.bool (!r)))
      | _, _, _, _ => none
    | none => none
def convV (P : Program) (s d : TypeId) : AV → Option AV
  | .v (.int _ n) => match P.underlying s, P.underlying d with
    | some _, some (.int k') => some (.v (.int k' (k'.wrap n)))
    | some _, some .string => some (.v (.string (Utf8.encode n)))
    | _, _ => none
  | .v (.string b) => match P.underlying s, P.underlying d with
    | some _, some .string => some (.v (.string b))
    | _, _ => none
  | _ => none
/-- A shift or a division only by a number that stands there. -/
def plainOp (op : BinOp) (y : Operand) : Bool := match op, y with
  | .shl, .const _ | .shr, .const _ | .quo, .const _ | .rem, .const _ => true
  | .shl, _ | .shr, _ | .quo, _ | .rem, _ => false
  | _, _ => true
def builtinV (P : Program) (fr : Fr) (b : Builtin) (args : List Operand) (ts : List TypeId) : Option AV :=
  match b, args with
  | .len, [x] => match ts with
    | [t] => match ev fr x, P.underlying t with
      | some (.v (.string s)), some .string => some (.v (.int .i64 s.size))
      | some (.sl _ _ _ els), some (.slice _) => some (.v (.int .i64 els.length))
      | some (.osl _ _ _ len), some (.slice _) => some (.v (.int .i64 len))
      | _, _ => none
    | _ => none
  | .min, [x, y] => match ev fr x, ev fr y with
    | some (.v (.int k a)), some (.v (.int k' b)) => if k = k' then some (.v (.int k (if b < a then b else a))) else none
    | _, _ => none
  | .max, [x, y] => match ev fr x, ev fr y with
    | some (.v (.int k a)), some (.v (.int k' b)) => if k = k' then some (.v (.int k (if a < b then b else a))) else none
    | _, _ => none
  | _, _ => none
def valOp (P : Program) (fr : Fr) : Op → Option AV
  | .move x => ev fr x
  | .assign x => ev fr x
  | .pick c x y => match ev fr c with
    | some (.v (.bool true)) => ev fr x
    | some (.v (.bool false)) => ev fr y
    | _ => none
  | .binOp op t x y _ => match plainOp op y with
    | true => match ev fr x, ev fr y with
      | some a, some b => binV P op t a b
      | _, _ => none
    | false => none
  | .unOp op _ x => match op, ev fr x with
    | .not, some (.v (.bool b)) => some (.v (.bool (!b)))
    | .neg, some (.v (.int k n)) => some (.v (.int k (k.wrap (0 - n))))
    | _, _ => none
  | .convert s d x => match ev fr x with
    | some a => convV P s d a
    | none => none
  | .extract x i => match ev fr x with
    | some (.tup l) => l[i]?
    | _ => none
  | .makeFunc (.func f) first caps => match first.toList, caps.toList.mapM (ev fr) with
    | [], some as => some (.fn f as)
    | _, _ => none
  | .nilCheck x => match ev fr x with
    | some (.ptr id sz i j) => some (.ptr id sz i j)
    | some (.fp cs) => some (.fp cs)
    | some (.fn f cs) => some (.fn f cs)
    | _ => none
  | .field t x f => match ev fr x, fieldAt? P t f with
    | some (.agg cs), some (off, ft) => match shapeOf P ft with
      | some q => part? cs off q
      | none => none
    | _, _ => none
  | .fieldAddr t x f => match ev fr x, fieldOff P t f with
    | some (.ptr id sz i j), some off => some (.ptr id sz i (j + off))
    | some (.fp cs), some off => some (.fp (cs.drop off))
    | _, _ => none
  | .load t x => match ev fr x, shapeOf P t with
    | some (.fp cs), some q => load? cs q
    | _, _ => none
  | .build t parts => match placesOf P t, zeroIs P t, evParts (ev fr) parts.toList with
    | some pl, some zs, some qs => match afill (fun i : Nat => pl[i]?) zs qs with
      | some out => some (.agg out)
      | none => none
    | _, _, _ => none
  | .call c => match c.callee with
    | .builtin b => builtinV P fr b c.args.toList c.argTypes.toList
    | _ => none
  | .makeInterface t x => match ev fr x, P.underlying t with
    | some _, some (.interface _) => none
    | some a, some _ => some (.ifc t a)
    | _, _ => none
  | _ => none
section
variable {P : Program} {o : Oper} {fr : Fr} {σ : St} {R : Option AV → St → Prop}
theorem opj_binV {op : BinOp} {t t' : TypeId} {x y : Operand} {a b r : AV} (ho : o.op = .binOp op t x y t') (hx : ev fr x = some a) (hy : ev fr y = some b) (h : binV P op t a b = some r) (hR : R (some r) σ) : OpJ P o (ev fr) σ R := by
  unfold binV at h
  split at h
  · split at h
    · rename_i ht
      cases h; exact opj_beq ho ht hx hy hR
    · rename_i ht
      cases h; exact opj_bne ho ht hx hy hR
    · cases h
  · split at h
    · rename_i hb; cases h; exact opj_bin ho hx hy hb rfl hR
    · rename_i hb; cases h; exact opj_bin ho hx hy hb rfl hR
    · cases h
  · split at h
    · rename_i hb; cases h; exact opj_bin ho hx hy hb rfl hR
    · cases h
  · cases h
  · split at h
    · rename_i ht
      split at h
      · rename_i h1 h2 h3; cases h; exact opj_isnil ho ht hx hy h1 h2 h3 hR
      · rename_i h1 h2 h3; cases h; exact opj_notnil ho ht hx hy h1 h2 h3 hR
      · cases h
    · cases h
theorem opj_builtinV {b : Builtin} {args : Array Operand} {ts : Array TypeId} {av : AV} (ho : o.op = .call { callee := .builtin b, args := args, argTypes := ts }) (h : builtinV P fr b args.toList ts.toList = some av) (hR : R (some av) σ) : OpJ P o (ev fr) σ R := by
  unfold builtinV at h
  split at h
  · rename_i x ha
    have ha' : args = #[x] := by apply Array.ext'; simpa using ha
    subst ha'
    split at h
    · rename_i t ht
      have ht' : ts = #[t] := by apply Array.ext'; simpa using ht
      subst ht'
      split at h
      · rename_i hx ht; cases h; exact opj_len_str ho rfl ht hx hR
      · rename_i hx ht; cases h; exact opj_len_sl ho rfl ht hx (fun _ => hR)
      · rename_i hx ht; cases h; exact opj_len_osl ho rfl ht hx (fun _ => hR)
      · cases h
    · cases h
  · rename_i x y ha
    have ha' : args = #[x, y] := by apply Array.ext'; simpa using ha
    subst ha'
    split at h
    · rename_i hx hy
      split at h
      · rename_i hk; subst hk; cases h; exact opj_min ho hx hy hR
      · cases h
    · cases h
  · rename_i x y ha
    have ha' : args = #[x, y] := by apply Array.ext'; simpa using ha
    subst ha'
    split at h
    · rename_i hx hy
      split at h
      · rename_i hk; subst hk; cases h; exact opj_max ho hx hy hR
      · cases h
    · cases h
  · cases h
theorem opj_valOp {av : AV} (h : valOp P fr o.op = some av) (hR : R (some av) σ) : OpJ P o (ev fr) σ R := by
  unfold valOp at h
  split at h
  case h_1 x ho => exact opj_move ho h hR
  case h_2 x ho => exact opj_assign ho h hR
  case h_3 c x y ho =>
    split at h
    · rename_i hc; exact opj_pick ho hc h hR
    · rename_i hc; exact opj_pick ho hc h hR
    · cases h
  case h_4 op t x y t' ho =>
    split at h
    · split at h
      · rename_i a b hx hy; exact opj_binV ho hx hy h hR
      · cases h
    · cases h
  case h_5 op t x ho =>
    split at h
    · rename_i hx; cases h; exact opj_not ho hx hR
    · rename_i hx; cases h; exact opj_neg ho hx hR
    · cases h
  case h_6 s d x ho =>
    split at h
    · rename_i a hx
      unfold convV at h
      split at h
      · split at h
        · rename_i hs hd; cases h; exact opj_conv_int ho hs hd hx hR
        · rename_i hs hd; cases h; exact opj_conv_rune ho hs hd hx hR
        · cases h
      · split at h
        · rename_i hs hd; cases h; exact opj_conv_str ho hs hd hx hR
        · cases h
      · cases h
    · cases h
  case h_7 x i ho =>
    split at h
    · rename_i l hx; exact opj_extract ho hx h hR
    · cases h
  case h_8 f first caps ho =>
    split at h
    · rename_i as hf hc
      cases h
      have hf' : first = #[] := by simpa using hf
      subst hf'
      exact opj_makeFunc ho hc hR
    · cases h
  case h_9 x ho =>
    split at h
    · rename_i hx; cases h; exact opj_nilCheck_ptr ho hx hR
    · rename_i hx; cases h; exact opj_nilCheck_fp ho hx hR
    · rename_i hx; cases h; exact opj_nilCheck_fn ho hx hR
    · cases h
  case h_10 t x f ho =>
    split at h
    · rename_i cs off ft hx hf
      split at h
      · rename_i q hq; exact opj_field ho hf hq hx h hR
      · cases h
    · cases h
  case h_11 t x f ho =>
    split at h
    · rename_i hx hf; cases h; exact opj_fieldAddr_ptr ho hf hx hR
    · rename_i hx hf; cases h; exact opj_fieldAddr_fp ho hf hx hR
    · cases h
  case h_12 t x ho =>
    split at h
    · rename_i cs q hx hq; exact opj_load_fp ho hq hx h hR
    · cases h
  case h_13 t parts ho =>
    split at h
    · rename_i pl zs qs hp hz hq
      split at h
      · rename_i out hf; cases h; exact opj_build ho hp hz hq hf hR
      · cases h
    · cases h
  case h_14 c ho =>
    split at h
    · rename_i b hb
      obtain ⟨callee, args, ts⟩ := c
      simp only at hb h
      subst hb
      exact opj_builtinV ho h hR
    · cases h
  case h_15 t x ho =>
    split at h
    · cases h
    · rename_i a d hni hx ht
      cases h
      refine opj_iface ho ht ?_ hx hR
      cases d <;> first | rfl | (exfalso; exact hni _ rfl)
    · cases h
  case h_16 => cases h
end
section
variable {P : Program} {nt : Nat} {ops : Array Oper} {Q Q2 : Post} {fr : Fr} {σ : St} {rest : List Oper} {t : Tmp} {op : Op} {ty : TypeId} {pos : String} {aft : Array Edge} {av : AV}
theorem fits_of (h : Nat.blt t nt = true) : fits nt (some t) = true := decide_eq_true (Nat.le_of_ble_eq_true h)
theorem lj_auto (hd : Nat.blt t nt = true) (hv : valOp P fr op = some av) (h : LJ P nt ops Q rest ((t, av) :: fr) σ) : LJ P nt ops Q (⟨some t, op, ty, pos, aft, none⟩ :: rest) fr σ :=
  lj_op rfl (fits_of hd) (opj_valOp hv h)
theorem lj_autoy {j u : Nat} {b : Bool} (hd : Nat.blt t nt = true) (hj : (ops[j]?).bind (·.dst) = some u) (hl : lk fr u = some (.v (.bool b))) (hv : valOp P fr op = some av) (h : LJ P nt ops Q rest ((t, av) :: fr) σ) : LJ P nt ops Q (⟨some t, op, ty, pos, aft, some (j, b)⟩ :: rest) fr σ :=
  lj_guard_yes rfl hj hl (fits_of hd) (opj_valOp hv h)
theorem fr_case {k : Cx} {tmps : Array Value} {u : Nat} {b : Bool} (hl : lk fr u = some (.v (.bool b))) (h : FrOk k fr tmps) : FrOk k ((u, .v (.bool b)) :: fr) tmps := fun x a hx => by
  rw [lk_cons] at hx
  split at hx
  · rename_i he; subst he; exact h x a (hl.trans hx)
  · exact h x a hx
theorem lj_case {u : Nat} {b : Bool} {l : List Oper} (hl : lk fr u = some (.v (.bool b))) (ht : b = true → LJ P nt ops Q l ((u, .v (.bool true)) :: fr) σ) (hf : b = false → LJ P nt ops Q l ((u, .v (.bool false)) :: fr) σ) : LJ P nt ops Q l fr σ := fun k a hσ hk hz hfr => by
  cases b with
  | true => exact ht rfl k a hσ hk hz (fr_case hl hfr)
  | false => exact hf rfl k a hσ hk hz (fr_case hl hfr)
theorem lj_gt {j u : Nat} {c : Bool} {dst : Option Tmp} (hj : (ops[j]?).bind (·.dst) = some u) (hl : lk fr u = some (.v (.bool true))) (h : LJ P nt ops Q (⟨dst, op, ty, pos, aft, some (j, c)⟩ :: rest) fr σ) : LJ P nt ops Q (⟨dst, op, ty, pos, aft, some (j, c)⟩ :: rest) fr σ := h
theorem lj_gf {j u : Nat} {c : Bool} {dst : Option Tmp} (hj : (ops[j]?).bind (·.dst) = some u) (hl : lk fr u = some (.v (.bool false))) (h : LJ P nt ops Q (⟨dst, op, ty, pos, aft, some (j, c)⟩ :: rest) fr σ) : LJ P nt ops Q (⟨dst, op, ty, pos, aft, some (j, c)⟩ :: rest) fr σ := h
theorem lj_gcase {j u : Nat} {b c : Bool} {dst : Option Tmp} (hj : (ops[j]?).bind (·.dst) = some u) (hl : lk fr u = some (.v (.bool b))) (ht : b = true → LJ P nt ops Q (⟨dst, op, ty, pos, aft, some (j, c)⟩ :: rest) ((u, .v (.bool true)) :: fr) σ) (hf : b = false → LJ P nt ops Q (⟨dst, op, ty, pos, aft, some (j, c)⟩ :: rest) ((u, .v (.bool false)) :: fr) σ) : LJ P nt ops Q (⟨dst, op, ty, pos, aft, some (j, c)⟩ :: rest) fr σ :=
  lj_case hl ht hf
end

/-! ### Loops by their heads -/
def Sub : Fr → Fr → Prop
  | [], _ => True
  | (t, a) :: r, g => lk g t = some a ∧ Sub r g
theorem Sub.get {g : Fr} : ∀ {f : Fr}, Sub f g → ∀ t a, lk f t = some a → lk g t = some a
  | [], _, t, a, h => by cases h
  | (u, b) :: r, hs, t, a, h => by
    rw [lk_cons] at h
    split at h
    · rename_i he; subst he; cases h; exact hs.1
    · exact Sub.get hs.2 t a h
section
variable {P : Program} {nt : Nat} {ops : Array Oper} {Q Q2 : Post} {fr : Fr} {σ : St} {c : Code}
theorem cj_sub {fr' : Fr} {σ' : St} (hf : Sub fr' fr) (hle : σ'.le σ) (h : CJ P nt c Q fr' σ') : CJ P nt c Q fr σ := cj_forget hf.get hle h
theorem lj_sub {l : List Oper} {fr' : Fr} {σ' : St} (hf : Sub fr' fr) (hle : σ'.le σ) (h : LJ P nt ops Q l fr' σ') : LJ P nt ops Q l fr σ := lj_ghost (ghost_forget hf.get hle h)
/-- A loop: what the head's frame (H) and store (S) hold, of a state of one's own choice. -/
theorem cj_head {α : Type} (I : α → Prop) (H : α → Fr) (S : α → St) (m : α → Nat) (s0 : α) (hI : I s0) (h0 : Sub (H s0) fr) (hσ : (S s0).le σ)
    (hr : ∀ s, I s → CJ P nt c (thn Q (fun fr' σ' => ∃ s', I s' ∧ m s' < m s ∧ Sub (H s') fr' ∧ (S s').le σ')) (H s) (S s)) : CJ P nt (.loop c) Q fr σ :=
  cj_loop (fun s fr σ => I s ∧ Sub (H s) fr ∧ (S s).le σ) m s0 ⟨hI, h0, hσ⟩ (fun s fr σ ⟨h1, h2, h3⟩ => cj_sub h2 h3 ((hr s h1).mono fun e fr' σ' h => by
    cases e with
    | normal => obtain ⟨s', h4, h5, h6, h7⟩ := h; exact ⟨s', ⟨h4, h6, h7⟩, h5⟩
    | _ => exact h))
end

/-- Likewise, each entry the same or less. -/
def SubW : Fr → Fr → Prop
  | [], _ => True
  | (t, a) :: r, g => (∃ b, lk g t = some b ∧ ∀ (k : Cx) (u : Value), Rep k b u → Rep k a u) ∧ SubW r g
theorem SubW.fr {k : Cx} {g : Fr} {tmps : Array Value} (h : FrOk k g tmps) : ∀ {f : Fr}, SubW f g → FrOk k f tmps
  | [], _, t, a, h => by cases h
  | (u, b) :: r, hs, t, a, hl => by
    rw [lk_cons] at hl
    split at hl
    · rename_i he
      subst he; cases hl
      obtain ⟨⟨c, h1, h2⟩, _⟩ := hs
      obtain ⟨v, h3, h4⟩ := h t c h1
      exact ⟨v, h3, h2 k v h4⟩
    · exact SubW.fr h hs.2 t a hl
section
variable {P : Program} {nt : Nat} {ops : Array Oper} {Q Q2 : Post} {fr : Fr} {σ : St} {c : Code}
theorem ghost_subw {fr' : Fr} {σ' : St} {K : Fr → St → Prop} (hf : SubW fr' fr) (hle : σ'.le σ) (h : K fr' σ') : Ghost fr σ K := fun k tmps hσ hk hfr => by
  subst hσ
  obtain ⟨hok, hst⟩ := hk.forget hle
  exact ⟨{ k with σ := σ' }, fr', rfl, hok, hst, (SubW.fr hfr hf).step hst, h⟩
theorem cj_subw {fr' : Fr} {σ' : St} (hf : SubW fr' fr) (hle : σ'.le σ) (h : CJ P nt c Q fr' σ') : CJ P nt c Q fr σ := cj_ghost (ghost_subw hf hle h)
theorem cj_headW {α : Type} (I : α → Prop) (H : α → Fr) (S : α → St) (m : α → Nat) (s0 : α) (hI : I s0) (h0 : SubW (H s0) fr) (hσ : (S s0).le σ)
    (hr : ∀ s, I s → CJ P nt c (thn Q (fun fr' σ' => ∃ s', I s' ∧ m s' < m s ∧ SubW (H s') fr' ∧ (S s').le σ')) (H s) (S s)) : CJ P nt (.loop c) Q fr σ :=
  cj_loop (fun s fr σ => I s ∧ SubW (H s) fr ∧ (S s).le σ) m s0 ⟨hI, h0, hσ⟩ (fun s fr σ ⟨h1, h2, h3⟩ => cj_subw h2 h3 ((hr s h1).mono fun e fr' σ' h => by
    cases e with
    | normal => obtain ⟨s', h4, h5, h6, h7⟩ := h; exact ⟨s', ⟨h4, h6, h7⟩, h5⟩
    | _ => exact h))
end
end Go.Proofs.YtbpoeggmpjepfaaDoor.Ab

/- Abstract values over the model's memory, 11: what a call hands back: rows of its own become slices that nobody writes. -/
set_option linter.unusedVariables false
set_option linter.unusedSimpArgs false
set_option maxRecDepth 20000
namespace Go.Proofs.YtbpoeggmpjepfaaDoor.Ab
open Go

/-- b says less than a. -/
def Wk (a b : AV) : Prop := ∀ (k : Cx) (u : Value), Rep k a u → Rep k b u
theorem Wk.refl (a : AV) : Wk a a := fun _ _ h => h
theorem Wk.of_eq {a b : AV} (h : a = b) : Wk a b := h ▸ Wk.refl a
theorem Wk.sl (nl : Option Bool) (full : Bool) (sz : Nat) (els : List (List AV)) : Wk (.sl nl full sz els) (.sl none false sz els) := fun k u h => by
  cases h with
  | slnil hn => exact .slnil (by simp)
  | sle hn => exact .sle (by simp)
  | sl hn hc hm hf hsz hfr hw h => exact .sl (by simp) hc hm (by simp) hsz hfr hw h
theorem Wk.nil (nl : Option Bool) (full : Bool) (sz sz' : Nat) : Wk (.sl nl full sz []) (.sl none false sz' []) := fun k u h => by
  cases h with
  | slnil hn => exact .slnil (by simp)
  | sle hn => exact .sle (by simp)
  | @sl _ _ _ _ b o cap f hn hc hm hf hsz hfr hw h => exact .sl (els := []) (f := f) (by simp) hc hm (by simp) (fun i e h => by simp at h) (fun h => absurd rfl h) (fun i j e a h => by simp at h) (fun i j e a h => by simp at h)
/-- σ: what is kept; σ': what there is now. -/
inductive Fin (σ σ' : St) : AV → AV → Prop
  | wk {a b : AV} (h : Wk a b) : Fin σ σ' a b
  | tup {as bs : List AV} (hl : as.length = bs.length) (h : ∀ (j : Nat) a b, as[j]? = some a → bs[j]? = some b → Fin σ σ' a b) : Fin σ σ' (.tup as) (.tup bs)
  | agg {as bs : List AV} (hl : as.length = bs.length) (h : ∀ (j : Nat) a b, as[j]? = some a → bs[j]? = some b → Fin σ σ' a b) : Fin σ σ' (.agg as) (.agg bs)
  | fz {id sz off len : Nat} {et : TypeId} {els els' : List (List AV)} (h1 : σ' id = some (.row sz et els)) (h2 : σ id = none) (h3 : off + len ≤ els.length) (h4 : 0 < sz) (h5 : els'.length = len) (h6 : ∀ (i : Nat) e, els'[i]? = some e → e.length = sz)
      (h7 : ∀ (i j : Nat) e a e' a', els[off + i]? = some e → e[j]? = some a → els'[i]? = some e' → e'[j]? = some a' → Fin σ σ' a a') : Fin σ σ' (.osl id sz off len) (.sl none false sz els')
  | sl {nl : Option Bool} {full : Bool} {sz : Nat} {els els' : List (List AV)} (h5 : els'.length = els.length) (h6 : ∀ (i : Nat) e, els'[i]? = some e → e.length = sz)
      (h7 : ∀ (i j : Nat) e a e' a', els[i]? = some e → e[j]? = some a → els'[i]? = some e' → e'[j]? = some a' → Fin σ σ' a a') : Fin σ σ' (.sl nl full sz els) (.sl none false sz els')
theorem Fin.refl (σ σ' : St) (a : AV) : Fin σ σ' a a := .wk (Wk.refl a)
theorem Fin.fz0 {σ σ' : St} {id sz off len : Nat} {et : TypeId} {els : List (List AV)} (h1 : σ' id = some (.row sz et els)) (h2 : σ id = none) (h3 : off + len ≤ els.length) (h4 : 0 < sz) (h6 : ∀ (i : Nat) e, els[i]? = some e → e.length = sz) : Fin σ σ' (.osl id sz off len) (.sl none false sz ((els.drop off).take len)) := by
  refine .fz h1 h2 h3 h4 (by simp; omega) (fun i e h => ?_) (fun i j e a e' a' he ha he' ha' => ?_)
  · rw [List.getElem?_take] at h
    split at h
    · rw [List.getElem?_drop] at h; exact h6 _ e h
    · cases h
  · rw [List.getElem?_take] at he'
    split at he'
    · rw [List.getElem?_drop] at he'
      rw [he'] at he; cases he
      rw [ha'] at ha; cases ha
      exact Fin.refl _ _ _
    · cases he'
theorem Fin.rep {σ σ' : St} {a b : AV} (h : Fin σ σ' a b) : ∀ {k : Cx} {u : Value}, Ok k → k.σ = σ' → σ.le σ' → Rep k a u → Rep { k with σ := σ } b u := by
  induction h with
  | wk h =>
    intro k u hk hσ hle hr
    subst hσ
    exact h _ _ (hr.step (hk.forget hle).2)
  | tup hl h ih =>
    rename_i as bs
    intro k u hk hσ hle hr
    cases hr with
    | tup hl' h' =>
      refine .tup (by omega) (fun j b v hb hv => ?_)
      have hj : j < as.length := by rw [hl]; exact (List.getElem?_eq_some_iff.1 hb).1
      have ha : as[j]? = some as[j] := by simp [hj]
      exact ih j _ b ha hb hk hσ hle (h' j _ v ha hv)
  | agg hl h ih =>
    rename_i as bs
    intro k u hk hσ hle hr
    cases hr with
    | agg hl' h1' h' =>
      refine .agg (by omega) h1' (fun j b v hb hv => ?_)
      have hj : j < as.length := by rw [hl]; exact (List.getElem?_eq_some_iff.1 hb).1
      have ha : as[j]? = some as[j] := by simp [hj]
      exact ih j _ b ha hb hk hσ hle (h' j _ v ha hv)
  | @sl nl full sz els els' h5 h6 h7 ih =>
    intro k u hk hσ hle hr
    have hst : Step k { k with σ := σ } := by subst hσ; exact (hk.forget hle).2
    cases hr with
    | slnil hn =>
      have : els' = [] := List.eq_nil_of_length_eq_zero (by simpa using h5)
      subst this
      exact .slnil (by simp)
    | sle hn =>
      have : els' = [] := List.eq_nil_of_length_eq_zero (by simpa using h5)
      subst this
      exact .sle (by simp)
    | @sl _ _ _ _ b o cap f hn hc hm hf hsz hfr hw hcc =>
      rw [← h5]
      have hget : ∀ (i j : Nat) e' a', els'[i]? = some e' → e'[j]? = some a' → ∃ e a, els[i]? = some e ∧ e[j]? = some a := fun i j e' a' he ha => by
        have hi : i < els.length := by rw [← h5]; exact (List.getElem?_eq_some_iff.1 he).1
        have hei : els[i]? = some els[i] := by simp [hi]
        have hj : j < els[i].length := by rw [hsz i _ hei, ← h6 i e' he]; exact (List.getElem?_eq_some_iff.1 ha).1
        exact ⟨_, _, hei, List.getElem?_eq_getElem hj⟩
      refine .sl (f := f) (by simp) (by omega) (by omega) (by simp) h6 (fun hne => ?_) (fun i j e' a' he ha => ?_) (fun i j e' a' he ha => ?_)
      · have hne' : els ≠ [] := fun h => hne (List.eq_nil_of_length_eq_zero (by rw [h5, h]; rfl))
        exact ⟨(hfr hne').1, (hst.frz b (hfr hne').1 (hfr hne').2).2⟩
      · obtain ⟨e, a, h8, h9⟩ := hget i j e' a' he ha
        exact hw i j e a h8 h9
      · obtain ⟨e, a, h8, h9⟩ := hget i j e' a' he ha
        exact ih i j e a e' a' h8 h9 he ha hk hσ hle (hcc i j e a h8 h9)
  | @fz id sz off len et els els' h1 h2 h3 h4 h5 h6 h7 ih =>
    intro k u hk hσ hle hr
    have hst : Step k { k with σ := σ } := by subst hσ; exact (hk.forget hle).2
    have h1' : k.σ id = some (.row sz et els) := by rw [hσ]; exact h1
    have hid : k.σ id ≠ none := by rw [h1']; simp
    cases hr with
    | oslnil =>
      have : els' = [] := List.eq_nil_of_length_eq_zero h5
      subst this
      exact .slnil (by simp)
    | @osl _ _ _ _ b cap p ht hb hp hl' hm hfit =>
      obtain ⟨cs, hh1, hh2⟩ := (hk.obj id _ h1').row hb
      have hget : ∀ (i j : Nat) e' a', els'[i]? = some e' → e'[j]? = some a' → ∃ e a v, els[off + i]? = some e ∧ e[j]? = some a ∧ cs[(off + i) * sz + j]? = some v ∧ v.oneCell' = true ∧ Rep k a v := fun i j e' a' he ha => by
        have hi : i < len := by rw [← h5]; exact (List.getElem?_eq_some_iff.1 he).1
        have hlt : off + i < els.length := by omega
        have hei : els[off + i]? = some els[off + i] := by simp [hlt]
        have hj : j < els[off + i].length := by rw [hh2.1 _ _ hei, ← h6 i e' he]; exact (List.getElem?_eq_some_iff.1 ha).1
        obtain ⟨v, h8, h9, h10⟩ := hh2.2.2 (off + i) j _ _ hei (List.getElem?_eq_getElem hj)
        exact ⟨_, _, v, hei, List.getElem?_eq_getElem hj, by simpa [← Array.getElem?_toList] using h8, h9, h10⟩
      have hgoal : Rep { k with σ := σ } (.sl none false sz els') (.slice (some ⟨b, p, none⟩) els'.length cap) := by
        refine .sl (f := fun i j => (cs[(off + i) * sz + j]?).getD undef) (by simp) (by omega) (by omega) (by simp) h6 (fun _ => ⟨(hk.bas id b hid hb).2, ?_⟩) (fun i j e' a' he ha => ?_) (fun i j e' a' he ha => ?_)
        · rintro ⟨x, h8, h9⟩
          have hx : x ≠ id := fun e => by subst e; exact h8 h2
          have h10 : k.σ x ≠ none := by
            rw [hσ]
            cases ho : σ x with
            | none => exact absurd ho h8
            | some o => rw [hle x o ho]; simp
          exact hx (hk.inj x id b h10 hid h9 hb)
        · obtain ⟨e, a, v, h8, h9, h10, h11, h12⟩ := hget i j e' a' he ha
          have hi : i < len := by rw [← h5]; exact (List.getElem?_eq_some_iff.1 he).1
          have hpo := hp (by omega)
          subst hpo
          simp only [h10, Option.getD_some]
          refine ⟨?_, h11⟩
          show k.w.cell? _ = _
          have e1 : off * sz + (i * sz + j) = (off + i) * sz + j := by rw [Nat.add_mul]; omega
          rw [e1, cell_of_row k.w b _ cs et (0, 0) hh1]
          exact h10
        · obtain ⟨e, a, v, h8, h9, h10, h11, h12⟩ := hget i j e' a' he ha
          simp only [h10, Option.getD_some]
          exact ih i j e a e' a' h8 h9 he ha hk hσ hle h12
      rw [h5] at hgoal
      exact hgoal
section
variable {P : Program} {σ : St}
/-- The end of a call that answers r and keeps σ. -/
def Gives (σ : St) (r : AV) : AEnd → St → Prop := fun e σ' => ∃ r0, e = .ret r0 ∧ σ.le σ' ∧ Fin σ σ' r0 r
theorem gives {σ' : St} {r r0 : AV} (hle : σ.le σ') (hf : Fin σ σ' r0 r) : Gives σ r (.ret r0) σ' := ⟨r0, rfl, hle, hf⟩
theorem acalls_gives {f : FuncId} {args : List AV} {σ0 : St} {r : AV} (h : ACalls P f args σ0 (Gives σ r)) : ACalls P f args σ0 (fun e σ' => e = .ret r ∧ σ' = σ) := fun k vs hσ hk hv =>
  (h k vs hσ hk hv).mono fun e w' ⟨k', e', h1, h2, h3, h4, r0, h5, h6, h7⟩ => by
    subst h5
    cases e with
    | returned v =>
      obtain ⟨h8, h9⟩ := h2.forget h6
      exact ⟨{ k' with σ := σ }, .ret r, h1, h8, h3.trans h9, h7.rep h2 rfl h6 h4, rfl, rfl⟩
    | panicked ch => exact h4.elim
    | outgrown => exact h4.elim
theorem enterW {f : FuncId} {fn : Func} {c : Code} {n : Nat} {rs : List ResultVar} {args : List AV} {r : AV} (hf : P.funcs[f]? = some fn) (hb : fn.body = some c) (hn : fn.ntmps = n) (hr : fn.results.toList = rs) (hl : Nat.ble args.length n = true)
    (h : ∀ σ, CJ P n c (endR P rs (Gives σ r)) (frOf 0 args) σ) : Pure P f args r := fun σ =>
  (acalls_gives (enter hf hb hn hr hl (h σ))).mono fun e σ' ⟨h1, h2⟩ => ⟨h1, h2 ▸ St.le_refl _⟩
/-- Into σ1 (what the call leaves). -/
theorem enterS {f : FuncId} {fn : Func} {c : Code} {n : Nat} {rs : List ResultVar} {args : List AV} {r : AV} {σ1 : St} (hf : P.funcs[f]? = some fn) (hb : fn.body = some c) (hn : fn.ntmps = n) (hr : fn.results.toList = rs) (hl : Nat.ble args.length n = true)
    (h : CJ P n c (endR P rs (Gives σ1 r)) (frOf 0 args) σ) : ACalls P f args σ (fun e σ' => e = .ret r ∧ σ' = σ1) := acalls_gives (enter hf hb hn hr hl h)
theorem Pure.wk {f : FuncId} {args : List AV} {r r' : AV} (h : Pure P f args r) (hw : Wk r r') : Pure P f args r' := fun σ k vs hσ hk hv =>
  (h σ k vs hσ hk hv).mono fun e w' ⟨k', e', h1, h2, h3, h4, h5, h6⟩ => by
    subst h5
    cases e with
    | returned v => exact ⟨k', .ret r', h1, h2, h3, hw _ _ h4, rfl, h6⟩
    | panicked ch => exact h4.elim
    | outgrown => exact h4.elim
theorem fin_two {σ' : St} {a b c d : AV} (h : Fin σ σ' a c) (h' : Fin σ σ' b d) : Fin σ σ' (packed [a, b]) (.tup [c, d]) := .tup rfl fun j x y hx hy => by
  match j with
  | 0 => simp at hx hy; subst hx; subst hy; exact h
  | 1 => simp at hx hy; subst hx; subst hy; exact h'
  | j + 2 => simp at hx
theorem fin_three {σ' : St} {a b c d e f : AV} (h : Fin σ σ' a d) (h' : Fin σ σ' b e) (h'' : Fin σ σ' c f) : Fin σ σ' (packed [a, b, c]) (.tup [d, e, f]) := .tup rfl fun j x y hx hy => by
  match j with
  | 0 => simp at hx hy; subst hx; subst hy; exact h
  | 1 => simp at hx hy; subst hx; subst hy; exact h'
  | 2 => simp at hx hy; subst hx; subst hy; exact h''
  | j + 3 => simp at hx
theorem fin_one {σ' : St} {a b : AV} (h : Fin σ σ' a b) : Fin σ σ' (packed [a]) b := h
end
end Go.Proofs.YtbpoeggmpjepfaaDoor.Ab

/- Abstract values over the model's memory: operations under a guard that is not known: what they hand on is there only if the guard holds. -/
set_option linter.unusedVariables false
set_option linter.unusedSimpArgs false
set_option maxRecDepth 20000
namespace Go.Proofs.YtbpoeggmpjepfaaDoor.Ab
open Go

def AV.un : AV → AV
  | .mb _ a => a
  | a => a
def AV.cnd : AV → Bool
  | .mb c _ => c
  | _ => true
def strip : Fr → Fr
  | [] => []
  | (t, a) :: r => (t, a.un) :: strip r
def condOf (fr : Fr) : Operand → Bool
  | .tmp t => match lk fr t with
    | some a => a.cnd
    | none => true
  | _ => true
def Needs (c : Bool) (fr : Fr) : List Operand → Prop
  | [] => True
  | x :: l => (c = true → condOf fr x = true) ∧ Needs c fr l
theorem Needs.all {c : Bool} {fr : Fr} : ∀ {l : List Operand}, Needs c fr l → c = true → ∀ x ∈ l, condOf fr x = true
  | [], _, _, x, h => by cases h
  | y :: l, hn, hc, x, h => by
    rcases List.mem_cons.1 h with rfl | h
    · exact hn.1 hc
    · exact hn.2.all hc x h
/-- When the guard says so. -/
def gc : AV → Bool → Option Bool
  | .v (.bool b), true => some b
  | .v (.bool b), false => some (!b)
  | .mb c (.v (.bool b)), true => some (c && b)
  | .mb c (.v (.bool b)), false => some (c && !b)
  | _, _ => none
theorem lk_strip (fr : Fr) (t : Nat) : lk (strip fr) t = (lk fr t).map AV.un := by
  induction fr with
  | nil => rfl
  | cons p r ih =>
    obtain ⟨u, a⟩ := p
    simp only [strip]
    rw [lk_cons, lk_cons, ih]
    split <;> rfl
theorem Rep.un {k : Cx} {a : AV} {u : Value} (h : Rep k a u) (hc : a.cnd = true) : Rep k a.un u := by
  cases a with
  | mb c b => cases h with
    | mb h0 h => exact h hc
  | _ => exact h
theorem strip_reps {k : Cx} {fr : Fr} {e : Operand → Value} {l : Array Operand} (h : RepsOn k (ev fr) e l) (hc : ∀ x ∈ l.toList, condOf fr x = true) : RepsOn k (ev (strip fr)) e l := fun x hx av he => by
  cases x with
  | tmp t =>
    have he' : (lk fr t).map AV.un = some av := by rw [← lk_strip]; exact he
    cases hl : lk fr t with
    | none => rw [hl] at he'; cases he'
    | some a =>
      rw [hl] at he'
      cases he'
      have h1 := h (.tmp t) hx a hl
      have h2 := hc (.tmp t) (by simpa using hx)
      simp only [condOf, hl] at h2
      exact h1.un h2
  | const v => exact h _ hx av (by cases v <;> exact he)
  | global g => cases he
  | func f => exact h _ hx av he
theorem OpJ.strip {P : Program} {o : Oper} {fr : Fr} {σ : St} {R : Option AV → St → Prop} {c : Bool} (hn : Needs c fr o.op.operands.toList) (hc : c = true) (h : OpJ P o (ev (strip fr)) σ R) : OpJ P o (ev fr) σ R :=
  fun k e hσ hk hr => h k e hσ hk (strip_reps hr (hn.all hc))
def asB (v : Value) : Option Bool := match some v with
  | some (.bool b) => some b
  | _ => none
theorem yields_gc1 {ops : Array Oper} {k : Cx} {tmps : Array Value} {j u : Nat} {w c : Bool} {a : AV} {v : Value} (hj : (ops[j]?).bind (·.dst) = some u) (hv : tmps[u]? = some v) (hr : Rep k a v) (hg : gc a w = some c) : (yielded ops tmps j == some w) = c := by
  have hy : yielded ops tmps j = asB v := by
    unfold yielded
    rw [hj]
    simp only [Option.bind_some, hv]
    rfl
  rw [hy]
  cases a with
  | v x =>
    cases x with
    | bool b =>
      cases hr
      cases w <;> cases hg <;> first | (cases b <;> rfl) | (cases c <;> rfl)
    | _ => cases w <;> cases hg
  | mb c0 a =>
    cases a with
    | v x =>
      cases x with
      | bool b =>
        cases hr with
        | mb h0 h =>
          cases c0 with
          | false => rw [h0 rfl]; cases w <;> cases hg <;> first | (cases b <;> rfl) | (cases c <;> rfl)
          | true =>
            have := h rfl
            cases this
            cases w <;> cases hg <;> first | (cases b <;> rfl) | (cases c <;> rfl)
      | _ => cases w <;> cases hg
    | _ => cases w <;> cases hg
  | _ => cases w <;> cases hg
theorem yields_gc {ops : Array Oper} {fr : Fr} {k : Cx} {tmps : Array Value} (hf : FrOk k fr tmps) {j u : Nat} {w c : Bool} {a : AV} (hj : (ops[j]?).bind (·.dst) = some u) (hl : lk fr u = some a) (hg : gc a w = some c) : (yielded ops tmps j == some w) = c := by
  obtain ⟨v, hv, hr⟩ := hf u a hl
  exact yields_gc1 hj hv hr hg
theorem Rep.mb_false {k : Cx} {c : Bool} {a : AV} (hc : c = false) : Rep k (.mb c a) undef := .mb (fun _ => rfl) (fun h => by rw [hc] at h; cases h)
theorem Rep.mb_true {k : Cx} {c : Bool} {a : AV} {u : Value} (hc : c = true) (h : Rep k a u) : Rep k (.mb c a) u := .mb (fun h => by rw [hc] at h; cases h) (fun _ => h)
section
variable {P : Program} {nt : Nat} {ops : Array Oper} {Q : Post} {fr : Fr} {σ : St} {rest : List Oper} {t : Tmp} {op : Op} {ty : TypeId} {pos : String} {aft : Array Edge} {av : AV}
/-- Under a guard that is not known: what is handed on is there if it holds. -/
theorem lj_q0 {j u : Nat} {w c : Bool} {a : AV} (hd : fits nt (some t) = true) (hj : (ops[j]?).bind (·.dst) = some u) (hl : lk fr u = some a) (hg : gc a w = some c)
    (hJ : c = true → ∀ (R : Option AV → St → Prop), R (some av) σ → OpJ P ⟨some t, op, ty, pos, aft, some (j, w)⟩ (ev fr) σ R) (h : LJ P nt ops Q rest ((t, .mb c av) :: fr) σ) : LJ P nt ops Q (⟨some t, op, ty, pos, aft, some (j, w)⟩ :: rest) fr σ := fun k a' hσ hk hz hf => by
  have hy := yields_gc hf hj hl hg
  unfold wpList
  cases c with
  | false =>
    rw [if_neg (by simp only [Region.wanted, hy]; simp)]
    exact wpList_mono (fun _ _ _ => conc_step (.refl k) (Act.defers_put ..) (Act.size_put ..)) _ _ _ (h k _ hσ hk ((Act.size_put ..).trans hz) (hf.put (dst := some t) (by rw [hz]; exact hd) (Rep.mb_false rfl)))
  | true =>
    rw [if_pos (by simp only [Region.wanted, hy])]
    refine .inl ?_
    obtain ⟨k', n, r, h1, h2, h3, h4, h5⟩ := hJ rfl (fun r σ' => r = some av ∧ σ' = σ) ⟨rfl, rfl⟩ k a'.eval hσ hk (reps_of_fr hf _)
    obtain ⟨rfl, h4⟩ := h4
    obtain ⟨v, rfl, hr⟩ := h5
    unfold Oper.wp
    rw [h1]
    simp only [Oper.upon]
    exact wpList_mono (fun _ _ _ => conc_step h3 (Act.defers_put ..) (Act.size_put ..)) _ _ _ (h k' _ h4 h2 ((Act.size_put ..).trans hz) ((hf.step h3).put (dst := some t) (by rw [hz]; exact hd) (Rep.mb_true rfl hr)))
theorem lj_q {j u : Nat} {w c : Bool} {a : AV} (hd : fits nt (some t) = true) (hj : (ops[j]?).bind (·.dst) = some u) (hl : lk fr u = some a) (hg : gc a w = some c) (hn : Needs c fr op.operands.toList)
    (hJ : c = true → ∀ (R : Option AV → St → Prop), R (some av) σ → OpJ P ⟨some t, op, ty, pos, aft, some (j, w)⟩ (ev (strip fr)) σ R) (h : LJ P nt ops Q rest ((t, .mb c av) :: fr) σ) : LJ P nt ops Q (⟨some t, op, ty, pos, aft, some (j, w)⟩ :: rest) fr σ :=
  lj_q0 hd hj hl hg (fun hc R hR => OpJ.strip (o := ⟨some t, op, ty, pos, aft, some (j, w)⟩) hn hc (hJ hc R hR)) h
theorem gc_or {fr : Fr} {x y : Operand} {b vy : Bool} {k : Cx} {e : Operand → Value} {l : Array Operand} {cc : Bool} (hr : RepsOn k (ev fr) e l) (hx : ev fr x = some (.v (.bool true))) (hy : ev fr y = some (.mb cc (.v (.bool vy)))) (mx : x ∈ l) (my : y ∈ l) (h : b = false → cc = true) : Rep k (.v (.bool (b || vy))) (if b then e x else e y) := by
  cases b with
  | true => exact hr x mx _ hx
  | false =>
    have := hr y my _ hy
    cases this with
    | mb h0 h1 => exact h1 (h rfl)
theorem gc_and {fr : Fr} {x y : Operand} {b vx : Bool} {k : Cx} {e : Operand → Value} {l : Array Operand} {cc : Bool} (hr : RepsOn k (ev fr) e l) (hx : ev fr x = some (.mb cc (.v (.bool vx)))) (hy : ev fr y = some (.v (.bool false))) (mx : x ∈ l) (my : y ∈ l) (h : b = true → cc = true) : Rep k (.v (.bool (b && vx))) (if b then e x else e y) := by
  cases b with
  | false => exact hr y my _ hy
  | true =>
    have := hr x mx _ hx
    cases this with
    | mb h0 h1 => exact h1 (h rfl)
theorem run_pick {k : Cx} {o : Oper} {c x y : Operand} {b : Bool} {e : Operand → Value} (ho : o.op = .pick c x y) (hc : e c = .bool b) : (execOp e o).run P k.w = .ok (.value (if b then e x else e y)) k.w := by
  unfold execOp
  simp only [ho, hc]
  cases b <;> rfl
theorem opj_or {o : Oper} {R : Option AV → St → Prop} {c x y : Operand} {b vy : Bool} (ho : o.op = .pick c x y) (hc : ev fr c = some (.v (.bool b))) (hx : ev fr x = some (.v (.bool true))) (hy : ev fr y = some (.mb (!b) (.v (.bool vy)))) (hR : R (some (.v (.bool (b || vy)))) σ) : OpJ P o (ev fr) σ R :=
  opj_quiet _ (fun k e hσ hk hr => by
    have m1 : c ∈ o.op.operands := by rw [ho]; simp [Op.operands]
    have m2 : x ∈ o.op.operands := by rw [ho]; simp [Op.operands]
    have m3 : y ∈ o.op.operands := by rw [ho]; simp [Op.operands]
    exact ⟨_, run_pick ho (rep_v (hr c m1 _ hc)), gc_or hr hx hy m2 m3 (fun h => by rw [h]; rfl)⟩) hR
theorem opj_and {o : Oper} {R : Option AV → St → Prop} {c x y : Operand} {b vx : Bool} (ho : o.op = .pick c x y) (hc : ev fr c = some (.v (.bool b))) (hx : ev fr x = some (.mb b (.v (.bool vx)))) (hy : ev fr y = some (.v (.bool false))) (hR : R (some (.v (.bool (b && vx)))) σ) : OpJ P o (ev fr) σ R :=
  opj_quiet _ (fun k e hσ hk hr => by
    have m1 : c ∈ o.op.operands := by rw [ho]; simp [Op.operands]
    have m2 : x ∈ o.op.operands := by rw [ho]; simp [Op.operands]
    have m3 : y ∈ o.op.operands := by rw [ho]; simp [Op.operands]
    exact ⟨_, run_pick ho (rep_v (hr c m1 _ hc)), gc_and hr hx hy m2 m3 (fun h => h)⟩) hR
theorem opj_orq {o : Oper} {R : Option AV → St → Prop} {c x y : Operand} {cc b vy : Bool} (ho : o.op = .pick c x y) (hc : ev fr c = some (.mb cc (.v (.bool b)))) (hx : ev fr x = some (.v (.bool true))) (hy : ev fr y = some (.mb (cc && !b) (.v (.bool vy)))) (h : cc = true) (hR : R (some (.v (.bool (b || vy)))) σ) : OpJ P o (ev fr) σ R :=
  opj_quiet _ (fun k e hσ hk hr => by
    have m1 : c ∈ o.op.operands := by rw [ho]; simp [Op.operands]
    have m2 : x ∈ o.op.operands := by rw [ho]; simp [Op.operands]
    have m3 : y ∈ o.op.operands := by rw [ho]; simp [Op.operands]
    have h1 := hr c m1 _ hc
    cases h1 with
    | mb h0 h1 => exact ⟨_, run_pick ho (rep_v (h1 h)), gc_or hr hx hy m2 m3 (fun h' => by rw [h, h']; rfl)⟩) hR
theorem opj_andq {o : Oper} {R : Option AV → St → Prop} {c x y : Operand} {cc b vx : Bool} (ho : o.op = .pick c x y) (hc : ev fr c = some (.mb cc (.v (.bool b)))) (hx : ev fr x = some (.mb (cc && b) (.v (.bool vx)))) (hy : ev fr y = some (.v (.bool false))) (h : cc = true) (hR : R (some (.v (.bool (b && vx)))) σ) : OpJ P o (ev fr) σ R :=
  opj_quiet _ (fun k e hσ hk hr => by
    have m1 : c ∈ o.op.operands := by rw [ho]; simp [Op.operands]
    have m2 : x ∈ o.op.operands := by rw [ho]; simp [Op.operands]
    have m3 : y ∈ o.op.operands := by rw [ho]; simp [Op.operands]
    have h1 := hr c m1 _ hc
    cases h1 with
    | mb h0 h1 => exact ⟨_, run_pick ho (rep_v (h1 h)), gc_and hr hx hy m2 m3 (fun h' => by rw [h, h']; rfl)⟩) hR
end
end Go.Proofs.YtbpoeggmpjepfaaDoor.Ab

/- Abstract values over the model's memory: regions that draw their order. -/
set_option linter.unusedVariables false
set_option linter.unusedSimpArgs false
set_option maxRecDepth 20000
namespace Go.Proofs.YtbpoeggmpjepfaaDoor.Ab
open Go

/-- One operation, whatever follows: it hands on a value that is r, in a store, of which R holds. -/
def OpW (P : Program) (o : Oper) (E : Operand → Option AV) (σ : St) (R : AV → St → Prop) : Prop :=
  ∀ (k : Cx) (a : Act) (K : Act → World → Prop) (Q : Exit → Act → World → Prop), k.σ = σ → Ok k → RepsOn k E a.eval o.op.operands →
    (∀ k' v r, Ok k' → Step k k' → R r k'.σ → Rep k' r v → K (a.put o.dst v) k'.w) → o.wp P a k.w K Q
theorem OpW.of_opj {P : Program} {o : Oper} {E : Operand → Option AV} {σ : St} {R : AV → St → Prop} (h : OpJ P o E σ (fun r σ' => R (r.getD (.tup [])) σ')) : OpW P o E σ R := fun k a K Q hσ hk hr hK => by
  obtain ⟨k', n, r, h1, h2, h3, h4, h5⟩ := h k a.eval hσ hk hr
  unfold Oper.wp
  rw [h1]
  cases r with
  | none => cases h5; exact hK k' undef _ h2 h3 h4 (.tup (by simp [undef]) (fun j a u h _ => by simp at h))
  | some av => obtain ⟨v, rfl, h6⟩ := h5; exact hK k' v _ h2 h3 h4 h6
theorem evs_reps_on {k : Cx} {E : Operand → Option AV} {e : Operand → Value} {l : Array Operand} (hr : RepsOn k E e l) : ∀ (xs : List Operand) (as : List AV), (∀ x ∈ xs, x ∈ l) → xs.mapM E = some as → Reps k as (xs.map e)
  | [], as, _, h => by simp at h; subst h; exact ⟨rfl, fun j a u h _ => by simp at h⟩
  | x :: xs, as, hm, h => by
    simp only [List.mapM_cons, Option.bind_eq_bind, Option.bind_eq_some_iff, Option.pure_def, Option.some.injEq] at h
    obtain ⟨a, ha, as', has, rfl⟩ := h
    obtain ⟨h3, h4⟩ := evs_reps_on hr xs as' (fun y hy => hm y (by simp [hy])) has
    refine ⟨by simp [h3], fun j c u hj hu => ?_⟩
    cases j with
    | zero => simp at hj hu; subst hj; subst hu; exact hr x (hm x (by simp)) a ha
    | succ j => exact h4 j c u (by simpa using hj) (by simpa using hu)
theorem evs_mapM (fr : Fr) : ∀ (l : List Operand) (as : List AV), evs fr l = some as → l.mapM (ev fr) = some as
  | [], as, h => by cases h; rfl
  | x :: l, as, h => by
    unfold evs at h
    split at h
    · rename_i a as' h1 h2
      cases h
      simp [h1, evs_mapM fr l as' h2]
    · cases h
theorem OpW.of_calls {P : Program} {dst : Option Tmp} {ty : TypeId} {pos : String} {aft : Array Edge} {gd : Option (Nat × Bool)} {f : FuncId} {xs : Array Operand} {ts : Array TypeId} {fr : Fr} {as : List AV} {σ : St} {R : AV → St → Prop} {C : AEnd → St → Prop} (has : evs fr xs.toList = some as) (hent : entered P f = true) (hp : ACalls P f as σ C)
    (hC : ∀ e σ', C e σ' → ∃ r, e = .ret r ∧ R r σ') : OpW P ⟨dst, .call { callee := .value (.func f), args := xs, argTypes := ts }, ty, pos, aft, gd⟩ (ev fr) σ R := fun k a K Q hσ hk hr hK => by
  have hargs := evs_reps_on hr xs.toList as (fun x hx => by simp [Op.operands, Call.operands]; exact .inr (by simpa using hx)) (evs_mapM fr _ _ has)
  have hrun : (execOp a.eval ⟨dst, .call { callee := .value (.func f), args := xs, argTypes := ts }, ty, pos, aft, gd⟩).run P k.w = .ok (.enter f (xs.toList.map a.eval).toArray) k.w := by
    unfold execOp
    simp only [resolve, Act.eval, Deferred.ofValue, invoke, Sem.run_bind, Sem.run_pure, Result.andThen_ok, run_callFunc hent]
    congr 2
    apply Array.ext'
    simp
  unfold Oper.wp
  rw [hrun]
  simp only [Oper.upon]
  refine (hp k _ hσ hk hargs).mono fun e w' ⟨k', e', h1, h2, h3, h4, h5⟩ => ?_
  subst h1
  obtain ⟨r, rfl, h6⟩ := hC _ _ h5
  cases e with
  | returned v => exact hK k' v r h2 h3 h6 h4
  | panicked ch => exact h4.elim
  | outgrown => exact h4.elim
theorem OpW.forget {P : Program} {o : Oper} {E : Operand → Option AV} {σ : St} {r : AV} (h : OpW P o E σ (fun r' σ' => r' = r ∧ σ.le σ')) : OpW P o E σ (fun r' σ' => r' = r ∧ σ' = σ) := fun k a K Q hσ hk hr hK =>
  h k a K Q hσ hk hr fun k' v r' h1 h2 h3 h4 => by
    obtain ⟨rfl, h5⟩ := h3
    obtain ⟨h6, h7⟩ := h1.forget h5
    exact hK { k' with σ := σ } v r' h6 (h2.trans h7) ⟨rfl, rfl⟩ (h4.step h7)

/-! ### The order -/
def dep (ops : Array Oper) (i j : Nat) : Prop := ∃ o, ops[i]? = some o ∧ ∃ e ∈ o.after, Region.binds .any e = true ∧ e.on = j
def depB (ops : Array Oper) (i j : Nat) : Bool := match ops[i]? with
  | some o => o.after.toList.any fun e => Region.binds .any e && e.on == j
  | none => false
theorem dep_of_B {ops : Array Oper} {i j : Nat} (h : depB ops i j = true) : dep ops i j := by
  unfold depB at h
  split at h
  · rename_i o ho
    rw [List.any_eq_true] at h
    obtain ⟨e, he, h⟩ := h
    simp only [Bool.and_eq_true, beq_iff_eq] at h
    exact ⟨o, ho, e, by simpa using he, h.1, h.2⟩
  · cases h
inductive depT (ops : Array Oper) : Nat → Nat → Prop
  | one {i j : Nat} (h : dep ops i j) : depT ops i j
  | more {i j k : Nat} (h : dep ops i j) (h' : depT ops j k) : depT ops i k
def direct (o : Oper) : List Nat := o.after.toList.filterMap fun e => if Region.binds .any e then some e.on else none
def addAll : List Nat → List Nat → List Nat
  | [], m => m
  | x :: l, m => if m.contains x then addAll l m else addAll l (x :: m)
theorem mem_addAll {y : Nat} : ∀ {l m : List Nat}, y ∈ addAll l m → y ∈ l ∨ y ∈ m
  | [], m, h => .inr h
  | x :: l, m, h => by
    unfold addAll at h
    split at h
    · rcases mem_addAll h with h | h
      · exact .inl (.tail _ h)
      · exact .inr h
    · rcases mem_addAll h with h | h
      · exact .inl (.tail _ h)
      · rcases List.mem_cons.1 h with rfl | h
        · exact .inl (.head _)
        · exact .inr h
def addEach (acc : List (List Nat)) : List Nat → List Nat → List Nat
  | [], m => m
  | j :: l, m => addEach acc l (addAll (acc.getD j []) m)
theorem mem_addEach {acc : List (List Nat)} {y : Nat} : ∀ {l m : List Nat}, y ∈ addEach acc l m → y ∈ m ∨ ∃ j ∈ l, y ∈ acc.getD j []
  | [], m, h => .inl h
  | j :: l, m, h => by
    rcases mem_addEach (l := l) h with h | ⟨j', h1, h2⟩
    · rcases mem_addAll h with h | h
      · exact .inr ⟨j, .head _, h⟩
      · exact .inl h
    · exact .inr ⟨j', .tail _ h1, h2⟩
def clo : List Oper → List (List Nat) → List (List Nat)
  | [], acc => acc
  | o :: l, acc => clo l (acc ++ [addEach acc (direct o) (direct o)])
theorem clo_ok {ops : Array Oper} : ∀ (l : List Oper) (pre : List Oper) (acc : List (List Nat)), ops.toList = pre ++ l → acc.length = pre.length → (∀ i, ∀ j ∈ acc.getD i [], depT ops i j) → ∀ i, ∀ j ∈ (clo l acc).getD i [], depT ops i j
  | [], pre, acc, _, _, h => h
  | o :: l, pre, acc, he, hl, h => by
    refine clo_ok l (pre ++ [o]) _ (by simp [he]) (by simp [hl]) (fun i j hj => ?_)
    rcases Nat.lt_or_ge i acc.length with hlt | hge
    · rw [List.getD_eq_getElem?_getD, List.getElem?_append_left hlt, ← List.getD_eq_getElem?_getD] at hj
      exact h i j hj
    · rcases Nat.lt_or_ge acc.length i with hgt | hle
      · rw [List.getD_eq_getElem?_getD, List.getElem?_eq_none (by simp; omega)] at hj
        cases hj
      · have hi : i = acc.length := by omega
        subst hi
        have ho : ops[acc.length]? = some o := by
          rw [← Array.getElem?_toList, he, hl, List.getElem?_append_right (Nat.le_refl _)]
          simp
        have hd : ∀ x, x ∈ direct o → dep ops acc.length x := fun x hx => by
          simp only [direct, List.mem_filterMap] at hx
          obtain ⟨e, he1, he2⟩ := hx
          split at he2
          · rename_i hb
            cases he2
            exact ⟨o, ho, e, by simpa using he1, hb, rfl⟩
          · cases he2
        have hj' : j ∈ addEach acc (direct o) (direct o) := by simpa [List.getD] using hj
        rcases mem_addEach hj' with hm | ⟨x, hx, hy⟩
        · exact .one (hd j hm)
        · exact .more (hd x hx) (h x j hy)
/-- Where what is in slot t comes from, when operation i asks. -/
def Src (ops : Array Oper) (fr : Fr) (val : Nat → AV) (i t : Nat) (a : AV) : Prop :=
  (∃ j oj, ops[j]? = some oj ∧ oj.dst = some t ∧ depT ops i j ∧ a = val j) ∨ ((∀ j oj, ops[j]? = some oj → oj.dst = some t → depT ops j i ∨ j = i) ∧ lk fr t = some a)
/-- What operation i is in every store it may meet; m turns σ0 into σ1. -/
def Acts (P : Program) (ops : Array Oper) (m : Nat) (σ0 σ1 : St) (i : Nat) (o : Oper) (E : Operand → Option AV) (r : AV) : Prop :=
  (i = m → OpW P o E σ0 (fun r' σ' => r' = r ∧ σ' = σ1)) ∧ (i ≠ m → ¬ depT ops i m → OpW P o E σ0 (fun r' σ' => r' = r ∧ σ' = σ0)) ∧ (i ≠ m → ¬ depT ops m i → OpW P o E σ1 (fun r' σ' => r' = r ∧ σ' = σ1))
/-- Is it wanted? What it leaves. -/
def Fact (P : Program) (ops : Array Oper) (m : Nat) (σ0 σ1 : St) (fr : Fr) (val : Nat → AV) (E : Nat → Fr) (i : Nat) : Prop := ∀ o, ops[i]? = some o →
  (∀ t a, t ∈ o.looksAt ops → lk (E i) t = some a → Src ops fr val i t a) ∧
  ((o.guard = none ∧ Acts P ops m σ0 σ1 i o (ev (E i)) (val i)) ∨
   ∃ g want t b c, o.guard = some (g, want) ∧ (ops[g]?).bind (·.dst) = some t ∧ lk (E i) t = some b ∧ gc b want = some c ∧
     ((c = true → Acts P ops m σ0 σ1 i o (ev (E i)) (val i)) ∧ (c = false → i ≠ m ∧ ∀ k, Rep k (val i) undef)))
def cur (m : Nat) (σ0 σ1 : St) (listed : Array Bool) : St := if listed.getD m false then σ1 else σ0
structure Inv (ops : Array Oper) (nt : Nat) (σ : St) (fr : Fr) (val : Nat → AV) (listed : Array Bool) (k : Cx) (tmps : Array Value) : Prop where
  σ : k.σ = σ
  ok : Ok k
  nt : tmps.size = nt
  closed : ∀ i j, listed.getD i false = true → dep ops i j → listed.getD j false = true
  new : ∀ j oj t, ops[j]? = some oj → oj.dst = some t → listed.getD j false = true → ∃ u, tmps[t]? = some u ∧ Rep k (val j) u
  old : ∀ t a, lk fr t = some a → (∀ j oj, ops[j]? = some oj → oj.dst = some t → listed.getD j false = false) → ∃ u, tmps[t]? = some u ∧ Rep k a u
section
variable {P : Program} {ops : Array Oper} {nt : Nat} {fr : Fr} {val : Nat → AV} {E : Nat → Fr} {σ σ0 σ1 : St} {m : Nat} {listed : Array Bool}
theorem Inv.closedT {k : Cx} {tmps : Array Value} (h : Inv ops nt σ fr val listed k tmps) {i j : Nat} (hd : depT ops i j) : listed.getD i false = true → listed.getD j false = true := by
  induction hd with
  | one hd => exact fun hi => h.closed _ _ hi hd
  | more hd _ ih => exact fun hi => ih (h.closed _ _ hi hd)
theorem unlisted {i : Nat} (hi : i ∈ Region.ready .any ops listed) : listed.getD i false = false := by
  obtain ⟨h0, o, ho, hall⟩ := mem_ready.1 hi
  rcases Nat.lt_or_ge i listed.size with hlt | hge
  · simp [hlt] at h0 ⊢; exact h0
  · simp [Array.getElem?_eq_none hge]
theorem Inv.deps {k : Cx} {tmps : Array Value} (h : Inv ops nt σ fr val listed k tmps) {i j : Nat} (hi : i ∈ Region.ready .any ops listed) (hd : depT ops i j) : listed.getD j false = true := by
  obtain ⟨h0, o, ho, hall⟩ := mem_ready.1 hi
  have h1 : ∀ x, dep ops i x → listed.getD x false = true := fun x ⟨o', ho', e, he, hb, hon⟩ => by
    rw [ho] at ho'; cases ho'
    have := hall e he hb
    rwa [hon] at this
  cases hd with
  | one hd => exact h1 _ hd
  | more hd hd' => exact h.closedT hd' (h1 _ hd)
theorem Inv.sees {k : Cx} {tmps : Array Value} (h : Inv ops nt σ fr val listed k tmps) {i : Nat} (hi : i ∈ Region.ready .any ops listed) {t : Nat} {a : AV} (hs : Src ops fr val i t a) : ∃ u, tmps[t]? = some u ∧ Rep k a u := by
  have hun := unlisted hi
  rcases hs with ⟨j, oj, h1, h2, hdj, rfl⟩ | ⟨h1, h2⟩
  · exact h.new j oj t h1 h2 (h.deps hi hdj)
  · refine h.old t a h2 fun j oj h3 h4 => ?_
    rcases h1 j oj h3 h4 with h5 | rfl
    · cases hl : listed.getD j false with
      | false => rfl
      | true => rw [h.closedT h5 hl] at hun; cases hun
    · exact hun
theorem Inv.reps {k : Cx} {a : Act} (h : Inv ops nt σ fr val listed k a.tmps) {i : Nat} (hi : i ∈ Region.ready .any ops listed) {o : Oper} (ho : ops[i]? = some o) {F : Fr} (hF : ∀ t a, t ∈ o.looksAt ops → lk F t = some a → Src ops fr val i t a) : RepsOn k (ev F) a.eval o.op.operands := fun x hx av hev => by
  cases x with
  | tmp t =>
    obtain ⟨u, hu, hr⟩ := h.sees hi (hF t av (List.mem_append_left _ (List.mem_filterMap.2 ⟨.tmp t, by simpa using hx, rfl⟩)) hev)
    have : a.eval (.tmp t) = u := by simp [Act.eval, hu]
    rw [this]; exact hr
  | const v => exact ev_ok (fr := []) (fun t a h => by cases h) (.const v) av (by cases v <;> exact hev)
  | global g => cases hev
  | func f => exact ev_ok (fr := []) (fun t a h => by cases h) (.func f) av hev
/-- Behind operation i. -/
theorem Inv.next {k k' : Cx} {a : Act} {σ' : St} {val' : Nat → AV} (h : Inv ops nt σ fr val listed k a.tmps) (hs : Step k k') (hok : Ok k') (hσ : k'.σ = σ') {i : Nat} (hi : i ∈ Region.ready .any ops listed) {o : Oper} (ho : ops[i]? = some o) (hd : fits nt o.dst = true) (hdist : ∀ j oj t, ops[j]? = some oj → oj.dst = some t → o.dst = some t → j = i)
    (hval : ∀ j, listed.getD j false = true → val' j = val j) {v : Value} (hv : Rep k' (val' i) v) (hlt : i < listed.size) : Inv ops nt σ' fr val' (listed.setIfInBounds i true) k' (a.put o.dst v).tmps := by
  obtain ⟨h0, o', ho', hall⟩ := mem_ready.1 hi
  rw [ho] at ho'; cases ho'
  have hgi : (listed.setIfInBounds i true).getD i false = true := by simp [hlt]
  have hne : ∀ j, j ≠ i → (listed.setIfInBounds i true).getD j false = listed.getD j false := fun j hj => getD_set_ne false (Ne.symm hj)
  refine ⟨hσ, hok, (Act.size_put ..).trans h.nt, fun x y hx hd' => ?_, fun j oj t h1 h2 h3 => ?_, fun t av h1 h2 => ?_⟩
  · by_cases hxi : x = i
    · subst hxi
      obtain ⟨o', ho', e, he, hb, rfl⟩ := hd'
      rw [ho] at ho'; cases ho'
      exact getD_set_true (hall e he hb)
    · rw [hne x hxi] at hx
      exact getD_set_true (h.closed x y hx hd')
  · by_cases hji : j = i
    · subst hji
      rw [ho] at h1; cases h1
      have hlt' : t < a.tmps.size := by rw [h.nt]; simpa [fits, h2] using hd
      exact ⟨v, by simp [Act.put, h2, hlt'], hv⟩
    · rw [hne j hji] at h3
      obtain ⟨u, hu, hr⟩ := h.new j oj t h1 h2 h3
      refine ⟨u, ?_, by rw [hval j h3]; exact hr.step hs⟩
      cases hod : o.dst with
      | none => simpa [Act.put] using hu
      | some t' =>
        have : t' ≠ t := fun e => hji (hdist j oj t h1 h2 (by rw [hod, e]))
        simp only [Act.put]
        rw [Array.getElem?_setIfInBounds_ne this]
        exact hu
  · have hnot : o.dst ≠ some t := fun e => by
      have := h2 i o ho e
      rw [hgi] at this; cases this
    obtain ⟨u, hu, hr⟩ := h.old t av h1 fun j oj h3 h4 => by
      have := h2 j oj h3 h4
      by_cases hji : j = i
      · subst hji; rw [hgi] at this; cases this
      · rwa [hne j hji] at this
    refine ⟨u, ?_, hr.step hs⟩
    cases hod : o.dst with
    | none => simpa [Act.put] using hu
    | some t' =>
      have : t' ≠ t := fun e => hnot (by rw [hod, e])
      simp only [Act.put]
      rw [Array.getElem?_setIfInBounds_ne this]
      exact hu
/-- The whole. -/
structure Plan (ops : Array Oper) (nt : Nat) : Prop where
  fit : ∀ (i : Nat) (o : Oper), ops[i]? = some o → fits nt o.dst = true
  dist : ∀ (i : Nat) (o : Oper) (j : Nat) (oj : Oper) (t : Nat), ops[i]? = some o → ops[j]? = some oj → oj.dst = some t → o.dst = some t → j = i
  low : ∀ i j, dep ops i j → j < i
theorem ready_least (hp : Plan ops nt) (hsz : listed.size = ops.size) (h : ∃ i, i < ops.size ∧ listed.getD i true = false) : ∃ i, i ∈ Region.ready .any ops listed := by
  obtain ⟨i, hi, hu⟩ := h
  induction i using Nat.strongRecOn with
  | _ i ih =>
    by_cases hall : ∀ j, j < i → listed.getD j true = true
    · refine ⟨i, mem_ready.2 ⟨hu, ops[i], by simp [hi], fun e he hb => ?_⟩⟩
      have hlt := hp.low i e.on ⟨ops[i], by simp [hi], e, he, hb, rfl⟩
      have := hall e.on hlt
      have hlt2 : e.on < listed.size := by omega
      simp [hlt2] at this ⊢
      exact this
    · simp only [Classical.not_forall] at hall
      obtain ⟨j, hj, hn⟩ := hall
      exact ih j hj (by omega) (by cases hh : listed.getD j true with
        | false => rfl
        | true => exact absurd hh hn)
theorem run_plan (hp : Plan ops nt) {k0 : Cx} {a0 : Act} {Q : Post} (hm : m < ops.size ∨ σ1 = σ0) (hfact : ∀ i, Fact P ops m σ0 σ1 fr val E i) (K : ∀ k (a : Act), Step k0 k → a.defers = a0.defers → k.σ = σ1 → Ok k → a.tmps.size = nt → (∀ (j : Nat) (oj : Oper) (t : Nat), ops[j]? = some oj → oj.dst = some t → ∃ u, a.tmps[t]? = some u ∧ Rep k (val j) u) → (∀ t av, lk fr t = some av → (∀ (j : Nat) (oj : Oper), ops[j]? = some oj → oj.dst ≠ some t) → ∃ u, a.tmps[t]? = some u ∧ Rep k av u) → conc k0 a0 Q .normal a k.w) :
    ∀ (fuel : Nat) (listed : Array Bool) (k : Cx) (a : Act), listed.size = ops.size → (listed.toList.filter (! ·)).length = fuel → Inv ops nt (cur m σ0 σ1 listed) fr val listed k a.tmps → Step k0 k → a.defers = a0.defers → wpAny P .any ops (conc k0 a0 Q) fuel listed a k.w := by
  have hend : ∀ (listed : Array Bool) (k : Cx) (a : Act), listed.size = ops.size → Region.ready .any ops listed = [] → Inv ops nt (cur m σ0 σ1 listed) fr val listed k a.tmps → Step k0 k → a.defers = a0.defers → conc k0 a0 Q .normal a k.w := by
    intro listed k a hsz hr hi hst hd
    have hall : ∀ i, i < ops.size → listed.getD i false = true := fun i hlt => by
      cases hh : listed.getD i true with
      | true =>
        have : i < listed.size := by omega
        simp [this] at hh ⊢; exact hh
      | false =>
        obtain ⟨j, hj⟩ := ready_least hp hsz ⟨i, hlt, hh⟩
        rw [hr] at hj; cases hj
    have hcur : cur m σ0 σ1 listed = σ1 := by
      rcases hm with hm | hm
      · rw [cur, if_pos (hall m hm)]
      · rw [cur, hm]; split <;> rfl
    refine K k a hst hd (hi.σ.trans hcur) hi.ok hi.nt (fun j oj t h1 h2 => hi.new j oj t h1 h2 (hall j (Array.getElem?_eq_some_iff.1 h1).1)) (fun t av h1 h2 => hi.old t av h1 fun j oj h3 h4 => absurd h4 (h2 j oj h3))
  intro fuel
  induction fuel with
  | zero =>
    intro listed k a hsz hf hi hst hd
    have hr : Region.ready .any ops listed = [] := by
      cases hrr : Region.ready .any ops listed with
      | nil => rfl
      | cons i l =>
        have hm : i ∈ Region.ready .any ops listed := by rw [hrr]; simp
        obtain ⟨h0, o, ho, _⟩ := mem_ready.1 hm
        have hlt : i < listed.size := by rw [hsz]; exact (Array.getElem?_eq_some_iff.1 ho).1
        have hmem : listed[i] ∈ listed.toList.filter (! ·) := List.mem_filter.2 ⟨by simp, by simp [hlt] at h0; simp [h0]⟩
        rw [List.eq_nil_of_length_eq_zero hf] at hmem
        cases hmem
    exact ⟨hr, hend listed k a hsz hr hi hst hd⟩
  | succ fuel ih =>
    intro listed k a hsz hf hi hst hd
    refine ⟨fun hr => hend listed k a hsz hr hi hst hd, fun i hm' => ?_⟩
    obtain ⟨h0, o, ho, hall⟩ := mem_ready.1 hm'
    have hlt : i < listed.size := by rw [hsz]; exact (Array.getElem?_eq_some_iff.1 ho).1
    have hcount : ((listed.setIfInBounds i true).toList.filter (! ·)).length = fuel := by
      have hli : listed[i] = false := by simpa [hlt] using h0
      have e1 : listed.toList = listed.toList.take i ++ false :: listed.toList.drop (i + 1) := by
        have hlt' : i < listed.toList.length := by simpa using hlt
        rw [← hli, ← Array.getElem_toList hlt, ← List.drop_eq_getElem_cons hlt', List.take_append_drop]
      have e2 : (listed.setIfInBounds i true).toList = listed.toList.take i ++ true :: listed.toList.drop (i + 1) := by
        rw [Array.toList_setIfInBounds, List.set_eq_take_append_cons_drop, if_pos (by simpa using hlt)]
      rw [e2]
      rw [e1] at hf
      simp only [List.filter_append, List.filter_cons, Bool.not_false, Bool.not_true, if_true, List.length_append, List.length_cons] at hf ⊢
      simp only [Bool.false_eq_true, if_false]
      omega
    obtain ⟨hsrc, hact⟩ := hfact i o ho
    have hreps := hi.reps hm' ho hsrc
    have hdist : ∀ j oj t, ops[j]? = some oj → oj.dst = some t → o.dst = some t → j = i := fun j oj t h1 h2 h3 => hp.dist i o j oj t ho h1 h2 h3
    have hun := unlisted hm'
    have hgo : Acts P ops m σ0 σ1 i o (ev (E i)) (val i) → o.wp P a k.w (wpAny P .any ops (conc k0 a0 Q) fuel (listed.setIfInBounds i true)) (conc k0 a0 Q) := fun ⟨ha, hb, hc⟩ => by
      have hw : OpW P o (ev (E i)) (cur m σ0 σ1 listed) (fun r σ' => r = val i ∧ σ' = cur m σ0 σ1 (listed.setIfInBounds i true)) := by
        by_cases him : i = m
        · have e1 : cur m σ0 σ1 listed = σ0 := by rw [cur, ← him, if_neg (by rw [hun]; decide)]
          have e2 : cur m σ0 σ1 (listed.setIfInBounds i true) = σ1 := by rw [cur, ← him, if_pos (by simp [hlt])]
          rw [e1, e2]; exact ha him
        · have e3 : (listed.setIfInBounds i true).getD m false = listed.getD m false := getD_set_ne false him
          cases hlm : listed.getD m false with
          | false =>
            have e1 : cur m σ0 σ1 listed = σ0 := by rw [cur, if_neg (by rw [hlm]; decide)]
            have e2 : cur m σ0 σ1 (listed.setIfInBounds i true) = σ0 := by rw [cur, e3, if_neg (by rw [hlm]; decide)]
            rw [e1, e2]
            exact hb him fun hd' => by rw [hi.deps hm' hd'] at hlm; cases hlm
          | true =>
            have e1 : cur m σ0 σ1 listed = σ1 := by rw [cur, if_pos hlm]
            have e2 : cur m σ0 σ1 (listed.setIfInBounds i true) = σ1 := by rw [cur, e3, if_pos hlm]
            rw [e1, e2]
            exact hc him fun hd' => by rw [hi.closedT hd' hlm] at hun; cases hun
      exact hw k a _ _ hi.σ hi.ok hreps fun k' v r h1 h2 h3 h4 => by
        obtain ⟨rfl, h5⟩ := h3
        exact ih _ k' _ (by simpa using hsz) hcount (hi.next h2 h1 h5 hm' ho (hp.fit i o ho) hdist (fun _ _ => rfl) h4 hlt) (hst.trans h2) ((Act.defers_put ..).trans hd)
    have hskip : i ≠ m → (∀ k, Rep k (val i) undef) → wpAny P .any ops (conc k0 a0 Q) fuel (listed.setIfInBounds i true) (a.put o.dst undef) k.w := fun him hv =>
      ih _ k _ (by simpa using hsz) hcount (hi.next (.refl k) hi.ok (by
        have e3 : (listed.setIfInBounds i true).getD m false = listed.getD m false := getD_set_ne false him
        rw [hi.σ, cur, cur, e3]) hm' ho (hp.fit i o ho) hdist (fun _ _ => rfl) (hv _) hlt) hst ((Act.defers_put ..).trans hd)
    unfold wpOp
    simp only [ho]
    rcases hact with ⟨hg, hw⟩ | ⟨g, want, t, b, c, hg, hgt, hgl, hgc, hcase⟩
    · rw [if_pos (by simp [Region.wanted, hg])]
      exact .inl (hgo hw)
    · obtain ⟨u, hu, hr⟩ := hi.sees hm' (hsrc t _ (List.mem_append_right _ (by rw [hg]; simp [hgt])) hgl)
      have hy := yields_gc1 hgt hu hr hgc
      cases c with
      | true =>
        rw [if_pos (by simp only [Region.wanted, hg, hy])]
        exact .inl (hgo (hcase.1 rfl))
      | false =>
        rw [if_neg (by simp only [Region.wanted, hg, hy]; simp)]
        exact hskip (hcase.2 rfl).1 (hcase.2 rfl).2
end

/-! ### The rule -/
theorem Ok.drawn {k : Cx} (hk : Ok k) (n : Nat) : Ok { k with w := { k.w with drawn := n } } ∧ Step k { k with w := { k.w with drawn := n } } := by
  have hs : Step k { k with w := { k.w with drawn := n } } := ⟨Nat.le_refl _, fun _ _ => rfl, rfl, rfl, rfl, rfl, Nat.le_refl _, fun _ _ h => ⟨rfl, h⟩, fun _ cs _ f h => ⟨cs, f, h, rfl⟩⟩
  refine ⟨⟨hk.dom, hk.inj, hk.bas, hk.hb, fun id o ho => ?_, hk.ground hs⟩, hs⟩
  have h := hk.obj id o ho
  cases o with
  | row sz elem els =>
    rcases h with h | ⟨b, cs, h1, h2, h3, h4, h5⟩
    · exact .inl h
    · refine .inr ⟨b, cs, h1, h2, h3, h4, fun i j e a he ha => ?_⟩
      obtain ⟨u, h6, h7, h8⟩ := h5 i j e a he ha
      exact ⟨u, h6, h7, h8.step hs⟩
  | siter s pos => exact h
  | map es =>
    obtain ⟨b, ms, clock, h1, h2, h3, h4⟩ := h
    refine ⟨b, ms, clock, h1, h2, h3, fun i e mm he hm => ?_⟩
    obtain ⟨h5, h6⟩ := h4 i e mm he hm
    exact ⟨h5, h6.step hs⟩

def memB (c : List (List Nat)) (i j : Nat) : Bool := (c.getD i []).contains j
def dstOf (l : List Oper) (j : Nat) : Option Tmp := match l[j]? with
  | some o => o.dst
  | none => none
def srcB (l : List Oper) (c : List (List Nat)) (i t : Nat) : Bool :=
  (List.range l.length).any (fun j => dstOf l j == some t && memB c i j && Nat.blt j i) || (List.range l.length).all (fun j => !(dstOf l j == some t) || memB c j i || j == i)
def planB (l : List Oper) (nt : Nat) (c : List (List Nat)) : Bool :=
  l.all (fun o => fits nt o.dst) && (List.range l.length).all (fun i => (List.range l.length).all fun j => j == i || (dstOf l i).isNone || !(dstOf l j == dstOf l i)) &&
  (List.range l.length).all (fun i => match l[i]? with
    | some o => (direct o).all (fun j => Nat.blt j i) && (o.looksAt l.toArray).all (fun t => srcB l c i t)
    | none => true)
/-- The frames in the text's order. -/
def frs (l : List Oper) (val : Nat → AV) (fr : Fr) : Nat → Fr
  | 0 => fr
  | n + 1 => put (frs l val fr n) (dstOf l n) (some (val n))
theorem dstOf_some {l : List Oper} {j : Nat} {t : Tmp} (h : dstOf l j = some t) : ∃ o, l[j]? = some o ∧ o.dst = some t := by
  unfold dstOf at h
  split at h
  · rename_i o ho; exact ⟨o, ho, h⟩
  · cases h
theorem dstOf_of {l : List Oper} {j : Nat} {o : Oper} {t : Tmp} (h : l[j]? = some o) (h' : o.dst = some t) : dstOf l j = some t := by
  unfold dstOf; rw [h]; exact h'
theorem lk_frs_none {l : List Oper} {val : Nat → AV} {fr : Fr} {t : Nat} : ∀ n, (∀ j, j < n → dstOf l j ≠ some t) → lk (frs l val fr n) t = lk fr t
  | 0, _ => rfl
  | n + 1, h => by
    have ih := lk_frs_none (val := val) (fr := fr) n fun j hj => h j (by omega)
    unfold frs
    cases hd : dstOf l n with
    | none => exact ih
    | some u =>
      have : t ≠ u := fun e => h n (by omega) (by rw [hd, e])
      simp only [Ab.put]
      rw [lk_cons, if_neg this]; exact ih
theorem lk_frs_some {l : List Oper} {val : Nat → AV} {fr : Fr} {t j : Nat} (hj : dstOf l j = some t) (hd : ∀ i, dstOf l i = some t → i = j) : ∀ n, j < n → lk (frs l val fr n) t = some (val j)
  | 0, h => absurd h (by omega)
  | n + 1, h => by
    unfold frs
    by_cases hn : j = n
    · subst hn
      rw [hj]
      simp only [Ab.put]
      rw [lk_cons, if_pos rfl]
    · have ih := lk_frs_some (val := val) (fr := fr) hj hd n (by omega)
      cases hdn : dstOf l n with
      | none => exact ih
      | some u =>
        have : t ≠ u := fun e => hn (hd n (by rw [hdn, e])).symm
        simp only [Ab.put]
        rw [lk_cons, if_neg this]; exact ih
/-- Operation i does what it must in every store it may meet. -/
def OnB (P : Program) (c : List (List Nat)) (m : Nat) (σ0 σ1 : St) (i : Nat) (o : Oper) (E : Operand → Option AV) (r : AV) : Prop :=
  match Nat.decEq i m with
  | isTrue _ => OpW P o E σ0 (fun r' σ' => r' = r ∧ σ' = σ1)
  | isFalse _ => (memB c i m = false → OpW P o E σ0 (fun r' σ' => r' = r ∧ σ' = σ0)) ∧ (memB c m i = false → OpW P o E σ1 (fun r' σ' => r' = r ∧ σ' = σ1))
def FactB (P : Program) (l : List Oper) (c : List (List Nat)) (m : Nat) (σ0 σ1 : St) (fr : Fr) (i : Nat) (o : Oper) (r : AV) : Prop :=
  match o.guard with
  | none => OnB P c m σ0 σ1 i o (ev fr) r
  | some (g, want) => ∃ b cc, (match dstOf l g with | some t => lk fr t | none => none) = some b ∧ gc b want = some cc ∧ ((cc = true → OnB P c m σ0 σ1 i o (ev fr) r) ∧ (cc = false → i ≠ m ∧ ∀ k, Rep k r undef))
def DJ (P : Program) (l : List Oper) (c : List (List Nat)) (m : Nat) (σ0 σ1 : St) (K : Fr → Prop) (i : Nat) (rest : List Oper) (fr : Fr) : Prop := l.drop i = rest →
  ∃ (rs : List AV) (fr2 : Fr), i + rs.length = l.length ∧ (∀ j o, l[i + j]? = some o → FactB P l c m σ0 σ1 (frs (l.drop i) (fun n => rs.getD n (.tup [])) fr j) (i + j) o (rs.getD j (.tup []))) ∧
    (∀ t a, lk fr2 t = some a → lk (frs (l.drop i) (fun n => rs.getD n (.tup [])) fr rs.length) t = some a) ∧ K fr2
theorem frs_shift {l : List Oper} {val : Nat → AV} {fr : Fr} {i : Nat} : ∀ n, frs (l.drop i) val fr (n + 1) = frs (l.drop (i + 1)) (fun n => val (n + 1)) (put fr (dstOf l i) (some (val 0))) n
  | 0 => by
    show put fr (dstOf (l.drop i) 0) (some (val 0)) = _
    have : dstOf (l.drop i) 0 = dstOf l i := by unfold dstOf; rw [List.getElem?_drop]; rfl
    rw [this]; rfl
  | n + 1 => by
    have ih := frs_shift (l := l) (val := val) (fr := fr) (i := i) n
    show put (frs (l.drop i) val fr (n + 1)) (dstOf (l.drop i) (n + 1)) (some (val (n + 1))) = put (frs (l.drop (i + 1)) _ _ n) (dstOf (l.drop (i + 1)) n) (some (val (n + 1)))
    rw [ih]
    have : dstOf (l.drop i) (n + 1) = dstOf (l.drop (i + 1)) n := by
      unfold dstOf
      rw [List.getElem?_drop, List.getElem?_drop]
      have e : i + (n + 1) = i + 1 + n := by omega
      rw [e]
    rw [this]
section
variable {P : Program} {l : List Oper} {c : List (List Nat)} {m nt : Nat} {σ0 σ1 : St} {K : Fr → Prop} {i : Nat} {fr : Fr}
theorem drop_cons {rest : List Oper} {o : Oper} (h : l.drop i = o :: rest) : l[i]? = some o ∧ l.drop (i + 1) = rest ∧ i < l.length := by
  have h1 : l[i]? = some o := by
    have := List.getElem?_drop (xs := l) (i := i) (j := 0)
    rw [h] at this
    simpa using this.symm
  refine ⟨h1, ?_, (List.getElem?_eq_some_iff.1 h1).1⟩
  rw [← List.tail_drop, h]; rfl
theorem dj_nil (hi : Nat.beq i l.length = true) (h : K fr) : DJ P l c m σ0 σ1 K i [] fr := fun hr => by
  have hi' := Nat.eq_of_beq_eq_true hi
  exact ⟨[], fr, by simp [hi'], (fun j o ho => by rw [List.getElem?_eq_none (by omega)] at ho; cases ho), fun t a h => h, h⟩
theorem dj_cons {o : Oper} {r : AV} {rest : List Oper} (hf : FactB P l c m σ0 σ1 fr i o r) (h : DJ P l c m σ0 σ1 K (i + 1) rest (put fr o.dst (some r))) : DJ P l c m σ0 σ1 K i (o :: rest) fr := fun hr => by
  obtain ⟨hl, hr', _⟩ := drop_cons hr
  obtain ⟨rs, fr2, h1, h2, h3, h4⟩ := h hr'
  have hd : dstOf l i = o.dst := by unfold dstOf; rw [hl]
  refine ⟨r :: rs, fr2, by simp only [List.length_cons]; omega, fun j o' ho' => ?_, fun t a hta => ?_, h4⟩
  · cases j with
    | zero =>
      have : some o' = some o := by rw [← ho', ← hl]; rfl
      cases this
      exact hf
    | succ j =>
      have := h2 j o' (by rw [← ho']; congr 1; omega)
      rw [frs_shift, hd]
      have e : i + 1 + j = i + (j + 1) := by omega
      rw [e] at this
      exact this
  · show lk (frs _ _ _ (rs.length + 1)) t = some a
    rw [frs_shift, hd]
    exact h3 t a hta
theorem OpW.sub {o : Oper} {E E' : Operand → Option AV} {σ : St} {R : AV → St → Prop} (hs : ∀ x a, E' x = some a → E x = some a) (h : OpW P o E' σ R) : OpW P o E σ R := fun k a K Q hσ hk hr hK => h k a K Q hσ hk (fun x hx a ha => hr x hx a (hs x a ha)) hK
theorem ev_sub {fr fr' : Fr} (hs : ∀ t a, lk fr' t = some a → lk fr t = some a) : ∀ x a, ev fr' x = some a → ev fr x = some a := fun x a h => by
  cases x with
  | tmp t => exact hs t a h
  | const v => cases v <;> exact h
  | global g => cases h
  | func f => exact h
theorem FactB.sub {o : Oper} {r : AV} {fr fr' : Fr} (hs : ∀ t a, lk fr' t = some a → lk fr t = some a) (h : FactB P l c m σ0 σ1 fr' i o r) : FactB P l c m σ0 σ1 fr i o r := by
  have hon : OnB P c m σ0 σ1 i o (ev fr') r → OnB P c m σ0 σ1 i o (ev fr) r := fun hO => by
    unfold OnB at hO ⊢
    split at hO
    · exact hO.sub (ev_sub hs)
    · exact ⟨fun e => (hO.1 e).sub (ev_sub hs), fun e => (hO.2 e).sub (ev_sub hs)⟩
  unfold FactB at h ⊢
  cases hg : o.guard with
  | none => rw [hg] at h; exact hon h
  | some p =>
    obtain ⟨g, want⟩ := p
    rw [hg] at h
    obtain ⟨b, cc, hb, hgc, hc⟩ := h
    refine ⟨b, cc, ?_, hgc, fun h1 => hon (hc.1 h1), hc.2⟩
    cases hgt : dstOf l g with
    | none => rw [hgt] at hb; cases hb
    | some t => rw [hgt] at hb; exact hs t _ hb
theorem frs_sub {val : Nat → AV} {fr fr' : Fr} (hs : ∀ t a, lk fr' t = some a → lk fr t = some a) : ∀ n t a, lk (frs l val fr' n) t = some a → lk (frs l val fr n) t = some a
  | 0 => hs
  | n + 1 => fun t a h => by
    unfold frs at h ⊢
    cases hd : dstOf l n with
    | none => rw [hd] at h; exact frs_sub hs n t a h
    | some u =>
      rw [hd] at h
      simp only [Ab.put] at h ⊢
      rw [lk_cons] at h ⊢
      split at h
      · rename_i e; rw [if_pos e]; exact h
      · rename_i e; rw [if_neg e]; exact frs_sub hs n t a h
theorem dj_sub {rest : List Oper} {fr fr' : Fr} (hs : ∀ t a, lk fr' t = some a → lk fr t = some a) (h : DJ P l c m σ0 σ1 K i rest fr') : DJ P l c m σ0 σ1 K i rest fr := fun hr => by
  obtain ⟨rs, fr2, h1, h2, h3, h4⟩ := h hr
  exact ⟨rs, fr2, h1, fun j o ho => (h2 j o ho).sub (frs_sub hs j), fun t a ht => frs_sub hs _ t a (h3 t a ht), h4⟩
theorem cj_drawn {id : Nat} {Q : Post} (hmix : P.follows .mixedOrders = true) (m : Nat) (σ1 : St) (hc : clo l [] = c) (hp : planB l nt c = true) (hm : m < l.length ∨ σ1 = σ0)
    (h : DJ P l c m σ0 σ1 (fun fr' => Q .normal fr' σ1) 0 l fr) : CJ P nt (.region id l.toArray true) Q fr σ0 := fun k a hσ hk hz hf => by
  obtain ⟨rs, fr2, h1, h2, h3, h3'⟩ := h rfl
  have hdep : ∀ i j, memB c i j = true → depT l.toArray i j := fun i j hij => by
    subst hc
    exact clo_ok l [] [] (by simp) rfl (fun i j hj => by simp at hj) i j (by simpa [memB] using hij)
  simp only [planB, Bool.and_eq_true, List.all_eq_true, List.mem_range] at hp
  obtain ⟨⟨hp1, hp2⟩, hp3⟩ := hp
  have hdist : ∀ i j t, dstOf l i = some t → dstOf l j = some t → j = i := fun i j t hi hj => by
    obtain ⟨o, ho, _⟩ := dstOf_some hi
    obtain ⟨oj, hoj, _⟩ := dstOf_some hj
    have := hp2 i (List.getElem?_eq_some_iff.1 ho).1 j (List.getElem?_eq_some_iff.1 hoj).1
    simpa [hi, hj] using this
  have hlow : ∀ i j, dep l.toArray i j → j < i := fun i j ⟨o, ho, e, he, hb, hon⟩ => by
    have ho' : l[i]? = some o := by simpa using ho
    have := hp3 i (List.getElem?_eq_some_iff.1 ho').1
    rw [ho'] at this
    simp only [Bool.and_eq_true, List.all_eq_true] at this
    have := this.1 j (by simp only [direct, List.mem_filterMap]; exact ⟨e, by simpa using he, by rw [if_pos hb, hon]⟩)
    exact Nat.blt_eq.mp this
  have hplan : Plan l.toArray nt := ⟨fun i o ho => hp1 o (List.mem_of_getElem? (by simpa using ho)), fun i o j oj t ho hoj hj hi => hdist i j t (dstOf_of (by simpa using ho) hi) (dstOf_of (by simpa using hoj) hj), hlow⟩
  let val : Nat → AV := fun n => rs.getD n (.tup [])
  have hfact : ∀ i, Fact P l.toArray m σ0 σ1 fr val (fun i => frs l val fr i) i := fun i o ho => by
    have ho' : l[i]? = some o := by simpa using ho
    have hil : i < l.length := (List.getElem?_eq_some_iff.1 ho').1
    refine ⟨fun t a ht hta => ?_, ?_⟩
    · have := hp3 i hil
      rw [ho'] at this
      simp only [Bool.and_eq_true, List.all_eq_true] at this
      have := this.2 t ht
      simp only [srcB, Bool.or_eq_true, List.any_eq_true, List.all_eq_true, List.mem_range, Bool.and_eq_true, beq_iff_eq, Bool.not_eq_true', beq_eq_false_iff_ne] at this
      rcases this with ⟨j, hj, ⟨hjt, hij⟩, hji⟩ | hall
      · obtain ⟨oj, hoj, hojt⟩ := dstOf_some hjt
        have hji' := Nat.blt_eq.mp hji
        have e := lk_frs_some (val := val) (fr := fr) hjt (fun x hx => hdist j x t hjt hx) i hji'
        have hta' : lk (frs l val fr i) t = some a := hta
        rw [e] at hta'
        cases hta'
        exact .inl ⟨j, oj, by simpa using hoj, hojt, hdep i j hij, rfl⟩
      · have hlow' : ∀ x y, depT l.toArray x y → y < x := fun x y hxy => by
          induction hxy with
          | one hd => exact hlow _ _ hd
          | more hd _ ih => exact Nat.lt_trans ih (hlow _ _ hd)
        have hw : ∀ j, dstOf l j = some t → depT l.toArray j i ∨ j = i := fun j hj => by
          obtain ⟨oj, hoj, _⟩ := dstOf_some hj
          rcases hall j (List.getElem?_eq_some_iff.1 hoj).1 with (h' | h') | h'
          · exact absurd hj h'
          · exact .inl (hdep j i h')
          · exact .inr (by simpa using h')
        refine .inr ⟨fun j oj hoj hjt => hw j (dstOf_of (by simpa using hoj) hjt), ?_⟩
        have e := lk_frs_none (l := l) (val := val) (fr := fr) (t := t) i fun j hj hjt => by
          rcases hw j hjt with h' | h'
          · have := hlow' _ _ h'; omega
          · omega
        have hta' : lk (frs l val fr i) t = some a := hta
        rw [← e]; exact hta'
    · have hF := h2 i o (by simpa using ho')
      rw [Nat.zero_add, List.drop_zero] at hF
      have hon : ∀ {E : Operand → Option AV} {r : AV}, OnB P c m σ0 σ1 i o E r → Acts P l.toArray m σ0 σ1 i o E r := fun hO => by
        unfold OnB at hO
        split at hO
        · rename_i him _
          exact ⟨fun _ => hO, fun h => absurd him h, fun h => absurd him h⟩
        · rename_i him _
          refine ⟨fun h => absurd h him, fun _ hn => hO.1 ?_, fun _ hn => hO.2 ?_⟩
          · cases hh : memB c i m with
            | false => rfl
            | true => exact absurd (hdep _ _ hh) hn
          · cases hh : memB c m i with
            | false => rfl
            | true => exact absurd (hdep _ _ hh) hn
      unfold FactB at hF
      cases hg : o.guard with
      | none =>
        rw [hg] at hF
        exact .inl ⟨rfl, hon hF⟩
      | some p =>
        obtain ⟨g, want⟩ := p
        rw [hg] at hF
        obtain ⟨b, cc, hb, hgc, hcase⟩ := hF
        cases hgt : dstOf l g with
        | none => rw [hgt] at hb; cases hb
        | some t =>
          rw [hgt] at hb
          obtain ⟨og, hog, hogt⟩ := dstOf_some hgt
          exact .inr ⟨g, want, t, b, cc, rfl, by simp [hog, hogt], hb, hgc, fun h4 => hon (hcase.1 h4), hcase.2⟩
  obtain ⟨hok', hst'⟩ := hk.drawn (k.w.drawn + 1)
  refine wp_region_any hmix ?_
  have hrepl : ∀ x, (Array.replicate l.toArray.size false).getD x false = false := fun x => by
    rw [Array.getD_eq_getD_getElem?, Array.getElem?_replicate]
    split <;> rfl
  have := run_plan (Q := Q) (k0 := k) (a0 := a) hplan (by simpa using hm) hfact (fun k' a' hs hdf hσ' hok hz' hnew hold => ?_) l.toArray.size (Array.replicate l.toArray.size false) { k with w := { k.w with drawn := k.w.drawn + 1 } } a (by simp) (by simp) ⟨by rw [cur, if_neg (by rw [hrepl]; decide)]; exact hσ, hok', hz, (fun i j hi => by rw [hrepl] at hi; cases hi), fun j oj t _ _ h => (by rw [hrepl] at h; cases h), fun t av h _ => (hf.step hst') t av h⟩ hst' rfl
  · exact this
  · rw [Nat.zero_add] at h1
    rw [List.drop_zero, h1] at h3
    refine ⟨hdf, hz'.trans hz.symm, k', .normal, fr2, rfl, hok, hs, fun t av ht => ?_, trivial, by rw [hσ']; exact h3'⟩
    replace ht := h3 t av ht
    by_cases hex : ∃ j, dstOf l j = some t
    · obtain ⟨j, hj⟩ := hex
      obtain ⟨oj, hoj, hojt⟩ := dstOf_some hj
      rw [lk_frs_some hj (fun x hx => hdist j x t hj hx) l.length (List.getElem?_eq_some_iff.1 hoj).1] at ht
      cases ht
      exact hnew j oj t (by simpa using hoj) hojt
    · rw [lk_frs_none l.length fun j _ hj => hex ⟨j, hj⟩] at ht
      exact hold t av ht fun j oj hoj hojt => hex ⟨j, dstOf_of (by simpa using hoj) hojt⟩
/-! ### Steps -/
theorem onb_ne {o : Oper} {E : Operand → Option AV} {r : AV} (him : Nat.beq i m = false) (h0 : memB c i m = false → OpW P o E σ0 (fun r' σ' => r' = r ∧ σ' = σ0)) (h1 : memB c m i = false → OpW P o E σ1 (fun r' σ' => r' = r ∧ σ' = σ1)) : OnB P c m σ0 σ1 i o E r := by
  unfold OnB
  split
  · rename_i h _; rw [h] at him; simp at him
  · exact ⟨h0, h1⟩
theorem onb_eq {o : Oper} {E : Operand → Option AV} {r : AV} (him : Nat.beq i m = true) (h : OpW P o E σ0 (fun r' σ' => r' = r ∧ σ' = σ1)) : OnB P c m σ0 σ1 i o E r := by
  unfold OnB
  split
  · exact h
  · rename_i h' _; exact absurd (Nat.eq_of_beq_eq_true him) h'
theorem opw_of {o : Oper} {E : Operand → Option AV} {σ σ' : St} {r : Option AV} (hJ : ∀ (R : Option AV → St → Prop), R r σ' → OpJ P o E σ R) : OpW P o E σ (fun r' σ2 => r' = r.getD (.tup []) ∧ σ2 = σ') := .of_opj (hJ _ ⟨rfl, rfl⟩)
theorem opw_pure {dst : Option Tmp} {f : FuncId} {xs : Array Operand} {ts : Array TypeId} {as : List AV} {r : AV} {σ : St} {ty : TypeId} {pos : String} {aft : Array Edge} {gd : Option (Nat × Bool)} (has : evs fr xs.toList = some as) (hent : entered P f = true) (hp : Pure P f as r) :
    OpW P ⟨dst, .call { callee := .value (.func f), args := xs, argTypes := ts }, ty, pos, aft, gd⟩ (ev fr) σ (fun r' σ' => r' = r ∧ σ' = σ) :=
  (OpW.of_calls has hent (hp σ) (fun e σ' ⟨h1, h2⟩ => ⟨r, h1, rfl, h2⟩) : OpW P _ (ev fr) σ (fun r' σ' => r' = r ∧ σ.le σ')).forget
theorem opw_calls {dst : Option Tmp} {f : FuncId} {xs : Array Operand} {ts : Array TypeId} {as : List AV} {r : AV} {σ σ' : St} {ty : TypeId} {pos : String} {aft : Array Edge} {gd : Option (Nat × Bool)} (has : evs fr xs.toList = some as) (hent : entered P f = true) (hp : ACalls P f as σ (fun e σ2 => e = .ret r ∧ σ2 = σ')) :
    OpW P ⟨dst, .call { callee := .value (.func f), args := xs, argTypes := ts }, ty, pos, aft, gd⟩ (ev fr) σ (fun r' σ2 => r' = r ∧ σ2 = σ') :=
  .of_calls has hent hp (fun e σ2 ⟨h1, h2⟩ => ⟨r, h1, rfl, h2⟩)
section
variable {rest : List Oper} {t : Tmp} {op : Op} {ty : TypeId} {pos : String} {aft : Array Edge} {av : AV} {dst : Option Tmp}
theorem factb_none {o : Oper} {r : AV} (hg : o.guard = none) (h : OnB P c m σ0 σ1 i o (ev fr) r) : FactB P l c m σ0 σ1 fr i o r := by
  unfold FactB; rw [hg]; exact h
theorem factb_yes {o : Oper} {r : AV} {g u : Nat} {b : Bool} (hg : o.guard = some (g, b)) (hj : dstOf l g = some u) (hl : lk fr u = some (.v (.bool b))) (h : OnB P c m σ0 σ1 i o (ev fr) r) : FactB P l c m σ0 σ1 fr i o r := by
  unfold FactB; rw [hg]
  cases b with
  | true => exact ⟨_, true, by rw [hj]; exact hl, rfl, fun _ => h, fun e => by cases e⟩
  | false => exact ⟨_, true, by rw [hj]; exact hl, rfl, fun _ => h, fun e => by cases e⟩
/-- One that hangs on no store. -/
theorem dj_auto (him : Nat.beq i m = false) (hv : valOp P fr op = some av) (h : DJ P l c m σ0 σ1 K (i + 1) rest ((t, av) :: fr)) : DJ P l c m σ0 σ1 K i (⟨some t, op, ty, pos, aft, none⟩ :: rest) fr :=
  dj_cons (factb_none rfl (onb_ne him (fun _ => opw_of (r := some av) fun R hR => opj_valOp hv hR) (fun _ => opw_of (r := some av) fun R hR => opj_valOp hv hR))) h
theorem dj_autoy {j u : Nat} {b : Bool} (him : Nat.beq i m = false) (hj : dstOf l j = some u) (hl : lk fr u = some (.v (.bool b))) (hv : valOp P fr op = some av) (h : DJ P l c m σ0 σ1 K (i + 1) rest ((t, av) :: fr)) : DJ P l c m σ0 σ1 K i (⟨some t, op, ty, pos, aft, some (j, b)⟩ :: rest) fr :=
  dj_cons (factb_yes rfl hj hl (onb_ne him (fun _ => opw_of (r := some av) fun R hR => opj_valOp hv hR) (fun _ => opw_of (r := some av) fun R hR => opj_valOp hv hR))) h
theorem dj_n {j u : Nat} {b w : Bool} (him : Nat.beq i m = false) (hj : dstOf l j = some u) (hl : lk fr u = some (.v (.bool b))) (hne : (b == w) = false) (h : DJ P l c m σ0 σ1 K (i + 1) rest (put fr dst (some (.tup [])))) : DJ P l c m σ0 σ1 K i (⟨dst, op, ty, pos, aft, some (j, w)⟩ :: rest) fr :=
  dj_cons (r := .tup []) (by
    unfold FactB
    have hm : i ≠ m := fun e => by rw [e] at him; simp at him
    have hu : ∀ k, Rep k (.tup []) undef := fun k => .tup (by simp [undef]) (fun j a u h _ => by simp at h)
    cases b <;> cases w <;> first | (cases hne; done) | exact ⟨_, false, by rw [hj]; exact hl, rfl, (fun e => by cases e), fun _ => ⟨hm, hu⟩⟩) h
theorem dj_gt {j u : Nat} {w : Bool} (hj : dstOf l j = some u) (hl : lk fr u = some (.v (.bool true))) (h : DJ P l c m σ0 σ1 K i (⟨dst, op, ty, pos, aft, some (j, w)⟩ :: rest) fr) : DJ P l c m σ0 σ1 K i (⟨dst, op, ty, pos, aft, some (j, w)⟩ :: rest) fr := h
theorem dj_gf {j u : Nat} {w : Bool} (hj : dstOf l j = some u) (hl : lk fr u = some (.v (.bool false))) (h : DJ P l c m σ0 σ1 K i (⟨dst, op, ty, pos, aft, some (j, w)⟩ :: rest) fr) : DJ P l c m σ0 σ1 K i (⟨dst, op, ty, pos, aft, some (j, w)⟩ :: rest) fr := h
theorem dj_gcase {j u : Nat} {b w : Bool} (hj : dstOf l j = some u) (hl : lk fr u = some (.v (.bool b))) (ht : b = true → DJ P l c m σ0 σ1 K i (⟨dst, op, ty, pos, aft, some (j, w)⟩ :: rest) ((u, .v (.bool true)) :: fr)) (hf : b = false → DJ P l c m σ0 σ1 K i (⟨dst, op, ty, pos, aft, some (j, w)⟩ :: rest) ((u, .v (.bool false)) :: fr)) : DJ P l c m σ0 σ1 K i (⟨dst, op, ty, pos, aft, some (j, w)⟩ :: rest) fr := by
  cases b with
  | true => exact dj_sub (fun x a h => by
      rw [lk_cons] at h
      split at h
      · rename_i e; subst e; rw [hl]; exact h
      · exact h) (ht rfl)
  | false => exact dj_sub (fun x a h => by
      rw [lk_cons] at h
      split at h
      · rename_i e; subst e; rw [hl]; exact h
      · exact h) (hf rfl)
/-- One that hangs on the store, and is the same in both. -/
theorem dj_v (him : Nat.beq i m = false) (hJ0 : ∀ (R : Option AV → St → Prop), R (some av) σ0 → OpJ P ⟨some t, op, ty, pos, aft, none⟩ (ev fr) σ0 R) (hJ1 : ∀ (R : Option AV → St → Prop), R (some av) σ1 → OpJ P ⟨some t, op, ty, pos, aft, none⟩ (ev fr) σ1 R) (h : DJ P l c m σ0 σ1 K (i + 1) rest ((t, av) :: fr)) : DJ P l c m σ0 σ1 K i (⟨some t, op, ty, pos, aft, none⟩ :: rest) fr :=
  dj_cons (factb_none rfl (onb_ne him (fun _ => opw_of (r := some av) hJ0) (fun _ => opw_of (r := some av) hJ1))) h
theorem dj_vy {j u : Nat} {b : Bool} (him : Nat.beq i m = false) (hj : dstOf l j = some u) (hl : lk fr u = some (.v (.bool b))) (hJ0 : ∀ (R : Option AV → St → Prop), R (some av) σ0 → OpJ P ⟨some t, op, ty, pos, aft, some (j, b)⟩ (ev fr) σ0 R) (hJ1 : ∀ (R : Option AV → St → Prop), R (some av) σ1 → OpJ P ⟨some t, op, ty, pos, aft, some (j, b)⟩ (ev fr) σ1 R) (h : DJ P l c m σ0 σ1 K (i + 1) rest ((t, av) :: fr)) : DJ P l c m σ0 σ1 K i (⟨some t, op, ty, pos, aft, some (j, b)⟩ :: rest) fr :=
  dj_cons (factb_yes rfl hj hl (onb_ne him (fun _ => opw_of (r := some av) hJ0) (fun _ => opw_of (r := some av) hJ1))) h
/-- Only ahead of m. -/
theorem dj_v0 (him : Nat.beq i m = false) (hc : memB c m i = true) (hJ0 : ∀ (R : Option AV → St → Prop), R (some av) σ0 → OpJ P ⟨some t, op, ty, pos, aft, none⟩ (ev fr) σ0 R) (h : DJ P l c m σ0 σ1 K (i + 1) rest ((t, av) :: fr)) : DJ P l c m σ0 σ1 K i (⟨some t, op, ty, pos, aft, none⟩ :: rest) fr :=
  dj_cons (factb_none rfl (onb_ne him (fun _ => opw_of (r := some av) hJ0) (fun e => by rw [hc] at e; cases e))) h
/-- Only behind m. -/
theorem dj_v1 (him : Nat.beq i m = false) (hc : memB c i m = true) (hJ1 : ∀ (R : Option AV → St → Prop), R (some av) σ1 → OpJ P ⟨some t, op, ty, pos, aft, none⟩ (ev fr) σ1 R) (h : DJ P l c m σ0 σ1 K (i + 1) rest ((t, av) :: fr)) : DJ P l c m σ0 σ1 K i (⟨some t, op, ty, pos, aft, none⟩ :: rest) fr :=
  dj_cons (factb_none rfl (onb_ne him (fun e => by rw [hc] at e; cases e) (fun _ => opw_of (r := some av) hJ1))) h
/-- m itself. -/
theorem dj_m (him : Nat.beq i m = true) (hJ : ∀ (R : Option AV → St → Prop), R none σ1 → OpJ P ⟨none, op, ty, pos, aft, none⟩ (ev fr) σ0 R) (h : DJ P l c m σ0 σ1 K (i + 1) rest fr) : DJ P l c m σ0 σ1 K i (⟨none, op, ty, pos, aft, none⟩ :: rest) fr :=
  dj_cons (r := .tup []) (factb_none rfl (onb_eq him (opw_of (r := none) hJ))) h
theorem dj_mw (him : Nat.beq i m = true) (hJ : ∀ (R : Option AV → St → Prop), R (some av) σ1 → OpJ P ⟨some t, op, ty, pos, aft, none⟩ (ev fr) σ0 R) (h : DJ P l c m σ0 σ1 K (i + 1) rest ((t, av) :: fr)) : DJ P l c m σ0 σ1 K i (⟨some t, op, ty, pos, aft, none⟩ :: rest) fr :=
  dj_cons (factb_none rfl (onb_eq him (opw_of (r := some av) hJ))) h
theorem dj_pure {f : FuncId} {xs : Array Operand} {ts : Array TypeId} {as : List AV} {r : AV} (him : Nat.beq i m = false) (has : evs fr xs.toList = some as) (hent : entered P f = true) (hp : Pure P f as r) (h : DJ P l c m σ0 σ1 K (i + 1) rest (put fr dst (some r))) :
    DJ P l c m σ0 σ1 K i (⟨dst, .call { callee := .value (.func f), args := xs, argTypes := ts }, ty, pos, aft, none⟩ :: rest) fr :=
  dj_cons (factb_none rfl (onb_ne him (fun _ => opw_pure has hent hp) (fun _ => opw_pure has hent hp))) h
theorem dj_purey {j u : Nat} {b : Bool} {f : FuncId} {xs : Array Operand} {ts : Array TypeId} {as : List AV} {r : AV} (him : Nat.beq i m = false) (hj : dstOf l j = some u) (hl : lk fr u = some (.v (.bool b))) (has : evs fr xs.toList = some as) (hent : entered P f = true) (hp : Pure P f as r) (h : DJ P l c m σ0 σ1 K (i + 1) rest (put fr dst (some r))) :
    DJ P l c m σ0 σ1 K i (⟨dst, .call { callee := .value (.func f), args := xs, argTypes := ts }, ty, pos, aft, some (j, b)⟩ :: rest) fr :=
  dj_cons (factb_yes rfl hj hl (onb_ne him (fun _ => opw_pure has hent hp) (fun _ => opw_pure has hent hp))) h
theorem dj_calls {f : FuncId} {xs : Array Operand} {ts : Array TypeId} {as : List AV} {r : AV} (him : Nat.beq i m = true) (has : evs fr xs.toList = some as) (hent : entered P f = true) (hp : ACalls P f as σ0 (fun e σ' => e = .ret r ∧ σ' = σ1)) (h : DJ P l c m σ0 σ1 K (i + 1) rest (put fr dst (some r))) :
    DJ P l c m σ0 σ1 K i (⟨dst, .call { callee := .value (.func f), args := xs, argTypes := ts }, ty, pos, aft, none⟩ :: rest) fr :=
  dj_cons (factb_none rfl (onb_eq him (opw_calls has hent hp))) h
/-- A call that leaves the store as it is. -/
theorem dj_keeps {f : FuncId} {xs : Array Operand} {ts : Array TypeId} {as : List AV} {r : AV} (him : Nat.beq i m = false) (has : evs fr xs.toList = some as) (hent : entered P f = true) (hp0 : ACalls P f as σ0 (fun e σ' => e = .ret r ∧ σ' = σ0)) (hp1 : ACalls P f as σ1 (fun e σ' => e = .ret r ∧ σ' = σ1)) (h : DJ P l c m σ0 σ1 K (i + 1) rest (put fr dst (some r))) :
    DJ P l c m σ0 σ1 K i (⟨dst, .call { callee := .value (.func f), args := xs, argTypes := ts }, ty, pos, aft, none⟩ :: rest) fr :=
  dj_cons (factb_none rfl (onb_ne him (fun _ => opw_calls has hent hp0) (fun _ => opw_calls has hent hp1))) h
theorem dj_keepsy {j u : Nat} {b : Bool} {f : FuncId} {xs : Array Operand} {ts : Array TypeId} {as : List AV} {r : AV} (him : Nat.beq i m = false) (hj : dstOf l j = some u) (hl : lk fr u = some (.v (.bool b))) (has : evs fr xs.toList = some as) (hent : entered P f = true) (hp0 : ACalls P f as σ0 (fun e σ' => e = .ret r ∧ σ' = σ0)) (hp1 : ACalls P f as σ1 (fun e σ' => e = .ret r ∧ σ' = σ1)) (h : DJ P l c m σ0 σ1 K (i + 1) rest (put fr dst (some r))) :
    DJ P l c m σ0 σ1 K i (⟨dst, .call { callee := .value (.func f), args := xs, argTypes := ts }, ty, pos, aft, some (j, b)⟩ :: rest) fr :=
  dj_cons (factb_yes rfl hj hl (onb_ne him (fun _ => opw_calls has hent hp0) (fun _ => opw_calls has hent hp1))) h
/-! ### Under a guard that is not known -/
theorem OpW.mb {o : Oper} {E : Operand → Option AV} {r : AV} {cc : Bool} {σ σ' : St} (hc : cc = true) (h : OpW P o E σ (fun r' σ2 => r' = r ∧ σ2 = σ')) : OpW P o E σ (fun r' σ2 => r' = .mb cc r ∧ σ2 = σ') :=
  fun k a K Q hσ hk hr hK => h k a K Q hσ hk hr fun k' v r' h1 h2 ⟨h3, h4⟩ h5 => hK k' v _ h1 h2 ⟨rfl, h4⟩ (by subst h3; exact Rep.mb_true hc h5)
theorem OpW.strip {o : Oper} {R : AV → St → Prop} {cc : Bool} {σ : St} (hn : Needs cc fr o.op.operands.toList) (hc : cc = true) (h : OpW P o (ev (strip fr)) σ R) : OpW P o (ev fr) σ R :=
  fun k a K Q hσ hk hr hK => h k a K Q hσ hk (strip_reps hr (hn.all hc)) hK
theorem factb_q {o : Oper} {r b : AV} {g u : Nat} {w cc : Bool} (hg : o.guard = some (g, w)) (hj : dstOf l g = some u) (hl : lk fr u = some b) (hgc : gc b w = some cc) (him : Nat.beq i m = false) (h : cc = true → OnB P c m σ0 σ1 i o (ev fr) (.mb cc r)) : FactB P l c m σ0 σ1 fr i o (.mb cc r) := by
  unfold FactB; rw [hg]
  exact ⟨b, cc, by rw [hj]; exact hl, hgc, h, fun e => ⟨fun e' => by rw [e'] at him; simp at him, fun k => Rep.mb_false e⟩⟩
theorem dj_q {j u : Nat} {w cc : Bool} {b : AV} (him : Nat.beq i m = false) (hj : dstOf l j = some u) (hl : lk fr u = some b) (hgc : gc b w = some cc) (hn : Needs cc fr op.operands.toList)
    (hJ0 : cc = true → ∀ (R : Option AV → St → Prop), R (some av) σ0 → OpJ P ⟨some t, op, ty, pos, aft, some (j, w)⟩ (ev (strip fr)) σ0 R) (hJ1 : cc = true → ∀ (R : Option AV → St → Prop), R (some av) σ1 → OpJ P ⟨some t, op, ty, pos, aft, some (j, w)⟩ (ev (strip fr)) σ1 R)
    (h : DJ P l c m σ0 σ1 K (i + 1) rest ((t, .mb cc av) :: fr)) : DJ P l c m σ0 σ1 K i (⟨some t, op, ty, pos, aft, some (j, w)⟩ :: rest) fr :=
  dj_cons (factb_q rfl hj hl hgc him fun hc => onb_ne him (fun _ => (OpW.strip (o := ⟨some t, op, ty, pos, aft, some (j, w)⟩) hn hc (opw_of (r := some av) (hJ0 hc))).mb hc) (fun _ => (OpW.strip (o := ⟨some t, op, ty, pos, aft, some (j, w)⟩) hn hc (opw_of (r := some av) (hJ1 hc))).mb hc)) h
theorem dj_q0 {j u : Nat} {w cc : Bool} {b : AV} (him : Nat.beq i m = false) (hj : dstOf l j = some u) (hl : lk fr u = some b) (hgc : gc b w = some cc)
    (hJ : cc = true → ∀ (σ : St) (R : Option AV → St → Prop), R (some av) σ → OpJ P ⟨some t, op, ty, pos, aft, some (j, w)⟩ (ev fr) σ R)
    (h : DJ P l c m σ0 σ1 K (i + 1) rest ((t, .mb cc av) :: fr)) : DJ P l c m σ0 σ1 K i (⟨some t, op, ty, pos, aft, some (j, w)⟩ :: rest) fr :=
  dj_cons (factb_q rfl hj hl hgc him fun hc => onb_ne him (fun _ => (opw_of (r := some av) (hJ hc σ0)).mb hc) (fun _ => (opw_of (r := some av) (hJ hc σ1)).mb hc)) h
theorem dj_pureq {j u : Nat} {w cc : Bool} {b : AV} {f : FuncId} {xs : Array Operand} {ts : Array TypeId} {as : List AV} {r : AV} (him : Nat.beq i m = false) (hj : dstOf l j = some u) (hl : lk fr u = some b) (hgc : gc b w = some cc) (hn : Needs cc fr (Op.call { callee := .value (.func f), args := xs, argTypes := ts }).operands.toList) (has : evs (strip fr) xs.toList = some as) (hent : entered P f = true) (hp : cc = true → Pure P f as r)
    (h : DJ P l c m σ0 σ1 K (i + 1) rest ((t, .mb cc r) :: fr)) : DJ P l c m σ0 σ1 K i (⟨some t, .call { callee := .value (.func f), args := xs, argTypes := ts }, ty, pos, aft, some (j, w)⟩ :: rest) fr :=
  dj_cons (factb_q rfl hj hl hgc him fun hc => onb_ne him (fun _ => (OpW.strip (o := ⟨some t, .call { callee := .value (.func f), args := xs, argTypes := ts }, ty, pos, aft, some (j, w)⟩) hn hc (opw_pure has hent (hp hc))).mb hc) (fun _ => (OpW.strip (o := ⟨some t, .call { callee := .value (.func f), args := xs, argTypes := ts }, ty, pos, aft, some (j, w)⟩) hn hc (opw_pure has hent (hp hc))).mb hc)) h
end
end
end Go.Proofs.YtbpoeggmpjepfaaDoor.Ab

/- Abstract values over the model's memory: calls under a guard. -/
set_option linter.unusedVariables false
set_option linter.unusedSimpArgs false
set_option maxRecDepth 20000
namespace Go.Proofs.YtbpoeggmpjepfaaDoor.Ab
open Go
section
variable {P : Program} {nt : Nat} {ops : Array Oper} {Q : Post} {fr : Fr} {σ : St} {rest : List Oper} {t : Tmp} {op : Op} {ty : TypeId} {pos : String} {aft : Array Edge} {av : AV} {dst : Option Tmp}
theorem lj_opw {o : Oper} {R : AV → St → Prop} (hw : ∀ (k : Cx) (a : Act), FrOk k fr a.tmps → Region.wanted o (yielded ops a.tmps) = true) (hd : fits nt o.dst = true) (h : OpW P o (ev fr) σ R) (hK : ∀ r σ', R r σ' → LJ P nt ops Q rest (put fr o.dst (some r)) σ') : LJ P nt ops Q (o :: rest) fr σ := fun k a hσ hk hz hf => by
  unfold wpList
  rw [if_pos (hw k a hf)]
  refine .inl (h k a _ _ hσ hk (reps_of_fr hf _) fun k' v r h1 h2 h3 h4 => ?_)
  exact wpList_mono (fun _ _ _ => conc_step h2 (Act.defers_put ..) (Act.size_put ..)) _ _ _ (hK r _ h3 k' _ rfl h1 ((Act.size_put ..).trans hz) ((hf.step h2).put (by rw [hz]; exact hd) h4))
theorem lj_purey {j u : Nat} {b : Bool} {f : FuncId} {xs : Array Operand} {ts : Array TypeId} {as : List AV} {r : AV} (hd : fits nt (some t) = true) (hj : (ops[j]?).bind (·.dst) = some u) (hl : lk fr u = some (.v (.bool b))) (has : evs fr xs.toList = some as) (hent : entered P f = true) (hp : Pure P f as r) (h : LJ P nt ops Q rest ((t, r) :: fr) σ) :
    LJ P nt ops Q (⟨some t, .call { callee := .value (.func f), args := xs, argTypes := ts }, ty, pos, aft, some (j, b)⟩ :: rest) fr σ :=
  lj_opw (fun k a hf => by simp [Region.wanted, yields hf hj hl]) hd (opw_pure has hent hp) (fun r' σ' ⟨h1, h2⟩ => by rw [h1, h2]; exact h)
theorem lj_to {f : FuncId} {xs : Array Operand} {ts : Array TypeId} {as : List AV} {r : AV} {σ' : St} (hd : fits nt dst = true) (has : evs fr xs.toList = some as) (hent : entered P f = true) (hp : ACalls P f as σ (fun e σ2 => e = .ret r ∧ σ2 = σ')) (h : LJ P nt ops Q rest (put fr dst (some r)) σ') :
    LJ P nt ops Q (⟨dst, .call { callee := .value (.func f), args := xs, argTypes := ts }, ty, pos, aft, none⟩ :: rest) fr σ :=
  lj_opw (fun k a hf => by simp [Region.wanted]) hd (opw_calls has hent hp) (fun r' σ2 ⟨h1, h2⟩ => by rw [h1, h2]; exact h)
theorem lj_toy {j u : Nat} {b : Bool} {f : FuncId} {xs : Array Operand} {ts : Array TypeId} {as : List AV} {r : AV} {σ' : St} (hd : fits nt dst = true) (hj : (ops[j]?).bind (·.dst) = some u) (hl : lk fr u = some (.v (.bool b))) (has : evs fr xs.toList = some as) (hent : entered P f = true) (hp : ACalls P f as σ (fun e σ2 => e = .ret r ∧ σ2 = σ')) (h : LJ P nt ops Q rest (put fr dst (some r)) σ') :
    LJ P nt ops Q (⟨dst, .call { callee := .value (.func f), args := xs, argTypes := ts }, ty, pos, aft, some (j, b)⟩ :: rest) fr σ :=
  lj_opw (fun k a hf => by simp [Region.wanted, yields hf hj hl]) hd (opw_calls has hent hp) (fun r' σ2 ⟨h1, h2⟩ => by rw [h1, h2]; exact h)
end
end Go.Proofs.YtbpoeggmpjepfaaDoor.Ab

/- Abstract values over the model's memory: literals and appends that are rows of our own. -/
set_option linter.unusedVariables false
set_option linter.unusedSimpArgs false
set_option maxRecDepth 20000
namespace Go.Proofs.YtbpoeggmpjepfaaDoor.Ab
open Go
section
variable {P : Program} {o : Oper} {E : Operand → Option AV} {σ : St} {R : Option AV → St → Prop}
theorem own_new {k : Cx} (hk : Ok k) {et : TypeId} {sz : Nat} {els : List (List AV)} {vs : List Value} (hr : RowRep k sz els vs) (hm : els.length ≤ maxLen) {cap : Nat} (hc : els.length ≤ cap) (hfit : cap * sz ≤ vs.length) :
    Ok (k.add (some k.w.heap.size) (.row sz et els) (k.w.alloc (.cells vs.toArray et))) ∧ Step k (k.add (some k.w.heap.size) (.row sz et els) (k.w.alloc (.cells vs.toArray et))) ∧
    Rep (k.add (some k.w.heap.size) (.row sz et els) (k.w.alloc (.cells vs.toArray et))) (.osl k.top sz 0 els.length) (.slice (some ⟨k.w.heap.size, 0, none⟩) els.length cap) := by
  have hst := hk.add_step (.cells vs.toArray et) (.row sz et els)
  refine ⟨hk.add _ _ (RowRep.obj (b := k.w.heap.size) (cs := vs.toArray) (by simp [Cx.add]) (heap_alloc_new _ _) (by simpa using hr.step hst)), hst, ?_⟩
  exact .osl (by simp [Cx.add]) (by simp [Cx.add]) (fun _ => by simp) hc hm ⟨vs.toArray, et, (0, 0), heap_alloc_new _ _, by simpa using hfit⟩
theorem opj_lit_own {t et : TypeId} {n sz : Nat} {parts : Array (Nat × Operand)} {zs out : List AV} {qs : List (Nat × AV)} (ho : o.op = .buildSlice t n parts) (ht : P.underlying t = some (.slice et)) (hs : sizeIs P et = some sz) (hz : zeroIs P et = some zs) (hzl : zs.length = sz) (hpos : 0 < sz) (hn : n * sz ≤ 16777216)
    (hq : evParts E parts.toList = some qs) (hf : afill (fun i => some (i * sz, sz)) ((List.replicate n zs).flatten) qs = some out) (hol : out.length = n * sz) (hR : ∀ id, σ id = none → R (some (.osl id sz 0 n)) (σ.set id (.row sz et (chunk sz n out)))) : OpJ P o E σ R := fun k e hσ hk hr => by
  subst hσ
  obtain ⟨h3, h4⟩ := evParts_ok hr parts.toList qs (fun p hp => by rw [ho]; simp only [Op.operands, List.mem_toArray, List.mem_map]; exact ⟨p, hp, rfl⟩) hq
  obtain ⟨vs, h5, h6, h7⟩ := run_buildSlice (P := P) (k := k) ht hs hz hzl hn h3 h4 hf hol k.w
  have hnm : (chunk sz n out).length ≤ maxLen := by
    rw [length_chunk]
    have : n * 1 ≤ n * sz := Nat.mul_le_mul_left _ hpos
    simp only [maxLen]; omega
  obtain ⟨hok, hst, hrep⟩ := own_new hk (et := et) h7 hnm (cap := n) (by rw [length_chunk]; exact Nat.le_refl _) (by rw [h6]; exact Nat.le_refl _)
  rw [length_chunk] at hrep
  refine ⟨_, .value _, some _, ?_, hok, hst, hR k.top hk.fresh, _, rfl, hrep⟩
  unfold execOp
  have e1 : (parts.map fun (i, x) => (i, e x)) = (parts.toList.map fun (i, x) => (i, e x)).toArray := by rw [← Array.toList_map, Array.toArray_toList]
  simp only [ho, e1, Sem.run_bind, h5, Result.andThen_ok, Sem.run_pure]
  rfl
/-- append on a slice that has no room behind it, or is nil: what comes is a row of our own. -/
theorem opj_append_new {t et : TypeId} {sz by_ : Nat} {x y : Operand} {nl : Option Bool} {full : Bool} {els news : List (List AV)} {ts : Array TypeId} {av : AV} (ho : o.op = .call { callee := .builtin .append, args := #[x, y], argTypes := ts }) (hts : ts = #[t, t]) (he : Elem P t et sz) (hby : bytesIs P et = some by_)
    (hx : E x = some (.sl nl full sz els)) (hfull : full = true ∨ (nl = some true)) (hy : E y = some av) (hs : srcOf σ av = some (sz, news)) (hne : news ≠ []) (hb : (els.length + news.length) * by_ ≤ 140737488355328) (hb1 : 0 < by_)
    (hR : ∀ id, σ id = none → R (some (.osl id sz 0 (els.length + news.length))) (σ.set id (.row sz et (els ++ news)))) : OpJ P o E σ R := fun k e hσ hk hr => by
  subst hts
  subst hσ
  have hxr := hr x (by rw [ho]; simp [Op.operands, Call.operands]) _ hx
  have hyr := hr y (by rw [ho]; simp [Op.operands, Call.operands]) _ hy
  obtain ⟨new, hnl, hn, hnm, hyv⟩ := src_rep hk hyr hs he.pos
  obtain ⟨old, hol, ho', hom, hxv⟩ := src_rep hk hxr (sz := sz) (news := els) rfl he.pos
  have hrun : ∀ v w', (Builtin.append_ #[t, t] o.type #[e x, e y]).run P k.w = .ok v w' → (execOp e o).run P k.w = .ok (.value v) w' := fun v w' h => by
    unfold execOp
    simp only [ho, resolve, invoke, builtin, Sem.run_bind, Sem.run_pure, Result.andThen_ok, List.map_toArray, List.map_cons, List.map_nil, h]
  have hcapx : ∃ a cap, e x = .slice a els.length cap ∧ els.length ≤ cap ∧ (cap = els.length) ∧ (a = none → els = [] ∧ cap = 0) := by
    generalize e x = u at hxr
    cases hxr with
    | slnil hn => exact ⟨none, 0, rfl, Nat.le_refl _, rfl, fun _ => ⟨rfl, rfl⟩⟩
    | sle hn => exact ⟨_, 0, rfl, Nat.le_refl _, rfl, fun h => by cases h⟩
    | sl hn' hc hm hf =>
      refine ⟨_, _, rfl, hc, ?_, fun h => by cases h⟩
      rcases hfull with h | h
      · exact hf h
      · exact absurd h hn'
  obtain ⟨a, cap, hxe, hle, hcap, ha0⟩ := hcapx
  have hpos : 0 < news.length := List.length_pos_iff.2 hne
  rcases hyv with ⟨hv, h0⟩ | ⟨ad, c, hv, hcells⟩
  · exact absurd h0 hne
  · have hm : els.length + news.length ≤ maxLen := by
      have : (els.length + news.length) * 1 ≤ (els.length + news.length) * by_ := Nat.mul_le_mul_left _ hb1
      simp only [maxLen]; omega
    have hac : ∀ ad, a = some ad → ∀ (j : Nat) v, old[j]? = some v → k.w.cell? (ad.add j) = some v := fun ad' had j v hj => by
      rcases hxv with ⟨h1, _⟩ | ⟨ad2, c2, h1, h2⟩
      · rw [hxe] at h1; injection h1 with h1; rw [h1] at had; cases had
      · rw [hxe] at h1; injection h1 with h1; rw [h1] at had; cases had; exact h2 j v hj
    obtain ⟨cap', rest, h1, h2, h3, h4, h5⟩ := run_append_new hk he hby ho' hol hn hnl hac ha0 (by omega) hcells hb hm o.type
    obtain ⟨hok, hst, hrep⟩ := own_new (hk.drew).1 (et := et) (h5.step (hk.drew).2) (by simpa using hm) (cap := cap') (by simpa using h1) (by rw [h3]; exact Nat.le_refl _)
    refine ⟨_, .value _, some _, hrun _ _ (by rw [hxe, hv]; exact h4), hok, (hk.drew).2.trans hst, hR k.top hk.fresh, _, rfl, by simpa using hrep⟩
end
theorem St.del_set {σ : St} {id : Nat} {o : AObj} (h : σ id = none) : (σ.set id o).del id = σ := by
  funext x
  by_cases hx : x = id
  · subst hx; simp [St.del, h]
  · simp [St.del, St.set, hx]
/-- append on a row of our own that stands on top. -/
theorem opj_append_own {P : Program} {o : Oper} {E : Operand → Option AV} {σ : St} {R : Option AV → St → Prop} {t et : TypeId} {sz by_ : Nat} {x y : Operand} {id n : Nat} {els news : List (List AV)} {ts : Array TypeId} {av : AV} (ho : o.op = .call { callee := .builtin .append, args := #[x, y], argTypes := ts }) (hts : ts = #[t, t]) (he : Elem P t et sz) (hby : bytesIs P et = some by_)
    (hx : E x = some (.osl id sz 0 n)) (hid : σ id = none) (hn : n = els.length) (hy : E y = some av) (hs : srcOf (σ.set id (.row sz et els)) av = some (sz, news)) (hb : (n + news.length) * by_ ≤ 140737488355328) (hb1 : 0 < by_)
    (hR : ∀ id', σ id' = none → R (some (.osl id' sz 0 (n + news.length))) (σ.set id' (.row sz et (els ++ news)))) : OpJ P o E (σ.set id (.row sz et els)) R :=
  opj_append_osl ho hts he hby hx (St.set_same _ _ _) (by omega) hy hs hb hb1 (fun id' h => by
    rw [St.del_set hid, hn, List.take_length]
    have := hR id' (by
      by_cases hx : id' = id
      · rw [hx]; exact hid
      · rwa [St.set_ne _ _ _ hx] at h)
    rwa [hn] at this)
section
variable {P : Program} {nt : Nat} {ops : Array Oper} {Q : Post} {fr : Fr} {σ : St}
/-- What stands in slot t is told anew, by a row that nobody writes any more. -/
theorem lj_freeze (t : Nat) {l : List Oper} {id sz len : Nat} {et : TypeId} {els : List (List AV)} (ht : lk fr t = some (.osl id sz 0 len)) (hσ : σ id = some (.row sz et els)) (hl : len = els.length) (hpos : 0 < sz) (h : LJ P nt ops Q l ((t, .sl none false sz els) :: fr) (σ.del id)) : LJ P nt ops Q l fr σ :=
  lj_ghost (ghost_freeze ht hσ (by omega) hpos (by
    have : (els.drop 0).take len = els := by rw [List.drop_zero, hl, List.take_length]
    rw [this]; exact h))
theorem cj_freeze (t : Nat) {c : Code} {id sz len : Nat} {et : TypeId} {els : List (List AV)} (ht : lk fr t = some (.osl id sz 0 len)) (hσ : σ id = some (.row sz et els)) (hl : len = els.length) (hpos : 0 < sz) (h : CJ P nt c Q ((t, .sl none false sz els) :: fr) (σ.del id)) : CJ P nt c Q fr σ :=
  cj_ghost (ghost_freeze ht hσ (by omega) hpos (by
    have : (els.drop 0).take len = els := by rw [List.drop_zero, hl, List.take_length]
    rw [this]; exact h))
theorem lj_fc {rest : List Oper} {t : Tmp} {op : Op} {ty : TypeId} {pos : String} {aft : Array Edge} {C : Nat → Prop} {mk : Nat → AV} {st : Nat → St} (hd : fits nt (some t) = true) (hJ : ∀ (R : Option AV → St → Prop), (∀ id, C id → R (some (mk id)) (st id)) → OpJ P ⟨some t, op, ty, pos, aft, none⟩ (ev fr) σ R) (h : ∀ id, C id → LJ P nt ops Q rest ((t, mk id) :: fr) (st id)) : LJ P nt ops Q (⟨some t, op, ty, pos, aft, none⟩ :: rest) fr σ :=
  lj_op rfl hd (hJ _ h)
end
end Go.Proofs.YtbpoeggmpjepfaaDoor.Ab

/- Abstract values over the model's memory: places in arrays. -/
set_option linter.unusedVariables false
set_option linter.unusedSimpArgs false
set_option maxRecDepth 20000
namespace Go.Proofs.YtbpoeggmpjepfaaDoor.Ab
open Go
section
variable {P : Program} {o : Oper} {E : Operand → Option AV} {σ : St} {R : Option AV → St → Prop}
theorem run_indexArr {t e : TypeId} {sz n : Nat} (ht : P.underlying t = some (.array n e)) (hs : sizeIs P e = some sz) (b p : Nat) (kk : IntKind) (i : Int) (h0 : 0 ≤ i) (h1 : i < n) (w : World) :
    (Instr.indexAt t (.pointer (some ⟨b, p, none⟩)) (.int kk i)).run P w = .ok (.pointer (some ⟨b, p + i.toNat * sz, none⟩)) w := by
  simp only [Instr.indexAt, Instr.sureAddr, asIntOf, Sem.run_bind, Sem.run_pure, Result.andThen_ok, run_underlying ht]
  rw [if_pos ⟨h0, h1⟩]
  simp only [Sem.run_bind, run_sizeIs hs, Result.andThen_ok, Sem.run_pure, Addr.add_mid]
theorem opj_indexAddr_arr {t et : TypeId} {x ix : Operand} {id sz sz' n i j : Nat} {kk : IntKind} {m : Int} (ho : o.op = .indexAddr t x ix) (ht : P.underlying t = some (.array n et)) (hs : sizeIs P et = some sz') (hx : E x = some (.ptr id sz i j)) (hi : E ix = some (.v (.int kk m)))
    (h0 : 0 ≤ m) (h1 : m < n) (hR : R (some (.ptr id sz i (j + m.toNat * sz'))) σ) : OpJ P o E σ R :=
  opj_quiet _ (fun k e hσ hk hr => by
    have h := hr x (by rw [ho]; simp [Op.operands]) _ hx
    have h2 := rep_v (hr ix (by rw [ho]; simp [Op.operands]) _ hi)
    generalize hu : e x = u at h
    cases h with
    | @ptr _ _ _ _ b ht' hb =>
      refine ⟨.pointer (some ⟨b, i * sz + (j + m.toNat * sz'), none⟩), ?_, .ptr ht' hb⟩
      unfold execOp
      simp only [ho, hu, h2, Sem.run_bind, run_indexArr ht hs b _ kk m h0 h1, Result.andThen_ok, Sem.run_pure, Nat.add_assoc]) hR
theorem opj_build_arr {t et : TypeId} {n sz : Nat} {parts : Array (Nat × Operand)} {zs out : List AV} {qs : List (Nat × AV)} (ho : o.op = .build t parts) (ht : P.underlying t = some (.array n et)) (hs : sizeIs P et = some sz) (hz : zeroIs P t = some zs) (hq : evParts E parts.toList = some qs) (hf : afill (fun i => some (i * sz, sz)) zs qs = some out) (hR : R (some (.agg out)) σ) : OpJ P o E σ R :=
  opj_quiet _ (fun k e hσ hk hr => by
    obtain ⟨z, h1, h2⟩ := run_zeroIs hz k
    obtain ⟨h3, h4⟩ := evParts_ok hr parts.toList qs (fun p hp => by rw [ho]; simp only [Op.operands, List.mem_toArray, List.mem_map]; exact ⟨p, hp, rfl⟩) hq
    obtain ⟨vs', h5, h6⟩ := fill_rep (k := k) (fun i => some (i * sz, sz)) qs (parts.toList.map fun (i, x) => (i, e x)) zs out z.cells h3 h4 h2 hf
    refine ⟨.agg vs', ?_, .agg (by simpa using h6.1) (fun j u hu => ?_) (fun j a u ha hu => (h6.2 j a u ha (by simpa [← Array.getElem?_toList] using hu)).2)⟩
    · unfold execOp
      simp only [ho, Instr.build, Sem.run_bind, h1, Result.andThen_ok, run_underlying ht, run_sizeIs hs, Array.toList_map]
      rw [h5]
      rfl
    · have hj : j < out.length := by rw [← h6.1]; have := (Array.getElem?_eq_some_iff.1 hu).1; simpa using this
      exact (h6.2 j _ u (List.getElem?_eq_getElem hj) (by simpa [← Array.getElem?_toList] using hu)).1) hR
end
end Go.Proofs.YtbpoeggmpjepfaaDoor.Ab

/- Abstract values over the model's memory: the walk's steps under short names. -/
set_option linter.unusedVariables false
set_option linter.unusedSimpArgs false
set_option maxRecDepth 20000
namespace Go.Proofs.YtbpoeggmpjepfaaDoor.Ab
open Go
def bt (s : ByteArray) (i : Nat) : Nat := (s.data.toList.getD i 0).toNat
theorem bt_lt (s : ByteArray) (i : Nat) : bt s i < 256 := UInt8.toNat_lt _
theorem sb_bt (s : ByteArray) (n : Int) : sb s n = (bt s n.toNat : Int) := rfl
theorem St.none_set {σ : St} {a b : Nat} {o : AObj} (h : (σ.set a o) b = none) : σ b = none := by
  by_cases e : b = a
  · subst e; rw [St.set_same] at h; cases h
  · rwa [St.set_ne _ _ _ e] at h
theorem St.ne_of_none {σ : St} {a b : Nat} {o : AObj} (h : (σ.set a o) b = none) : a ≠ b := fun e => by subst e; rw [St.set_same] at h; cases h
theorem St.ne_ns {σ : St} {x y : Nat} (hx : σ x = none) (h : σ y ≠ none) : y ≠ x := fun e => h (by rw [e, hx])
theorem St.sn_of {σ : St} {y : Nat} {o : AObj} (h : σ y = some o) : σ y ≠ none := fun e => by rw [e] at h; cases h
theorem St.setn {σ : St} {y a : Nat} {o : AObj} (h : σ y ≠ none) : σ.set a o y ≠ none := fun e => by
  by_cases hy : y = a
  · subst hy; rw [St.set_same] at e; cases e
  · rw [St.set_ne _ _ _ hy] at e; exact h e
theorem St.nn0 {σ : St} {a b : Nat} {o : AObj}  (h : (σ.set a o) b = none) : a ≠ b := St.ne_of_none h
theorem St.nn1 {σ : St} {a b : Nat} {o : AObj} {a0 : Nat} {o0 : AObj} (h : ((σ.set a o).set a0 o0) b = none) : a ≠ b := St.ne_of_none (St.none_set h)
theorem St.nn2 {σ : St} {a b : Nat} {o : AObj} {a0 : Nat} {o0 : AObj} {a1 : Nat} {o1 : AObj} (h : (((σ.set a o).set a0 o0).set a1 o1) b = none) : a ≠ b := St.ne_of_none (St.none_set (St.none_set h))
theorem St.nn3 {σ : St} {a b : Nat} {o : AObj} {a0 : Nat} {o0 : AObj} {a1 : Nat} {o1 : AObj} {a2 : Nat} {o2 : AObj} (h : ((((σ.set a o).set a0 o0).set a1 o1).set a2 o2) b = none) : a ≠ b := St.ne_of_none (St.none_set (St.none_set (St.none_set h)))
theorem St.nn4 {σ : St} {a b : Nat} {o : AObj} {a0 : Nat} {o0 : AObj} {a1 : Nat} {o1 : AObj} {a2 : Nat} {o2 : AObj} {a3 : Nat} {o3 : AObj} (h : (((((σ.set a o).set a0 o0).set a1 o1).set a2 o2).set a3 o3) b = none) : a ≠ b := St.ne_of_none (St.none_set (St.none_set (St.none_set (St.none_set h))))
theorem St.nn5 {σ : St} {a b : Nat} {o : AObj} {a0 : Nat} {o0 : AObj} {a1 : Nat} {o1 : AObj} {a2 : Nat} {o2 : AObj} {a3 : Nat} {o3 : AObj} {a4 : Nat} {o4 : AObj} (h : ((((((σ.set a o).set a0 o0).set a1 o1).set a2 o2).set a3 o3).set a4 o4) b = none) : a ≠ b := St.ne_of_none (St.none_set (St.none_set (St.none_set (St.none_set (St.none_set h)))))
theorem St.nn6 {σ : St} {a b : Nat} {o : AObj} {a0 : Nat} {o0 : AObj} {a1 : Nat} {o1 : AObj} {a2 : Nat} {o2 : AObj} {a3 : Nat} {o3 : AObj} {a4 : Nat} {o4 : AObj} {a5 : Nat} {o5 : AObj} (h : (((((((σ.set a o).set a0 o0).set a1 o1).set a2 o2).set a3 o3).set a4 o4).set a5 o5) b = none) : a ≠ b := St.ne_of_none (St.none_set (St.none_set (St.none_set (St.none_set (St.none_set (St.none_set h))))))
theorem St.nn7 {σ : St} {a b : Nat} {o : AObj} {a0 : Nat} {o0 : AObj} {a1 : Nat} {o1 : AObj} {a2 : Nat} {o2 : AObj} {a3 : Nat} {o3 : AObj} {a4 : Nat} {o4 : AObj} {a5 : Nat} {o5 : AObj} {a6 : Nat} {o6 : AObj} (h : ((((((((σ.set a o).set a0 o0).set a1 o1).set a2 o2).set a3 o3).set a4 o4).set a5 o5).set a6 o6) b = none) : a ≠ b := St.ne_of_none (St.none_set (St.none_set (St.none_set (St.none_set (St.none_set (St.none_set (St.none_set h)))))))
theorem St.nn8 {σ : St} {a b : Nat} {o : AObj} {a0 : Nat} {o0 : AObj} {a1 : Nat} {o1 : AObj} {a2 : Nat} {o2 : AObj} {a3 : Nat} {o3 : AObj} {a4 : Nat} {o4 : AObj} {a5 : Nat} {o5 : AObj} {a6 : Nat} {o6 : AObj} {a7 : Nat} {o7 : AObj} (h : (((((((((σ.set a o).set a0 o0).set a1 o1).set a2 o2).set a3 o3).set a4 o4).set a5 o5).set a6 o6).set a7 o7) b = none) : a ≠ b := St.ne_of_none (St.none_set (St.none_set (St.none_set (St.none_set (St.none_set (St.none_set (St.none_set (St.none_set h))))))))
theorem St.ns1 {σ : St} {b : Nat} {a0 : Nat} {o0 : AObj} (h : (σ.set a0 o0) b = none) : σ b = none := (St.none_set h)
theorem St.ns2 {σ : St} {b : Nat} {a0 : Nat} {o0 : AObj} {a1 : Nat} {o1 : AObj} (h : ((σ.set a0 o0).set a1 o1) b = none) : σ b = none := (St.none_set (St.none_set h))
theorem St.ns3 {σ : St} {b : Nat} {a0 : Nat} {o0 : AObj} {a1 : Nat} {o1 : AObj} {a2 : Nat} {o2 : AObj} (h : (((σ.set a0 o0).set a1 o1).set a2 o2) b = none) : σ b = none := (St.none_set (St.none_set (St.none_set h)))
theorem St.ns4 {σ : St} {b : Nat} {a0 : Nat} {o0 : AObj} {a1 : Nat} {o1 : AObj} {a2 : Nat} {o2 : AObj} {a3 : Nat} {o3 : AObj} (h : ((((σ.set a0 o0).set a1 o1).set a2 o2).set a3 o3) b = none) : σ b = none := (St.none_set (St.none_set (St.none_set (St.none_set h))))
theorem St.ns5 {σ : St} {b : Nat} {a0 : Nat} {o0 : AObj} {a1 : Nat} {o1 : AObj} {a2 : Nat} {o2 : AObj} {a3 : Nat} {o3 : AObj} {a4 : Nat} {o4 : AObj} (h : (((((σ.set a0 o0).set a1 o1).set a2 o2).set a3 o3).set a4 o4) b = none) : σ b = none := (St.none_set (St.none_set (St.none_set (St.none_set (St.none_set h)))))
theorem St.ns6 {σ : St} {b : Nat} {a0 : Nat} {o0 : AObj} {a1 : Nat} {o1 : AObj} {a2 : Nat} {o2 : AObj} {a3 : Nat} {o3 : AObj} {a4 : Nat} {o4 : AObj} {a5 : Nat} {o5 : AObj} (h : ((((((σ.set a0 o0).set a1 o1).set a2 o2).set a3 o3).set a4 o4).set a5 o5) b = none) : σ b = none := (St.none_set (St.none_set (St.none_set (St.none_set (St.none_set (St.none_set h))))))
theorem St.ns7 {σ : St} {b : Nat} {a0 : Nat} {o0 : AObj} {a1 : Nat} {o1 : AObj} {a2 : Nat} {o2 : AObj} {a3 : Nat} {o3 : AObj} {a4 : Nat} {o4 : AObj} {a5 : Nat} {o5 : AObj} {a6 : Nat} {o6 : AObj} (h : (((((((σ.set a0 o0).set a1 o1).set a2 o2).set a3 o3).set a4 o4).set a5 o5).set a6 o6) b = none) : σ b = none := (St.none_set (St.none_set (St.none_set (St.none_set (St.none_set (St.none_set (St.none_set h)))))))
theorem St.ns8 {σ : St} {b : Nat} {a0 : Nat} {o0 : AObj} {a1 : Nat} {o1 : AObj} {a2 : Nat} {o2 : AObj} {a3 : Nat} {o3 : AObj} {a4 : Nat} {o4 : AObj} {a5 : Nat} {o5 : AObj} {a6 : Nat} {o6 : AObj} {a7 : Nat} {o7 : AObj} (h : ((((((((σ.set a0 o0).set a1 o1).set a2 o2).set a3 o3).set a4 o4).set a5 o5).set a6 o6).set a7 o7) b = none) : σ b = none := (St.none_set (St.none_set (St.none_set (St.none_set (St.none_set (St.none_set (St.none_set (St.none_set h))))))))
theorem St.ns9 {σ : St} {b : Nat} {a0 : Nat} {o0 : AObj} {a1 : Nat} {o1 : AObj} {a2 : Nat} {o2 : AObj} {a3 : Nat} {o3 : AObj} {a4 : Nat} {o4 : AObj} {a5 : Nat} {o5 : AObj} {a6 : Nat} {o6 : AObj} {a7 : Nat} {o7 : AObj} {a8 : Nat} {o8 : AObj} (h : (((((((((σ.set a0 o0).set a1 o1).set a2 o2).set a3 o3).set a4 o4).set a5 o5).set a6 o6).set a7 o7).set a8 o8) b = none) : σ b = none := (St.none_set (St.none_set (St.none_set (St.none_set (St.none_set (St.none_set (St.none_set (St.none_set (St.none_set h)))))))))
theorem St.nn9 {σ : St} {a b : Nat} {o : AObj} {a0 : Nat} {o0 : AObj} {a1 : Nat} {o1 : AObj} {a2 : Nat} {o2 : AObj} {a3 : Nat} {o3 : AObj} {a4 : Nat} {o4 : AObj} {a5 : Nat} {o5 : AObj} {a6 : Nat} {o6 : AObj} {a7 : Nat} {o7 : AObj} {a8 : Nat} {o8 : AObj} (h : ((((((((((σ.set a o).set a0 o0).set a1 o1).set a2 o2).set a3 o3).set a4 o4).set a5 o5).set a6 o6).set a7 o7).set a8 o8) b = none) : a ≠ b := St.ne_of_none (St.none_set (St.none_set (St.none_set (St.none_set (St.none_set (St.none_set (St.none_set (St.none_set (St.none_set h)))))))))
theorem St.nn10 {σ : St} {a b : Nat} {o : AObj} {a0 : Nat} {o0 : AObj} {a1 : Nat} {o1 : AObj} {a2 : Nat} {o2 : AObj} {a3 : Nat} {o3 : AObj} {a4 : Nat} {o4 : AObj} {a5 : Nat} {o5 : AObj} {a6 : Nat} {o6 : AObj} {a7 : Nat} {o7 : AObj} {a8 : Nat} {o8 : AObj} {a9 : Nat} {o9 : AObj} (h : (((((((((((σ.set a o).set a0 o0).set a1 o1).set a2 o2).set a3 o3).set a4 o4).set a5 o5).set a6 o6).set a7 o7).set a8 o8).set a9 o9) b = none) : a ≠ b := St.ne_of_none (St.none_set (St.none_set (St.none_set (St.none_set (St.none_set (St.none_set (St.none_set (St.none_set (St.none_set (St.none_set h))))))))))
theorem St.nn11 {σ : St} {a b : Nat} {o : AObj} {a0 : Nat} {o0 : AObj} {a1 : Nat} {o1 : AObj} {a2 : Nat} {o2 : AObj} {a3 : Nat} {o3 : AObj} {a4 : Nat} {o4 : AObj} {a5 : Nat} {o5 : AObj} {a6 : Nat} {o6 : AObj} {a7 : Nat} {o7 : AObj} {a8 : Nat} {o8 : AObj} {a9 : Nat} {o9 : AObj} {a10 : Nat} {o10 : AObj} (h : ((((((((((((σ.set a o).set a0 o0).set a1 o1).set a2 o2).set a3 o3).set a4 o4).set a5 o5).set a6 o6).set a7 o7).set a8 o8).set a9 o9).set a10 o10) b = none) : a ≠ b := St.ne_of_none (St.none_set (St.none_set (St.none_set (St.none_set (St.none_set (St.none_set (St.none_set (St.none_set (St.none_set (St.none_set (St.none_set h)))))))))))
theorem St.nn12 {σ : St} {a b : Nat} {o : AObj} {a0 : Nat} {o0 : AObj} {a1 : Nat} {o1 : AObj} {a2 : Nat} {o2 : AObj} {a3 : Nat} {o3 : AObj} {a4 : Nat} {o4 : AObj} {a5 : Nat} {o5 : AObj} {a6 : Nat} {o6 : AObj} {a7 : Nat} {o7 : AObj} {a8 : Nat} {o8 : AObj} {a9 : Nat} {o9 : AObj} {a10 : Nat} {o10 : AObj} {a11 : Nat} {o11 : AObj} (h : (((((((((((((σ.set a o).set a0 o0).set a1 o1).set a2 o2).set a3 o3).set a4 o4).set a5 o5).set a6 o6).set a7 o7).set a8 o8).set a9 o9).set a10 o10).set a11 o11) b = none) : a ≠ b := St.ne_of_none (St.none_set (St.none_set (St.none_set (St.none_set (St.none_set (St.none_set (St.none_set (St.none_set (St.none_set (St.none_set (St.none_set (St.none_set h))))))))))))
theorem St.nn13 {σ : St} {a b : Nat} {o : AObj} {a0 : Nat} {o0 : AObj} {a1 : Nat} {o1 : AObj} {a2 : Nat} {o2 : AObj} {a3 : Nat} {o3 : AObj} {a4 : Nat} {o4 : AObj} {a5 : Nat} {o5 : AObj} {a6 : Nat} {o6 : AObj} {a7 : Nat} {o7 : AObj} {a8 : Nat} {o8 : AObj} {a9 : Nat} {o9 : AObj} {a10 : Nat} {o10 : AObj} {a11 : Nat} {o11 : AObj} {a12 : Nat} {o12 : AObj} (h : ((((((((((((((σ.set a o).set a0 o0).set a1 o1).set a2 o2).set a3 o3).set a4 o4).set a5 o5).set a6 o6).set a7 o7).set a8 o8).set a9 o9).set a10 o10).set a11 o11).set a12 o12) b = none) : a ≠ b := St.ne_of_none (St.none_set (St.none_set (St.none_set (St.none_set (St.none_set (St.none_set (St.none_set (St.none_set (St.none_set (St.none_set (St.none_set (St.none_set (St.none_set h)))))))))))))
theorem St.ns10 {σ : St} {b : Nat} {a0 : Nat} {o0 : AObj} {a1 : Nat} {o1 : AObj} {a2 : Nat} {o2 : AObj} {a3 : Nat} {o3 : AObj} {a4 : Nat} {o4 : AObj} {a5 : Nat} {o5 : AObj} {a6 : Nat} {o6 : AObj} {a7 : Nat} {o7 : AObj} {a8 : Nat} {o8 : AObj} {a9 : Nat} {o9 : AObj} (h : ((((((((((σ.set a0 o0).set a1 o1).set a2 o2).set a3 o3).set a4 o4).set a5 o5).set a6 o6).set a7 o7).set a8 o8).set a9 o9) b = none) : σ b = none := (St.none_set (St.none_set (St.none_set (St.none_set (St.none_set (St.none_set (St.none_set (St.none_set (St.none_set (St.none_set h))))))))))
theorem St.ns11 {σ : St} {b : Nat} {a0 : Nat} {o0 : AObj} {a1 : Nat} {o1 : AObj} {a2 : Nat} {o2 : AObj} {a3 : Nat} {o3 : AObj} {a4 : Nat} {o4 : AObj} {a5 : Nat} {o5 : AObj} {a6 : Nat} {o6 : AObj} {a7 : Nat} {o7 : AObj} {a8 : Nat} {o8 : AObj} {a9 : Nat} {o9 : AObj} {a10 : Nat} {o10 : AObj} (h : (((((((((((σ.set a0 o0).set a1 o1).set a2 o2).set a3 o3).set a4 o4).set a5 o5).set a6 o6).set a7 o7).set a8 o8).set a9 o9).set a10 o10) b = none) : σ b = none := (St.none_set (St.none_set (St.none_set (St.none_set (St.none_set (St.none_set (St.none_set (St.none_set (St.none_set (St.none_set (St.none_set h)))))))))))
theorem St.ns12 {σ : St} {b : Nat} {a0 : Nat} {o0 : AObj} {a1 : Nat} {o1 : AObj} {a2 : Nat} {o2 : AObj} {a3 : Nat} {o3 : AObj} {a4 : Nat} {o4 : AObj} {a5 : Nat} {o5 : AObj} {a6 : Nat} {o6 : AObj} {a7 : Nat} {o7 : AObj} {a8 : Nat} {o8 : AObj} {a9 : Nat} {o9 : AObj} {a10 : Nat} {o10 : AObj} {a11 : Nat} {o11 : AObj} (h : ((((((((((((σ.set a0 o0).set a1 o1).set a2 o2).set a3 o3).set a4 o4).set a5 o5).set a6 o6).set a7 o7).set a8 o8).set a9 o9).set a10 o10).set a11 o11) b = none) : σ b = none := (St.none_set (St.none_set (St.none_set (St.none_set (St.none_set (St.none_set (St.none_set (St.none_set (St.none_set (St.none_set (St.none_set (St.none_set h))))))))))))
theorem St.ns13 {σ : St} {b : Nat} {a0 : Nat} {o0 : AObj} {a1 : Nat} {o1 : AObj} {a2 : Nat} {o2 : AObj} {a3 : Nat} {o3 : AObj} {a4 : Nat} {o4 : AObj} {a5 : Nat} {o5 : AObj} {a6 : Nat} {o6 : AObj} {a7 : Nat} {o7 : AObj} {a8 : Nat} {o8 : AObj} {a9 : Nat} {o9 : AObj} {a10 : Nat} {o10 : AObj} {a11 : Nat} {o11 : AObj} {a12 : Nat} {o12 : AObj} (h : (((((((((((((σ.set a0 o0).set a1 o1).set a2 o2).set a3 o3).set a4 o4).set a5 o5).set a6 o6).set a7 o7).set a8 o8).set a9 o9).set a10 o10).set a11 o11).set a12 o12) b = none) : σ b = none := (St.none_set (St.none_set (St.none_set (St.none_set (St.none_set (St.none_set (St.none_set (St.none_set (St.none_set (St.none_set (St.none_set (St.none_set (St.none_set h)))))))))))))
theorem St.ns14 {σ : St} {b : Nat} {a0 : Nat} {o0 : AObj} {a1 : Nat} {o1 : AObj} {a2 : Nat} {o2 : AObj} {a3 : Nat} {o3 : AObj} {a4 : Nat} {o4 : AObj} {a5 : Nat} {o5 : AObj} {a6 : Nat} {o6 : AObj} {a7 : Nat} {o7 : AObj} {a8 : Nat} {o8 : AObj} {a9 : Nat} {o9 : AObj} {a10 : Nat} {o10 : AObj} {a11 : Nat} {o11 : AObj} {a12 : Nat} {o12 : AObj} {a13 : Nat} {o13 : AObj} (h : ((((((((((((((σ.set a0 o0).set a1 o1).set a2 o2).set a3 o3).set a4 o4).set a5 o5).set a6 o6).set a7 o7).set a8 o8).set a9 o9).set a10 o10).set a11 o11).set a12 o12).set a13 o13) b = none) : σ b = none := (St.none_set (St.none_set (St.none_set (St.none_set (St.none_set (St.none_set (St.none_set (St.none_set (St.none_set (St.none_set (St.none_set (St.none_set (St.none_set (St.none_set h))))))))))))))
theorem w64 {n : Int} (h0 : -9223372036854775808 ≤ n) (h1 : n < 9223372036854775808) : IntKind.i64.wrap n = n := by
  rw [IntKind.wrap_i64]; omega
theorem w32 {n : Int} (h0 : -2147483648 ≤ n) (h1 : n < 2147483648) : IntKind.i32.wrap n = n := by
  rw [IntKind.wrap_i32]; omega
theorem wu8 {n : Int} (h0 : 0 ≤ n) (h1 : n < 256) : IntKind.u8.wrap n = n := by
  rw [IntKind.wrap_u8]; omega
theorem and_l {a b : Bool} (h : (a && b) = true) : a = true := by cases a <;> simp_all
theorem and_r {a b : Bool} (h : (a && b) = true) : b = true := by cases a <;> simp_all
theorem St.set_ne2 {σ : St} {id x : Nat} {o o' : AObj} (hid : x ≠ id) (h : σ x = some o') : σ.set id o x = some o' := by rw [St.set_ne _ _ _ hid]; exact h
theorem St.set_ne3 {σ : St} {id x : Nat} {o o' : AObj} (hid : id ≠ x) (h : σ x = some o') : σ.set id o x = some o' := St.set_ne2 (Ne.symm hid) h
theorem lkp {σ : St} {id : Nat} {o : AObj} (h : σ id = some o := by first | exact St.set_same _ _ _ | assumption | (repeat' (first | exact St.set_same _ _ _ | assumption | refine St.set_keep (by assumption) ?_ | refine St.set_ne2 (by first | assumption | exact St.nn0 (by assumption) | exact St.nn1 (by assumption) | exact St.nn2 (by assumption) | exact St.nn3 (by assumption) | exact St.nn4 (by assumption) | exact St.nn5 (by assumption) | exact St.nn6 (by assumption) | exact St.nn7 (by assumption) | exact St.nn8 (by assumption) | exact St.nn9 (by assumption) | exact St.nn10 (by assumption) | exact St.nn11 (by assumption) | exact St.nn12 (by assumption) | exact St.nn13 (by assumption) | exact Ne.symm (St.nn0 (by assumption)) | exact Ne.symm (St.nn1 (by assumption)) | exact Ne.symm (St.nn2 (by assumption)) | exact Ne.symm (St.nn3 (by assumption)) | exact Ne.symm (St.nn4 (by assumption)) | exact Ne.symm (St.nn5 (by assumption)) | exact Ne.symm (St.nn6 (by assumption)) | exact Ne.symm (St.nn7 (by assumption)) | exact Ne.symm (St.nn8 (by assumption)) | exact Ne.symm (St.nn9 (by assumption)) | exact Ne.symm (St.nn10 (by assumption)) | exact Ne.symm (St.nn11 (by assumption)) | exact Ne.symm (St.nn12 (by assumption)) | exact Ne.symm (St.nn13 (by assumption)) | exact St.ne_ns (by assumption) (by repeat' (first | exact St.sn_of (by assumption) | refine St.setn ?_))) ?_))) : σ id = some o := h
section
variable {fr : Fr} {x : Operand} {c b y z u : Bool}
def condO (fr : Fr) : Operand → Option Bool
  | .tmp t => match lk fr t with
    | some (.mb c _) => some c
    | _ => some true
  | _ => some true
theorem condO_eq (h : condO fr x = some b) : condOf fr x = b := by
  cases x with
  | tmp t =>
    simp only [condO, condOf] at h ⊢
    cases hl : lk fr t with
    | none => rw [hl] at h; cases h; rfl
    | some a => rw [hl] at h; cases a <;> cases h <;> rfl
  | _ => cases h; rfl
theorem nd0 (h : condO fr x = some b) (hb : b = true := by with_reducible rfl) : c = true → condOf fr x = true := fun _ => (condO_eq h).trans hb
theorem nd1 (h : condO fr x = some b) (hb : c = b := by with_reducible rfl) : c = true → condOf fr x = true := fun hc => by rw [condO_eq h, ← hb]; exact hc
theorem nd2 (h : condO fr x = some b) (hb : c = (b && y) := by with_reducible rfl) : c = true → condOf fr x = true := fun hc => by rw [condO_eq h]; exact and_l (hb ▸ hc)
theorem nd3 (h : condO fr x = some b) (hb : c = ((b && y) && z) := by with_reducible rfl) : c = true → condOf fr x = true := fun hc => by rw [condO_eq h]; exact and_l (and_l (hb ▸ hc))
theorem nd4 (h : condO fr x = some b) (hb : c = (((b && y) && z) && u) := by with_reducible rfl) : c = true → condOf fr x = true := fun hc => by rw [condO_eq h]; exact and_l (and_l (and_l (hb ▸ hc)))
end
section
variable {P : Program} {nt : Nat} {ops : Array Oper} {Q Q2 : Post} {fr : Fr} {σ : St} {rest : List Oper} {t : Tmp} {op : Op} {ty : TypeId} {pos : String} {aft : Array Edge} {av : AV}
/-! ### Plain forms -/
theorem nf_nil : ([] : List AV) = [] := rfl
theorem nf_cons {x y : AV} {xs ys : List AV} (h : x = y) (h' : xs = ys) : x :: xs = y :: ys := by rw [h, h']
theorem nf_v {x : Value} : AV.v x = AV.v x := rfl
theorem nf_agg {cs ds : List AV} (h : cs = ds) : AV.agg cs = AV.agg ds := by rw [h]
theorem nf_sl {nl : Option Bool} {full : Bool} {sz : Nat} {els : List (List AV)} : AV.sl nl full sz els = AV.sl nl full sz els := rfl
theorem nf_osl {id sz off len : Nat} : AV.osl id sz off len = AV.osl id sz off len := rfl
theorem nf_ptr {id sz i j : Nat} : AV.ptr id sz i j = AV.ptr id sz i j := rfl
theorem nf_fp {cs : List AV} : AV.fp cs = AV.fp cs := rfl
theorem nf_mp {id : Nat} : AV.mp id = AV.mp id := rfl
theorem nf_it {id : Nat} : AV.it id = AV.it id := rfl
theorem nf_fn {f : FuncId} {cs : List AV} : AV.fn f cs = AV.fn f cs := rfl
theorem nf_ifc {t : TypeId} {x : AV} : AV.ifc t x = AV.ifc t x := rfl
theorem nf_mb {c : Bool} {x : AV} : AV.mb c x = AV.mb c x := rfl
theorem nfl_nil : ([] : List (List AV)) = [] := rfl
theorem nfl_cons {x y : List AV} {xs ys : List (List AV)} (h : x = y) (h' : xs = ys) : x :: xs = y :: ys := by rw [h, h']
theorem nf_set0 {x y : List AV} : [x].set 0 y = [y] := rfl
theorem jb {bt : TypeId} {parts : Array (Nat × Operand)} {av0 : AV} (h : LJ P nt ops Q rest ((t, av) :: fr) σ) (hd : Nat.blt t nt = true := by exact rfl) (hv : valOp P fr (.build bt parts) = some av0 := by exact rfl) (hn : av0 = av := by (first | (apply nf_agg; (repeat' (first | exact nf_nil | apply nf_cons | exact nf_v | exact nf_sl | exact nf_osl | exact nf_ptr | exact nf_fp | exact nf_mp | exact nf_fn | exact nf_ifc | exact nf_it | exact nf_mb | exact rfl))) | exact nf_v | exact nf_sl | exact nf_osl | exact nf_ptr | exact nf_fp | exact nf_mp | exact nf_fn | exact nf_ifc | exact nf_it | exact nf_mb | exact rfl)) : LJ P nt ops Q (⟨some t, .build bt parts, ty, pos, aft, none⟩ :: rest) fr σ := lj_auto hd (hn ▸ hv) h
theorem jbl {lt : TypeId} {x : Operand} {av0 : AV} (h : LJ P nt ops Q rest ((t, av) :: fr) σ) (hd : Nat.blt t nt = true := by exact rfl) (hv : valOp P fr (.load lt x) = some av0 := by exact rfl) (hn : av0 = av := by (first | (apply nf_agg; (repeat' (first | exact nf_nil | apply nf_cons | exact nf_v | exact nf_sl | exact nf_osl | exact nf_ptr | exact nf_fp | exact nf_mp | exact nf_fn | exact nf_ifc | exact nf_it | exact nf_mb | exact rfl))) | exact nf_v | exact nf_sl | exact nf_osl | exact nf_ptr | exact nf_fp | exact nf_mp | exact nf_fn | exact nf_ifc | exact nf_it | exact nf_mb | exact rfl)) : LJ P nt ops Q (⟨some t, .load lt x, ty, pos, aft, none⟩ :: rest) fr σ := lj_auto hd (hn ▸ hv) h
theorem j1 (h : LJ P nt ops Q rest ((t, av) :: fr) σ) (hd : Nat.blt t nt = true := by exact rfl) (hv : valOp P fr op = some av := by exact rfl) : LJ P nt ops Q (⟨some t, op, ty, pos, aft, none⟩ :: rest) fr σ := lj_auto hd hv h
theorem j2 {j u : Nat} {b : Bool} {a : AV} (h : LJ P nt ops Q rest ((t, av) :: fr) σ) (hj : (ops[j]?).bind (·.dst) = some u := by exact rfl) (hl : lk fr u = some a := by exact rfl) (hb : a = .v (.bool b) := by with_reducible rfl) (hd : Nat.blt t nt = true := by exact rfl) (hv : valOp P fr op = some av := by exact rfl) : LJ P nt ops Q (⟨some t, op, ty, pos, aft, some (j, b)⟩ :: rest) fr σ := lj_autoy hd hj (hb ▸ hl) hv h
theorem j3 {j u : Nat} {a : AV} (h : LJ P nt ops Q rest ((t, .tup []) :: fr) σ) (hj : (ops[j]?).bind (·.dst) = some u := by exact rfl) (hl : lk fr u = some a := by exact rfl) (hb : a = .v (.bool false) := by with_reducible rfl) (hd : fits nt (some t) = true := by exact rfl) : LJ P nt ops Q (⟨some t, op, ty, pos, aft, some (j, true)⟩ :: rest) fr σ := lj_vn hd hj (hb ▸ hl) rfl h
theorem j3f {j u : Nat} {a : AV} (h : LJ P nt ops Q rest ((t, .tup []) :: fr) σ) (hj : (ops[j]?).bind (·.dst) = some u := by exact rfl) (hl : lk fr u = some a := by exact rfl) (hb : a = .v (.bool true) := by with_reducible rfl) (hd : fits nt (some t) = true := by exact rfl) : LJ P nt ops Q (⟨some t, op, ty, pos, aft, some (j, false)⟩ :: rest) fr σ := lj_vn hd hj (hb ▸ hl) rfl h
theorem j4 {y : Code} (h : CJ P nt y Q2 fr σ) : LJ P nt ops (sq P nt y Q2) [] fr σ := lj_sqe h
theorem j5 {y : Code} (h : CJ P nt y Q2 fr σ) : LJ P nt ops (thn Q (CJ P nt y Q2)) [] fr σ := lj_end h
theorem j6 (h : Q .normal fr σ) : LJ P nt ops Q [] fr σ := lj_nil h
theorem jl {l : List Oper} (h : LJ P nt ops Q l fr σ) : LJ P nt ops Q l fr σ := h
theorem jc {c : Code} (h : CJ P nt c Q fr σ) : CJ P nt c Q fr σ := h
theorem c1 {x y : Code} (h : CJ P nt x (sq P nt y Q) fr σ) : CJ P nt (.seq x y) Q fr σ := cj_sq h
theorem c2 {id : Nat} {l : List Oper} (h : LJ P nt l.toArray Q l fr σ) : CJ P nt (.region id l.toArray false) Q fr σ := cj_region h
theorem c3 {c : Operand} {x y : Code} {a : AV} (h : CJ P nt x Q fr σ) (hc : ev fr c = some a := by exact rfl) (hb : a = .v (.bool true) := by with_reducible rfl) : CJ P nt (.cond c x y) Q fr σ := cj_yes (hb ▸ hc) h
theorem c4 {c : Operand} {x y : Code} {a : AV} (h : CJ P nt y Q fr σ) (hc : ev fr c = some a := by exact rfl) (hb : a = .v (.bool false) := by with_reducible rfl) : CJ P nt (.cond c x y) Q fr σ := cj_no (hb ▸ hc) h
theorem c5 {id : Nat} {c : Code} (h : CJ P nt c (inb id Q) fr σ) : CJ P nt (.block id c) Q fr σ := cj_block h
theorem c6 (h : Q .normal fr σ) : CJ P nt .skip Q fr σ := cj_skip h
theorem c7 (h : Q .ret fr σ) : CJ P nt .ret Q fr σ := cj_ret h
theorem c8 {id : Nat} (h : Q (.exit id) fr σ) : CJ P nt (.exit id) Q fr σ := cj_exit h
theorem c9 {u : Nat} {x y : Code} {b : Bool} (ht : b = true → CJ P nt x Q ((u, .v (.bool true)) :: fr) σ) (hf : b = false → CJ P nt y Q ((u, .v (.bool false)) :: fr) σ) (hl : lk fr u = some (.v (.bool b)) := by exact rfl) : CJ P nt (.cond (.tmp u) x y) Q fr σ := by
  have key : ∀ {b' : Bool} {c : Code}, b = b' → CJ P nt c Q ((u, .v (.bool b')) :: fr) σ → CJ P nt c Q fr σ := fun {b' c} e h => cj_forget (fun t a hx => by
    rw [lk_cons] at hx
    split at hx
    · rename_i e'; subst e'; rw [hl, e]; exact hx
    · exact hx) (St.le_refl _) h
  exact cj_if hl (fun e => key e (ht e)) (fun e => key e (hf e))
theorem n1 {y : Code} (h : CJ P nt y Q fr σ) : sq P nt y Q .normal fr σ := nx_sq h
theorem n2 {y : Code} (h : Q .ret fr σ) : sq P nt y Q .ret fr σ := nx_ret_sq h
theorem n3 {y : Code} {id : Nat} (h : Q (.exit id) fr σ) : sq P nt y Q (.exit id) fr σ := nx_exit_sq h
theorem n4 {y : Code} (h : CJ P nt y Q2 fr σ) : thn Q (CJ P nt y Q2) .normal fr σ := nx_thn_cj h
theorem n5 {K : Fr → St → Prop} (h : Q .ret fr σ) : thn Q K .ret fr σ := nx_ret_thn h
theorem n6 {id : Nat} (h : Q .ret fr σ) : inb id Q .ret fr σ := nx_ret_inb h
theorem n7 {K : Fr → St → Prop} {id : Nat} (h : Q (.exit id) fr σ) : thn Q K (.exit id) fr σ := nx_exit_thn h
theorem n8 {id : Nat} (h : Q .normal fr σ) : inb id Q (.exit id) fr σ := nx_exit_same h
theorem n9 {id i : Nat} (h : Q (.exit i) fr σ) (hne : (i == id) = false := by exact rfl) : inb id Q (.exit i) fr σ := nx_exit_other hne h
theorem n10 {id : Nat} (h : Q .normal fr σ) : inb id Q .normal fr σ := nx_inb h
theorem n11 {rs : List ResultVar} {R : AEnd → St → Prop} {as : List AV} (hR : R (.ret (packed as)) σ) (h : results' fr rs = some as := by exact rfl) : endR P rs R .ret fr σ := nx_end h hR
theorem n12 {rs : List ResultVar} {R : AEnd → St → Prop} {as : List AV} (hR : R (.ret (packed as)) σ) (h : results' fr rs = some as := by exact rfl) : endR P rs R .normal fr σ := nx_end' h hR
theorem j7 {x y z : Operand} {b vy : Bool} (h : LJ P nt ops Q rest ((t, .v (.bool (b || vy))) :: fr) σ) (hc : ev fr x = some (.v (.bool b)) := by exact rfl) (hx : ev fr y = some (.v (.bool true)) := by exact rfl) (hy : ev fr z = some (.mb (!b) (.v (.bool vy))) := by exact rfl) (hd : fits nt (some t) = true := by exact rfl) : LJ P nt ops Q (⟨some t, .pick x y z, ty, pos, aft, none⟩ :: rest) fr σ :=
  lj_v hd (fun R hR => opj_or rfl hc hx hy hR) h
theorem j8 {x y z : Operand} {b vy : Bool} (h : LJ P nt ops Q rest ((t, .v (.bool (b && vy))) :: fr) σ) (hc : ev fr x = some (.v (.bool b)) := by exact rfl) (hx : ev fr y = some (.mb b (.v (.bool vy))) := by exact rfl) (hy : ev fr z = some (.v (.bool false)) := by exact rfl) (hd : fits nt (some t) = true := by exact rfl) : LJ P nt ops Q (⟨some t, .pick x y z, ty, pos, aft, none⟩ :: rest) fr σ :=
  lj_v hd (fun R hR => opj_and rfl hc hx hy hR) h
theorem j9 {j u : Nat} {w c : Bool} {a : AV} (h : LJ P nt ops Q rest ((t, .mb c av) :: fr) σ) (hj : (ops[j]?).bind (·.dst) = some u := by exact rfl) (hl : lk fr u = some a := by exact rfl) (hg : gc a w = some c := by exact rfl) (hd : fits nt (some t) = true := by exact rfl) (hv : valOp P (strip fr) op = some av := by exact rfl)
    (hn : Needs c fr op.operands.toList := by repeat' (first | exact True.intro | refine And.intro ?_ ?_ | exact nd0 rfl | exact nd1 rfl | exact nd2 rfl | exact nd3 rfl | exact nd4 rfl)) : LJ P nt ops Q (⟨some t, op, ty, pos, aft, some (j, w)⟩ :: rest) fr σ :=
  lj_q hd hj hl hg hn (fun _ R hR => opj_valOp hv hR) h
theorem j10 {j u : Nat} {w c b vy : Bool} {a : AV} {x y z : Operand} (h : LJ P nt ops Q rest ((t, .mb c (.v (.bool (b || vy)))) :: fr) σ) (hj : (ops[j]?).bind (·.dst) = some u := by exact rfl) (hl : lk fr u = some a := by exact rfl) (hg : gc a w = some c := by exact rfl) (hc : ev fr x = some (.mb c (.v (.bool b))) := by exact rfl) (hx : ev fr y = some (.v (.bool true)) := by exact rfl) (hy : ev fr z = some (.mb (c && !b) (.v (.bool vy))) := by exact rfl) (hd : fits nt (some t) = true := by exact rfl) :
    LJ P nt ops Q (⟨some t, .pick x y z, ty, pos, aft, some (j, w)⟩ :: rest) fr σ := lj_q0 hd hj hl hg (fun h R hR => opj_orq rfl hc hx hy h hR) h
theorem j11 {j u : Nat} {w c b vy : Bool} {a : AV} {x y z : Operand} (h : LJ P nt ops Q rest ((t, .mb c (.v (.bool (b && vy)))) :: fr) σ) (hj : (ops[j]?).bind (·.dst) = some u := by exact rfl) (hl : lk fr u = some a := by exact rfl) (hg : gc a w = some c := by exact rfl) (hc : ev fr x = some (.mb c (.v (.bool b))) := by exact rfl) (hx : ev fr y = some (.mb (c && b) (.v (.bool vy))) := by exact rfl) (hy : ev fr z = some (.v (.bool false)) := by exact rfl) (hd : fits nt (some t) = true := by exact rfl) :
    LJ P nt ops Q (⟨some t, .pick x y z, ty, pos, aft, some (j, w)⟩ :: rest) fr σ := lj_q0 hd hj hl hg (fun h R hR => opj_andq rfl hc hx hy h hR) h
/-- A variable of our own is made. -/
theorem j12 {elem : TypeId} {x : Operand} {as : List AV} {a : AV} {k : Nat} (h : ∀ id, σ id = none → LJ P nt ops Q rest ((t, .ptr id k 0 0) :: fr) (σ.set id (.row k elem [as]))) (hx : ev fr x = some a := by exact rfl) (hc : cellsOf a = some as := by exact rfl) (hs : sizeIs P elem = some k := by exact rfl) (hk : as.length = k := by exact rfl) (hd : fits nt (some t) = true := by exact rfl) : LJ P nt ops Q (⟨some t, .box elem x, ty, pos, aft, none⟩ :: rest) fr σ := by
  subst hk
  exact lj_f hd (fun R hR => opj_box rfl hx hc hR) h
theorem j13 {elem : TypeId} {as as' : List AV} {k : Nat} (h : ∀ id, σ id = none → LJ P nt ops Q rest ((t, .ptr id k 0 0) :: fr) (σ.set id (.row k elem [as']))) (hz : zeroIs P elem = some as := by exact rfl) (hs : sizeIs P elem = some k := by exact rfl) (hk : as.length = k := by exact rfl) (hn : as = as' := by (repeat' (first | exact nf_nil | apply nf_cons | exact nf_v | exact nf_sl | exact nf_osl | exact nf_ptr | exact nf_fp | exact nf_mp | exact nf_fn | exact nf_ifc | exact nf_it | exact nf_mb | exact rfl))) (hd : fits nt (some t) = true := by exact rfl) : LJ P nt ops Q (⟨some t, .alloc elem, ty, pos, aft, none⟩ :: rest) fr σ := by
  subst hn
  subst hk
  exact lj_f hd (fun R hR => opj_alloc rfl hz hR) h
/-- What stands at an address of our own is read; written. -/
theorem j14 {lt : TypeId} {x : Operand} {q : Option Nat} {id sz i j : Nat} {elem : TypeId} {els : List (List AV)} {el : List AV} {av0 : AV} (h : LJ P nt ops Q rest ((t, av) :: fr) σ) (hx : ev fr x = some (.ptr id sz i j) := by exact rfl) (hq : shapeOf P lt = some q := by exact rfl) (hσ : σ id = some (.row sz elem els) := by first | exact St.set_same _ _ _ | assumption | (repeat' (first | exact St.set_same _ _ _ | assumption | refine St.set_keep (by assumption) ?_ | refine St.set_ne2 (by first | assumption | exact St.nn0 (by assumption) | exact St.nn1 (by assumption) | exact St.nn2 (by assumption) | exact St.nn3 (by assumption) | exact St.nn4 (by assumption) | exact St.nn5 (by assumption) | exact St.nn6 (by assumption) | exact St.nn7 (by assumption) | exact St.nn8 (by assumption) | exact St.nn9 (by assumption) | exact St.nn10 (by assumption) | exact St.nn11 (by assumption) | exact St.nn12 (by assumption) | exact St.nn13 (by assumption) | exact Ne.symm (St.nn0 (by assumption)) | exact Ne.symm (St.nn1 (by assumption)) | exact Ne.symm (St.nn2 (by assumption)) | exact Ne.symm (St.nn3 (by assumption)) | exact Ne.symm (St.nn4 (by assumption)) | exact Ne.symm (St.nn5 (by assumption)) | exact Ne.symm (St.nn6 (by assumption)) | exact Ne.symm (St.nn7 (by assumption)) | exact Ne.symm (St.nn8 (by assumption)) | exact Ne.symm (St.nn9 (by assumption)) | exact Ne.symm (St.nn10 (by assumption)) | exact Ne.symm (St.nn11 (by assumption)) | exact Ne.symm (St.nn12 (by assumption)) | exact Ne.symm (St.nn13 (by assumption)) | exact St.ne_ns (by assumption) (by repeat' (first | exact St.sn_of (by assumption) | refine St.setn ?_))) ?_))) (he : els[i]? = some el := by exact rfl) (hp : load? (el.drop j) q = some av0 := by exact rfl) (hnn : av0 = av := by (first | (apply nf_agg; (repeat' (first | exact nf_nil | apply nf_cons | exact nf_v | exact nf_sl | exact nf_osl | exact nf_ptr | exact nf_fp | exact nf_mp | exact nf_fn | exact nf_ifc | exact nf_it | exact nf_mb | exact rfl))) | exact nf_v | exact nf_sl | exact nf_osl | exact nf_ptr | exact nf_fp | exact nf_mp | exact nf_fn | exact nf_ifc | exact nf_it | exact nf_mb | exact rfl)) (hd : fits nt (some t) = true := by exact rfl) : LJ P nt ops Q (⟨some t, .load lt x, ty, pos, aft, none⟩ :: rest) fr σ :=
  lj_v hd (fun R hR => opj_load_ptr rfl hq hx hσ he (hnn ▸ hp) hR) h
theorem j15 {lt : TypeId} {x : Operand} {q : Option Nat} {id sz i j jj u : Nat} {b : Bool} {a : AV} {elem : TypeId} {els : List (List AV)} {el : List AV} {av0 : AV} (h : LJ P nt ops Q rest ((t, av) :: fr) σ) (hj : (ops[jj]?).bind (·.dst) = some u := by exact rfl) (hl : lk fr u = some a := by exact rfl) (hb : a = .v (.bool b) := by with_reducible rfl) (hx : ev fr x = some (.ptr id sz i j) := by exact rfl) (hq : shapeOf P lt = some q := by exact rfl) (hσ : σ id = some (.row sz elem els) := by first | exact St.set_same _ _ _ | assumption | (repeat' (first | exact St.set_same _ _ _ | assumption | refine St.set_keep (by assumption) ?_ | refine St.set_ne2 (by first | assumption | exact St.nn0 (by assumption) | exact St.nn1 (by assumption) | exact St.nn2 (by assumption) | exact St.nn3 (by assumption) | exact St.nn4 (by assumption) | exact St.nn5 (by assumption) | exact St.nn6 (by assumption) | exact St.nn7 (by assumption) | exact St.nn8 (by assumption) | exact St.nn9 (by assumption) | exact St.nn10 (by assumption) | exact St.nn11 (by assumption) | exact St.nn12 (by assumption) | exact St.nn13 (by assumption) | exact Ne.symm (St.nn0 (by assumption)) | exact Ne.symm (St.nn1 (by assumption)) | exact Ne.symm (St.nn2 (by assumption)) | exact Ne.symm (St.nn3 (by assumption)) | exact Ne.symm (St.nn4 (by assumption)) | exact Ne.symm (St.nn5 (by assumption)) | exact Ne.symm (St.nn6 (by assumption)) | exact Ne.symm (St.nn7 (by assumption)) | exact Ne.symm (St.nn8 (by assumption)) | exact Ne.symm (St.nn9 (by assumption)) | exact Ne.symm (St.nn10 (by assumption)) | exact Ne.symm (St.nn11 (by assumption)) | exact Ne.symm (St.nn12 (by assumption)) | exact Ne.symm (St.nn13 (by assumption)) | exact St.ne_ns (by assumption) (by repeat' (first | exact St.sn_of (by assumption) | refine St.setn ?_))) ?_))) (he : els[i]? = some el := by exact rfl) (hp : load? (el.drop j) q = some av0 := by exact rfl) (hnn : av0 = av := by (first | (apply nf_agg; (repeat' (first | exact nf_nil | apply nf_cons | exact nf_v | exact nf_sl | exact nf_osl | exact nf_ptr | exact nf_fp | exact nf_mp | exact nf_fn | exact nf_ifc | exact nf_it | exact nf_mb | exact rfl))) | exact nf_v | exact nf_sl | exact nf_osl | exact nf_ptr | exact nf_fp | exact nf_mp | exact nf_fn | exact nf_ifc | exact nf_it | exact nf_mb | exact rfl)) (hd : fits nt (some t) = true := by exact rfl) : LJ P nt ops Q (⟨some t, .load lt x, ty, pos, aft, some (jj, b)⟩ :: rest) fr σ :=
  lj_vy hd hj (hb ▸ hl) (fun R hR => opj_load_ptr rfl hq hx hσ he (hnn ▸ hp) hR) h
theorem j16 {lt : TypeId} {x : Operand} {q : Option Nat} {id sz i j jj u : Nat} {w c : Bool} {a : AV} {elem : TypeId} {els : List (List AV)} {el : List AV} {av0 : AV} (h : LJ P nt ops Q rest ((t, .mb c av) :: fr) σ) (hj : (ops[jj]?).bind (·.dst) = some u := by exact rfl) (hl : lk fr u = some a := by exact rfl) (hg : gc a w = some c := by exact rfl) (hx : ev (strip fr) x = some (.ptr id sz i j) := by exact rfl) (hq : shapeOf P lt = some q := by exact rfl) (hn : Needs c fr (Op.load lt x).operands.toList := by repeat' (first | exact True.intro | refine And.intro ?_ ?_ | exact nd0 rfl | exact nd1 rfl | exact nd2 rfl | exact nd3 rfl | exact nd4 rfl)) (hσ : σ id = some (.row sz elem els) := by first | exact St.set_same _ _ _ | assumption | (repeat' (first | exact St.set_same _ _ _ | assumption | refine St.set_keep (by assumption) ?_ | refine St.set_ne2 (by first | assumption | exact St.nn0 (by assumption) | exact St.nn1 (by assumption) | exact St.nn2 (by assumption) | exact St.nn3 (by assumption) | exact St.nn4 (by assumption) | exact St.nn5 (by assumption) | exact St.nn6 (by assumption) | exact St.nn7 (by assumption) | exact St.nn8 (by assumption) | exact St.nn9 (by assumption) | exact St.nn10 (by assumption) | exact St.nn11 (by assumption) | exact St.nn12 (by assumption) | exact St.nn13 (by assumption) | exact Ne.symm (St.nn0 (by assumption)) | exact Ne.symm (St.nn1 (by assumption)) | exact Ne.symm (St.nn2 (by assumption)) | exact Ne.symm (St.nn3 (by assumption)) | exact Ne.symm (St.nn4 (by assumption)) | exact Ne.symm (St.nn5 (by assumption)) | exact Ne.symm (St.nn6 (by assumption)) | exact Ne.symm (St.nn7 (by assumption)) | exact Ne.symm (St.nn8 (by assumption)) | exact Ne.symm (St.nn9 (by assumption)) | exact Ne.symm (St.nn10 (by assumption)) | exact Ne.symm (St.nn11 (by assumption)) | exact Ne.symm (St.nn12 (by assumption)) | exact Ne.symm (St.nn13 (by assumption)) | exact St.ne_ns (by assumption) (by repeat' (first | exact St.sn_of (by assumption) | refine St.setn ?_))) ?_))) (he : els[i]? = some el := by exact rfl) (hp : load? (el.drop j) q = some av0 := by exact rfl) (hnn : av0 = av := by (first | (apply nf_agg; (repeat' (first | exact nf_nil | apply nf_cons | exact nf_v | exact nf_sl | exact nf_osl | exact nf_ptr | exact nf_fp | exact nf_mp | exact nf_fn | exact nf_ifc | exact nf_it | exact nf_mb | exact rfl))) | exact nf_v | exact nf_sl | exact nf_osl | exact nf_ptr | exact nf_fp | exact nf_mp | exact nf_fn | exact nf_ifc | exact nf_it | exact nf_mb | exact rfl)) (hd : fits nt (some t) = true := by exact rfl) : LJ P nt ops Q (⟨some t, .load lt x, ty, pos, aft, some (jj, w)⟩ :: rest) fr σ :=
  lj_q hd hj hl hg hn (fun _ R hR => opj_load_ptr rfl hq hx hσ he (hnn ▸ hp) hR) h
theorem j17 {st elem : TypeId} {x y : Operand} {id sz i j m : Nat} {els : List (List AV)} {el cs nel : List AV} {els' : List (List AV)} {a : AV} (h : LJ P nt ops Q rest fr (σ.set id (.row sz elem els'))) (hx : ev fr x = some (.ptr id sz i j) := by exact rfl) (hy : ev fr y = some a := by exact rfl) (hm : sizeIs P st = some m := by exact rfl) (hσ : σ id = some (.row sz elem els) := by first | exact St.set_same _ _ _ | assumption | (repeat' (first | exact St.set_same _ _ _ | assumption | refine St.set_keep (by assumption) ?_ | refine St.set_ne2 (by first | assumption | exact St.nn0 (by assumption) | exact St.nn1 (by assumption) | exact St.nn2 (by assumption) | exact St.nn3 (by assumption) | exact St.nn4 (by assumption) | exact St.nn5 (by assumption) | exact St.nn6 (by assumption) | exact St.nn7 (by assumption) | exact St.nn8 (by assumption) | exact St.nn9 (by assumption) | exact St.nn10 (by assumption) | exact St.nn11 (by assumption) | exact St.nn12 (by assumption) | exact St.nn13 (by assumption) | exact Ne.symm (St.nn0 (by assumption)) | exact Ne.symm (St.nn1 (by assumption)) | exact Ne.symm (St.nn2 (by assumption)) | exact Ne.symm (St.nn3 (by assumption)) | exact Ne.symm (St.nn4 (by assumption)) | exact Ne.symm (St.nn5 (by assumption)) | exact Ne.symm (St.nn6 (by assumption)) | exact Ne.symm (St.nn7 (by assumption)) | exact Ne.symm (St.nn8 (by assumption)) | exact Ne.symm (St.nn9 (by assumption)) | exact Ne.symm (St.nn10 (by assumption)) | exact Ne.symm (St.nn11 (by assumption)) | exact Ne.symm (St.nn12 (by assumption)) | exact Ne.symm (St.nn13 (by assumption)) | exact St.ne_ns (by assumption) (by repeat' (first | exact St.sn_of (by assumption) | refine St.setn ?_))) ?_))) (he : els[i]? = some el := by exact rfl) (hc : cellsOf a = some cs := by exact rfl) (hl : cs.length = m := by exact rfl) (hj : Nat.ble (j + cs.length) el.length = true := by exact rfl) (hn1 : el.take j ++ cs ++ el.drop (j + cs.length) = nel := by (repeat' (first | exact nf_nil | apply nf_cons | exact nf_v | exact nf_sl | exact nf_osl | exact nf_ptr | exact nf_fp | exact nf_mp | exact nf_fn | exact nf_ifc | exact nf_it | exact nf_mb | exact rfl))) (hn2 : els.set i nel = els' := by (first | exact nf_set0 | exact rfl)) : LJ P nt ops Q (⟨none, .store st x y, ty, pos, aft, none⟩ :: rest) fr σ := by
  subst hn1
  subst hn2
  exact lj_s (fun R hR => opj_store rfl hm hx hy hσ he hc hl (Nat.le_of_ble_eq_true hj) hR) h
theorem j17t {st elem : TypeId} {x y : Operand} {id sz i j m : Nat} {els : List (List AV)} {el cs nel : List AV} {els' : List (List AV)} {a : AV} (h : LJ P nt ops Q rest fr (σ.set id (.row sz elem els'))) (hx : ev fr x = some (.ptr id sz i j) := by exact rfl) (hy : ev fr y = some a := by exact rfl) (hm : sizeIs P st = some m := by exact rfl) (he : els[i]? = some el := by exact rfl) (hc : cellsOf a = some cs := by exact rfl) (hl : cs.length = m := by exact rfl) (hj : Nat.ble (j + cs.length) el.length = true := by exact rfl) (hn1 : el.take j ++ cs ++ el.drop (j + cs.length) = nel := by (repeat' (first | exact nf_nil | apply nf_cons | exact nf_v | exact nf_sl | exact nf_osl | exact nf_ptr | exact nf_fp | exact nf_mp | exact nf_fn | exact nf_ifc | exact nf_it | exact nf_mb | exact rfl))) (hn2 : els.set i nel = els' := by (first | exact nf_set0 | exact rfl)) : LJ P nt ops Q (⟨none, .store st x y, ty, pos, aft, none⟩ :: rest) fr (σ.set id (.row sz elem els)) := by
  subst hn1
  subst hn2
  rw [← St.set_set σ id (.row sz elem els)] at h
  exact lj_s (fun R hR => opj_store rfl hm hx hy (St.set_same _ _ _) he hc hl (Nat.le_of_ble_eq_true hj) hR) h
/-- A string's byte. -/
theorem j18 {st : TypeId} {x ix : Operand} {s : ByteArray} {kk : IntKind} {n : Int} (h : LJ P nt ops Q rest ((t, .v (.int .u8 (sb s n))) :: fr) σ) (ht : P.underlying st = some .string := by exact rfl) (hx : ev fr x = some (.v (.string s)) := by exact rfl) (hi : ev fr ix = some (.v (.int kk n)) := by exact rfl) (hd : fits nt (some t) = true := by exact rfl) (h0 : 0 ≤ n := by first | omega | (simp (disch := omega) only [w64, sb_bt, Int.toNat_zero, Int.toNat_one]; omega)) (h1 : n < s.size := by first | omega | (simp (disch := omega) only [w64, sb_bt, Int.toNat_zero, Int.toNat_one]; omega)) : LJ P nt ops Q (⟨some t, .index st x ix, ty, pos, aft, none⟩ :: rest) fr σ := lj_v hd (fun R hR => opj_index_str rfl ht hx hi h0 h1 hR) h
theorem j19 {st : TypeId} {x ix : Operand} {s : ByteArray} {kk : IntKind} {n : Int} {j u : Nat} {b : Bool} {a : AV} (h : LJ P nt ops Q rest ((t, .v (.int .u8 (sb s n))) :: fr) σ) (hj : (ops[j]?).bind (·.dst) = some u := by exact rfl) (hl : lk fr u = some a := by exact rfl) (hb : a = .v (.bool b) := by with_reducible rfl) (ht : P.underlying st = some .string := by exact rfl) (hx : ev fr x = some (.v (.string s)) := by exact rfl) (hi : ev fr ix = some (.v (.int kk n)) := by exact rfl) (hd : fits nt (some t) = true := by exact rfl) (h0 : 0 ≤ n := by first | omega | (simp (disch := omega) only [w64, sb_bt, Int.toNat_zero, Int.toNat_one]; omega)) (h1 : n < s.size := by first | omega | (simp (disch := omega) only [w64, sb_bt, Int.toNat_zero, Int.toNat_one]; omega)) : LJ P nt ops Q (⟨some t, .index st x ix, ty, pos, aft, some (j, b)⟩ :: rest) fr σ := lj_vy hd hj (hb ▸ hl) (fun R hR => opj_index_str rfl ht hx hi h0 h1 hR) h
theorem j20 {st : TypeId} {x ix : Operand} {s : ByteArray} {kk : IntKind} {n : Int} {j u : Nat} {w c : Bool} {a : AV} (h : LJ P nt ops Q rest ((t, .mb c (.v (.int .u8 (sb s n)))) :: fr) σ) (hj : (ops[j]?).bind (·.dst) = some u := by exact rfl) (hl : lk fr u = some a := by exact rfl) (hg : gc a w = some c := by exact rfl) (ht : P.underlying st = some .string := by exact rfl) (hx : ev (strip fr) x = some (.v (.string s)) := by exact rfl) (hi : ev (strip fr) ix = some (.v (.int kk n)) := by exact rfl) (hd : fits nt (some t) = true := by exact rfl) (hn : Needs c fr (Op.index st x ix).operands.toList := by repeat' (first | exact True.intro | refine And.intro ?_ ?_ | exact nd0 rfl | exact nd1 rfl | exact nd2 rfl | exact nd3 rfl | exact nd4 rfl)) (h0 : c = true → 0 ≤ n := by intro h; first | omega | (simp only [Bool.and_eq_true, decide_eq_true_eq, Bool.not_eq_true', decide_eq_false_iff_not] at h; omega) | (simp only [Bool.and_eq_true, decide_eq_true_eq, Bool.not_eq_true', decide_eq_false_iff_not] at h; simp (disch := omega) only [w64, sb_bt, Int.toNat_zero, Int.toNat_one] at h ⊢; omega)) (h1 : c = true → n < s.size := by intro h; first | omega | (simp only [Bool.and_eq_true, decide_eq_true_eq, Bool.not_eq_true', decide_eq_false_iff_not] at h; omega) | (simp only [Bool.and_eq_true, decide_eq_true_eq, Bool.not_eq_true', decide_eq_false_iff_not] at h; simp (disch := omega) only [w64, sb_bt, Int.toNat_zero, Int.toNat_one] at h ⊢; omega)) : LJ P nt ops Q (⟨some t, .index st x ix, ty, pos, aft, some (j, w)⟩ :: rest) fr σ :=
  lj_q hd hj hl hg hn (fun hc R hR => opj_index_str rfl ht hx hi (h0 hc) (h1 hc) hR) h
/-- A string's part. -/
theorem j21 {st : TypeId} {x : Operand} {lo hi : Option Operand} {s : ByteArray} {l k : Int} (h : LJ P nt ops Q rest ((t, .v (.string (s.extract l.toNat k.toNat))) :: fr) σ) (ht : P.underlying st = some .string := by exact rfl) (hx : ev fr x = some (.v (.string s)) := by exact rfl) (hlo : bound (ev fr) 0 lo = some l := by exact rfl) (hhi : bound (ev fr) s.size hi = some k := by exact rfl) (hd : fits nt (some t) = true := by exact rfl) (h0 : 0 ≤ l := by first | omega | (simp (disch := omega) only [w64, sb_bt, Int.toNat_zero, Int.toNat_one]; omega)) (h1 : l ≤ k := by first | omega | (simp (disch := omega) only [w64, sb_bt, Int.toNat_zero, Int.toNat_one]; omega)) (h2 : k ≤ s.size := by first | omega | (simp (disch := omega) only [w64, sb_bt, Int.toNat_zero, Int.toNat_one]; omega)) : LJ P nt ops Q (⟨some t, .slice st x lo hi none, ty, pos, aft, none⟩ :: rest) fr σ := lj_v hd (fun R hR => opj_slice_str rfl ht hx hlo hhi h0 h1 h2 hR) h
/-- A walk over a string. -/
theorem j22 {st : TypeId} {x : Operand} {s : ByteArray} (h : ∀ id, σ id = none → LJ P nt ops Q rest ((t, .it id) :: fr) (σ.set id (.siter s 0))) (ht : P.underlying st = some .string := by exact rfl) (hx : ev fr x = some (.v (.string s)) := by exact rfl) (hd : fits nt (some t) = true := by exact rfl) : LJ P nt ops Q (⟨some t, .range st x, ty, pos, aft, none⟩ :: rest) fr σ := lj_f hd (fun R hR => opj_range_str rfl ht hx hR) h
theorem j23 {x : Operand} {id p : Nat} {s : ByteArray} (h : LJ P nt ops Q rest ((t, .tup [.v (.bool true), .v (.int .i64 p), .v (.int .i32 (Utf8.decode s p).1)]) :: fr) (σ.set id (.siter s (p + (Utf8.decode s p).2)))) (hx : ev fr x = some (.it id) := by exact rfl) (hσ : σ id = some (.siter s p) := by first | exact St.set_same _ _ _ | assumption | (repeat' (first | exact St.set_same _ _ _ | assumption | refine St.set_keep (by assumption) ?_ | refine St.set_ne2 (by first | assumption | exact St.nn0 (by assumption) | exact St.nn1 (by assumption) | exact St.nn2 (by assumption) | exact St.nn3 (by assumption) | exact St.nn4 (by assumption) | exact St.nn5 (by assumption) | exact St.nn6 (by assumption) | exact St.nn7 (by assumption) | exact St.nn8 (by assumption) | exact St.nn9 (by assumption) | exact St.nn10 (by assumption) | exact St.nn11 (by assumption) | exact St.nn12 (by assumption) | exact St.nn13 (by assumption) | exact Ne.symm (St.nn0 (by assumption)) | exact Ne.symm (St.nn1 (by assumption)) | exact Ne.symm (St.nn2 (by assumption)) | exact Ne.symm (St.nn3 (by assumption)) | exact Ne.symm (St.nn4 (by assumption)) | exact Ne.symm (St.nn5 (by assumption)) | exact Ne.symm (St.nn6 (by assumption)) | exact Ne.symm (St.nn7 (by assumption)) | exact Ne.symm (St.nn8 (by assumption)) | exact Ne.symm (St.nn9 (by assumption)) | exact Ne.symm (St.nn10 (by assumption)) | exact Ne.symm (St.nn11 (by assumption)) | exact Ne.symm (St.nn12 (by assumption)) | exact Ne.symm (St.nn13 (by assumption)) | exact St.ne_ns (by assumption) (by repeat' (first | exact St.sn_of (by assumption) | refine St.setn ?_))) ?_))) (hp : p < s.size := by omega) (hd : fits nt (some t) = true := by exact rfl) : LJ P nt ops Q (⟨some t, .next x true, ty, pos, aft, none⟩ :: rest) fr σ := lj_w hd (fun R hR => opj_next_more rfl hx hσ hp hR) h
theorem j24 {x : Operand} {id p : Nat} {s : ByteArray} (h : LJ P nt ops Q rest ((t, .tup [.v (.bool false)]) :: fr) σ) (hx : ev fr x = some (.it id) := by exact rfl) (hσ : σ id = some (.siter s p) := by first | exact St.set_same _ _ _ | assumption | (repeat' (first | exact St.set_same _ _ _ | assumption | refine St.set_keep (by assumption) ?_ | refine St.set_ne2 (by first | assumption | exact St.nn0 (by assumption) | exact St.nn1 (by assumption) | exact St.nn2 (by assumption) | exact St.nn3 (by assumption) | exact St.nn4 (by assumption) | exact St.nn5 (by assumption) | exact St.nn6 (by assumption) | exact St.nn7 (by assumption) | exact St.nn8 (by assumption) | exact St.nn9 (by assumption) | exact St.nn10 (by assumption) | exact St.nn11 (by assumption) | exact St.nn12 (by assumption) | exact St.nn13 (by assumption) | exact Ne.symm (St.nn0 (by assumption)) | exact Ne.symm (St.nn1 (by assumption)) | exact Ne.symm (St.nn2 (by assumption)) | exact Ne.symm (St.nn3 (by assumption)) | exact Ne.symm (St.nn4 (by assumption)) | exact Ne.symm (St.nn5 (by assumption)) | exact Ne.symm (St.nn6 (by assumption)) | exact Ne.symm (St.nn7 (by assumption)) | exact Ne.symm (St.nn8 (by assumption)) | exact Ne.symm (St.nn9 (by assumption)) | exact Ne.symm (St.nn10 (by assumption)) | exact Ne.symm (St.nn11 (by assumption)) | exact Ne.symm (St.nn12 (by assumption)) | exact Ne.symm (St.nn13 (by assumption)) | exact St.ne_ns (by assumption) (by repeat' (first | exact St.sn_of (by assumption) | refine St.setn ?_))) ?_))) (hp : s.size ≤ p := by omega) (hd : fits nt (some t) = true := by exact rfl) : LJ P nt ops Q (⟨some t, .next x true, ty, pos, aft, none⟩ :: rest) fr σ := lj_v hd (fun R hR => opj_next_over rfl hx hσ hp hR) h
theorem bsz (l : List UInt8) : ByteArray.size ⟨l.toArray⟩ = l.length := List.size_toArray
/-- Two strings made one; bytes made a string. -/
theorem j25 {x y : Operand} {a b : ByteArray} {t1 t2 : TypeId} (h : LJ P nt ops Q rest ((t, .v (.string (a ++ b))) :: fr) σ) (hx : ev fr x = some (.v (.string a)) := by exact rfl) (hy : ev fr y = some (.v (.string b)) := by exact rfl) (hd : fits nt (some t) = true := by exact rfl) (hb : a.size + b.size ≤ 9223372036854775807 := by (first | omega | (simp only [bsz, ByteArray.size_append, List.length_cons, List.length_nil, List.length_append, Nat.reduceAdd]; omega) | (simp only [bsz, ByteArray.size_append, List.length_cons, List.length_nil, List.length_append, Nat.reduceAdd] at *; omega))) : LJ P nt ops Q (⟨some t, .binOp .add t1 x y t2, ty, pos, aft, none⟩ :: rest) fr σ := lj_v hd (fun R hR => opj_concat rfl hx hy hb hR) h
theorem j26 {s d et : TypeId} {x : Operand} {a : AV} {l : List UInt8} (h : LJ P nt ops Q rest ((t, .v (.string ⟨l.toArray⟩)) :: fr) σ) (hs : P.underlying s = some (.slice et) := by exact rfl) (he : P.underlying et = some (.int .u8) := by exact rfl) (hdd : P.underlying d = some .string := by exact rfl) (hx : ev fr x = some a := by exact rfl) (hsrc : srcOf σ a = some (1, bys l) := by exact rfl) (hd : fits nt (some t) = true := by exact rfl) : LJ P nt ops Q (⟨some t, .convert s d x, ty, pos, aft, none⟩ :: rest) fr σ := lj_v hd (fun R hR => opj_conv_bytes rfl hs he hdd hx hsrc hR) h
/-- A call. -/
theorem jp {f : FuncId} {xs : Array Operand} {ts : Array TypeId} {as : List AV} {r : AV} (hp : Pure P f as r) (h : LJ P nt ops Q rest ((t, r) :: fr) σ) (has : evs fr xs.toList = some as := by exact rfl) (hent : entered P f = true := by exact rfl) (hd : fits nt (some t) = true := by exact rfl) : LJ P nt ops Q (⟨some t, .call { callee := .value (.func f), args := xs, argTypes := ts }, ty, pos, aft, none⟩ :: rest) fr σ := lj_pure hd has hent hp h
theorem jpy {j u : Nat} {b : Bool} {a : AV} {f : FuncId} {xs : Array Operand} {ts : Array TypeId} {as : List AV} {r : AV} (hp : Pure P f as r) (h : LJ P nt ops Q rest ((t, r) :: fr) σ) (hj : (ops[j]?).bind (·.dst) = some u := by exact rfl) (hl : lk fr u = some a := by exact rfl) (hb : a = .v (.bool b) := by with_reducible rfl) (has : evs fr xs.toList = some as := by exact rfl) (hent : entered P f = true := by exact rfl) (hd : fits nt (some t) = true := by exact rfl) : LJ P nt ops Q (⟨some t, .call { callee := .value (.func f), args := xs, argTypes := ts }, ty, pos, aft, some (j, b)⟩ :: rest) fr σ := lj_purey hd hj (hb ▸ hl) has hent hp h
/-- A call under a guard that is not known. -/
theorem jcq {j u : Nat} {w c : Bool} {a : AV} {f : FuncId} {xs : Array Operand} {ts : Array TypeId} {as : List AV} {r : AV} (h : LJ P nt ops Q rest ((t, .mb c r) :: fr) σ) (hj : (ops[j]?).bind (·.dst) = some u := by exact rfl) (hl : lk fr u = some a := by exact rfl) (hg : gc a w = some c := by exact rfl) (has : evs (strip fr) xs.toList = some as := by exact rfl) (hent : entered P f = true := by exact rfl) (hd : fits nt (some t) = true := by exact rfl)
    (hn : Needs c fr (Op.call { callee := .value (.func f), args := xs, argTypes := ts }).operands.toList := by repeat' (first | exact True.intro | refine And.intro ?_ ?_ | exact nd0 rfl | exact nd1 rfl | exact nd2 rfl | exact nd3 rfl | exact nd4 rfl)) (hp : c = true → Pure P f as r) : LJ P nt ops Q (⟨some t, .call { callee := .value (.func f), args := xs, argTypes := ts }, ty, pos, aft, some (j, w)⟩ :: rest) fr σ := fun k a' hσ hk hz hf => by
  have hy := yields_gc hf hj hl hg
  cases c with
  | false =>
    unfold wpList
    rw [if_neg (by simp only [Region.wanted, hy]; simp)]
    exact wpList_mono (fun _ _ _ => conc_step (.refl k) (Act.defers_put ..) (Act.size_put ..)) _ _ _ (h k _ hσ hk ((Act.size_put ..).trans hz) (hf.put (dst := some t) (by rw [hz]; exact hd) (Rep.mb_false rfl)))
  | true =>
    unfold wpList
    rw [if_pos (by simp only [Region.wanted, hy])]
    refine .inl (((OpW.strip (o := ⟨some t, .call { callee := .value (.func f), args := xs, argTypes := ts }, ty, pos, aft, some (j, w)⟩) hn rfl (opw_pure has hent (hp rfl))).mb rfl) k a' _ _ hσ hk (reps_of_fr hf _) fun k' v r' h1 h2 ⟨h3, h3'⟩ h4 => ?_)
    subst h3
    exact wpList_mono (fun _ _ _ => conc_step h2 (Act.defers_put ..) (Act.size_put ..)) _ _ _ (h k' _ h3' h1 ((Act.size_put ..).trans hz) ((hf.step h2).put (dst := some t) (by rw [hz]; exact hd) h4))
/-- What is handed back stands in variables of our own. -/
theorem n14 {rs : List ResultVar} {R : AEnd → St → Prop} {u : Nat} {cty : TypeId} {a : AV} {id sz i j : Nat} {elem : TypeId} {els : List (List AV)} {el : List AV} {q : Option Nat} (hR : R (.ret (packed [a])) σ) (hrs : rs = [.cell u cty] := by exact rfl) (hl : lk fr u = some (.ptr id sz i j) := by exact rfl) (hq : shapeOf P cty = some q := by exact rfl) (hσ : σ id = some (.row sz elem els) := by first | exact St.set_same _ _ _ | assumption | (repeat' (first | exact St.set_same _ _ _ | assumption | refine St.set_keep (by assumption) ?_ | refine St.set_ne2 (by first | assumption | exact St.nn0 (by assumption) | exact St.nn1 (by assumption) | exact St.nn2 (by assumption) | exact St.nn3 (by assumption) | exact St.nn4 (by assumption) | exact St.nn5 (by assumption) | exact St.nn6 (by assumption) | exact St.nn7 (by assumption) | exact St.nn8 (by assumption) | exact St.nn9 (by assumption) | exact St.nn10 (by assumption) | exact St.nn11 (by assumption) | exact St.nn12 (by assumption) | exact St.nn13 (by assumption) | exact Ne.symm (St.nn0 (by assumption)) | exact Ne.symm (St.nn1 (by assumption)) | exact Ne.symm (St.nn2 (by assumption)) | exact Ne.symm (St.nn3 (by assumption)) | exact Ne.symm (St.nn4 (by assumption)) | exact Ne.symm (St.nn5 (by assumption)) | exact Ne.symm (St.nn6 (by assumption)) | exact Ne.symm (St.nn7 (by assumption)) | exact Ne.symm (St.nn8 (by assumption)) | exact Ne.symm (St.nn9 (by assumption)) | exact Ne.symm (St.nn10 (by assumption)) | exact Ne.symm (St.nn11 (by assumption)) | exact Ne.symm (St.nn12 (by assumption)) | exact Ne.symm (St.nn13 (by assumption)) | exact St.ne_ns (by assumption) (by repeat' (first | exact St.sn_of (by assumption) | refine St.setn ?_))) ?_))) (he : els[i]? = some el := by exact rfl) (hp : load? (el.drop j) q = some a := by exact rfl) : endR P rs R .ret fr σ := nx_endC [a] (hrs ▸ ⟨a, _, id, sz, i, j, elem, els, el, q, rfl, hl, hσ, he, hq, hp, rfl⟩) hR
theorem n15 {rs : List ResultVar} {R : AEnd → St → Prop} {u : Nat} {cty : TypeId} {a : AV} {id sz i j : Nat} {elem : TypeId} {els : List (List AV)} {el : List AV} {q : Option Nat} {v : Nat} {b : AV} (hR : R (.ret (packed [a, b])) σ) (hrs : rs = [.cell u cty, .tmp v] := by exact rfl) (hl : lk fr u = some (.ptr id sz i j) := by exact rfl) (hq : shapeOf P cty = some q := by exact rfl) (hσ : σ id = some (.row sz elem els) := by first | exact St.set_same _ _ _ | assumption | (repeat' (first | exact St.set_same _ _ _ | assumption | refine St.set_keep (by assumption) ?_ | refine St.set_ne2 (by first | assumption | exact St.nn0 (by assumption) | exact St.nn1 (by assumption) | exact St.nn2 (by assumption) | exact St.nn3 (by assumption) | exact St.nn4 (by assumption) | exact St.nn5 (by assumption) | exact St.nn6 (by assumption) | exact St.nn7 (by assumption) | exact St.nn8 (by assumption) | exact St.nn9 (by assumption) | exact St.nn10 (by assumption) | exact St.nn11 (by assumption) | exact St.nn12 (by assumption) | exact St.nn13 (by assumption) | exact Ne.symm (St.nn0 (by assumption)) | exact Ne.symm (St.nn1 (by assumption)) | exact Ne.symm (St.nn2 (by assumption)) | exact Ne.symm (St.nn3 (by assumption)) | exact Ne.symm (St.nn4 (by assumption)) | exact Ne.symm (St.nn5 (by assumption)) | exact Ne.symm (St.nn6 (by assumption)) | exact Ne.symm (St.nn7 (by assumption)) | exact Ne.symm (St.nn8 (by assumption)) | exact Ne.symm (St.nn9 (by assumption)) | exact Ne.symm (St.nn10 (by assumption)) | exact Ne.symm (St.nn11 (by assumption)) | exact Ne.symm (St.nn12 (by assumption)) | exact Ne.symm (St.nn13 (by assumption)) | exact St.ne_ns (by assumption) (by repeat' (first | exact St.sn_of (by assumption) | refine St.setn ?_))) ?_))) (he : els[i]? = some el := by exact rfl) (hp : load? (el.drop j) q = some a := by exact rfl) (hb : lk fr v = some b := by exact rfl) : endR P rs R .ret fr σ := nx_endC [a, b] (hrs ▸ ⟨a, _, id, sz, i, j, elem, els, el, q, rfl, hl, hσ, he, hq, hp, b, _, rfl, hb, rfl⟩) hR
theorem n16 {rs : List ResultVar} {R : AEnd → St → Prop} {u : Nat} {cty : TypeId} {a : AV} {id sz i j : Nat} {elem : TypeId} {els : List (List AV)} {el : List AV} {q : Option Nat} {v w : Nat} {b c : AV} (hR : R (.ret (packed [a, b, c])) σ) (hrs : rs = [.cell u cty, .tmp v, .tmp w] := by exact rfl) (hl : lk fr u = some (.ptr id sz i j) := by exact rfl) (hq : shapeOf P cty = some q := by exact rfl) (hσ : σ id = some (.row sz elem els) := by first | exact St.set_same _ _ _ | assumption | (repeat' (first | exact St.set_same _ _ _ | assumption | refine St.set_keep (by assumption) ?_ | refine St.set_ne2 (by first | assumption | exact St.nn0 (by assumption) | exact St.nn1 (by assumption) | exact St.nn2 (by assumption) | exact St.nn3 (by assumption) | exact St.nn4 (by assumption) | exact St.nn5 (by assumption) | exact St.nn6 (by assumption) | exact St.nn7 (by assumption) | exact St.nn8 (by assumption) | exact St.nn9 (by assumption) | exact St.nn10 (by assumption) | exact St.nn11 (by assumption) | exact St.nn12 (by assumption) | exact St.nn13 (by assumption) | exact Ne.symm (St.nn0 (by assumption)) | exact Ne.symm (St.nn1 (by assumption)) | exact Ne.symm (St.nn2 (by assumption)) | exact Ne.symm (St.nn3 (by assumption)) | exact Ne.symm (St.nn4 (by assumption)) | exact Ne.symm (St.nn5 (by assumption)) | exact Ne.symm (St.nn6 (by assumption)) | exact Ne.symm (St.nn7 (by assumption)) | exact Ne.symm (St.nn8 (by assumption)) | exact Ne.symm (St.nn9 (by assumption)) | exact Ne.symm (St.nn10 (by assumption)) | exact Ne.symm (St.nn11 (by assumption)) | exact Ne.symm (St.nn12 (by assumption)) | exact Ne.symm (St.nn13 (by assumption)) | exact St.ne_ns (by assumption) (by repeat' (first | exact St.sn_of (by assumption) | refine St.setn ?_))) ?_))) (he : els[i]? = some el := by exact rfl) (hp : load? (el.drop j) q = some a := by exact rfl) (hb : lk fr v = some b := by exact rfl) (hc : lk fr w = some c := by exact rfl) : endR P rs R .ret fr σ := nx_endC [a, b, c] (hrs ▸ ⟨a, _, id, sz, i, j, elem, els, el, q, rfl, hl, hσ, he, hq, hp, b, _, rfl, hb, c, _, rfl, hc, rfl⟩) hR
/-- A loop of at most n rounds, round by round. -/
def CJR (P : Program) (nt : Nat) (c : Code) (Q : Post) : Nat → Fr → St → Prop
  | 0, _, _ => False
  | n + 1, fr, σ => CJ P nt c (thn Q (CJR P nt c Q n)) fr σ
theorem cj_rounds {c : Code} (n : Nat) (h : CJR P nt c Q n fr σ) : CJ P nt (.loop c) Q fr σ := fun k a hσ hk hz hf => by
  refine wp_loop_rounds n ?_
  have key : ∀ (n : Nat) (k' : Cx) (a' : Act) (fr' : Fr), CJR P nt c Q n fr' k'.σ → Ok k' → a'.tmps.size = nt → FrOk k' fr' a'.tmps → Step k k' → a'.defers = a.defers → Code.rounds P c (conc k a Q) n a' k'.w := by
    intro n
    induction n with
    | zero => intro k' a' fr' h; exact h.elim
    | succ n ih =>
      intro k' a' fr' h hok hz' hf' hst hd
      refine Code.wp_mono (fun e a'' w'' hc => ?_) (h k' a' rfl hok hz' hf')
      obtain ⟨g1, g2, k'', e', fr'', rfl, hok', hst', hfr', he, hq⟩ := hc
      have he0 := he
      cases e' <;> cases e <;> simp only [ExitOk] at he <;> simp only [thn] at hq
      case normal.normal => exact ih k'' a'' fr'' hq hok' (g2.trans hz') hfr' (hst.trans hst') (g1.trans hd)
      all_goals exact ⟨g1.trans hd, g2.trans (hz'.trans hz.symm), k'', _, fr'', rfl, hok', hst.trans hst', hfr', he0, hq⟩
  subst hσ
  exact key n k a fr h hk hz hf (.refl k) rfl
theorem cj_unroll {c : Code} (n : Nat) (h : CJ P nt c (thn Q (CJR P nt c Q n)) fr σ) : CJ P nt (.loop c) Q fr σ := cj_rounds (n + 1) h
theorem n13 {c : Code} {n : Nat} (h : CJ P nt c (thn Q (CJR P nt c Q n)) fr σ) : thn Q2 (CJR P nt c Q (n + 1)) .normal fr σ := h
end
end Go.Proofs.YtbpoeggmpjepfaaDoor.Ab

/- Abstract values over the model's memory: the steps of regions that draw their order, under short names. -/
set_option linter.unusedVariables false
set_option linter.unusedSimpArgs false
set_option maxRecDepth 20000
namespace Go.Proofs.YtbpoeggmpjepfaaDoor.Ab
open Go
section
variable {P : Program} {l : List Oper} {c : List (List Nat)} {m nt : Nat} {σ σ0 σ1 : St} {K : Fr → Prop} {i : Nat} {fr : Fr} {rest : List Oper} {t : Tmp} {op : Op} {ty : TypeId} {pos : String} {aft : Array Edge} {av : AV}
theorem dl (h : DJ P l c m σ0 σ1 K i rest fr) : DJ P l c m σ0 σ1 K i rest fr := h
/-- A region that draws its order, and writes nothing. -/
theorem cq {id : Nat} {Q : Post} (h : DJ P l c 999 σ σ (fun fr' => Q .normal fr' σ) 0 l fr) (hmix : P.follows .mixedOrders = true := by kernel_rfl) (hc : clo l [] = c := by exact rfl) (hp : planB l nt c = true := by kernel_rfl) : CJ P nt (.region id l.toArray true) Q fr σ := cj_drawn hmix 999 _ hc hp (.inr rfl) h
theorem d4 (h : K fr) (hi : Nat.beq i l.length = true := by exact rfl) : DJ P l c m σ0 σ1 K i [] fr := dj_nil hi h
theorem dj_store (h : ∀ (σ : St) (R : Option AV → St → Prop), R (some av) σ → OpJ P ⟨some t, op, ty, pos, aft, none⟩ (ev fr) σ R) (him : Nat.beq i m = false) (hk : DJ P l c m σ0 σ1 K (i + 1) rest ((t, av) :: fr)) : DJ P l c m σ0 σ1 K i (⟨some t, op, ty, pos, aft, none⟩ :: rest) fr := dj_v him (h σ0) (h σ1) hk
theorem dj_storey {j u : Nat} {b : Bool} (h : ∀ (σ : St) (R : Option AV → St → Prop), R (some av) σ → OpJ P ⟨some t, op, ty, pos, aft, some (j, b)⟩ (ev fr) σ R) (him : Nat.beq i m = false) (hj : dstOf l j = some u) (hl : lk fr u = some (.v (.bool b))) (hk : DJ P l c m σ0 σ1 K (i + 1) rest ((t, av) :: fr)) : DJ P l c m σ0 σ1 K i (⟨some t, op, ty, pos, aft, some (j, b)⟩ :: rest) fr := dj_vy him hj hl (h σ0) (h σ1) hk
theorem dbd {bt : TypeId} {parts : Array (Nat × Operand)} {av0 : AV} (h : DJ P l c m σ0 σ1 K (i + 1) rest ((t, av) :: fr)) (him : Nat.beq i m = false := by exact rfl) (hv : valOp P fr (.build bt parts) = some av0 := by exact rfl) (hn : av0 = av := by (first | (apply nf_agg; (repeat' (first | exact nf_nil | apply nf_cons | exact nf_v | exact nf_sl | exact nf_osl | exact nf_ptr | exact nf_fp | exact nf_mp | exact nf_fn | exact nf_ifc | exact nf_it | exact nf_mb | exact rfl))) | exact nf_v | exact nf_sl | exact nf_osl | exact nf_ptr | exact nf_fp | exact nf_mp | exact nf_fn | exact nf_ifc | exact nf_it | exact nf_mb | exact rfl)) : DJ P l c m σ0 σ1 K i (⟨some t, .build bt parts, ty, pos, aft, none⟩ :: rest) fr := dj_auto him (hn ▸ hv) h
theorem dbl {lt : TypeId} {x : Operand} {av0 : AV} (h : DJ P l c m σ0 σ1 K (i + 1) rest ((t, av) :: fr)) (him : Nat.beq i m = false := by exact rfl) (hv : valOp P fr (.load lt x) = some av0 := by exact rfl) (hn : av0 = av := by (first | (apply nf_agg; (repeat' (first | exact nf_nil | apply nf_cons | exact nf_v | exact nf_sl | exact nf_osl | exact nf_ptr | exact nf_fp | exact nf_mp | exact nf_fn | exact nf_ifc | exact nf_it | exact nf_mb | exact rfl))) | exact nf_v | exact nf_sl | exact nf_osl | exact nf_ptr | exact nf_fp | exact nf_mp | exact nf_fn | exact nf_ifc | exact nf_it | exact nf_mb | exact rfl)) : DJ P l c m σ0 σ1 K i (⟨some t, .load lt x, ty, pos, aft, none⟩ :: rest) fr := dj_auto him (hn ▸ hv) h
theorem d1 (h : DJ P l c m σ0 σ1 K (i + 1) rest ((t, av) :: fr)) (him : Nat.beq i m = false := by exact rfl) (hv : valOp P fr op = some av := by exact rfl) : DJ P l c m σ0 σ1 K i (⟨some t, op, ty, pos, aft, none⟩ :: rest) fr := dj_auto him hv h
theorem d2 {j u : Nat} {b : Bool} {a : AV} (h : DJ P l c m σ0 σ1 K (i + 1) rest ((t, av) :: fr)) (him : Nat.beq i m = false := by exact rfl) (hj : dstOf l j = some u := by exact rfl) (hl : lk fr u = some a := by exact rfl) (hb : a = .v (.bool b) := by with_reducible rfl) (hv : valOp P fr op = some av := by exact rfl) : DJ P l c m σ0 σ1 K i (⟨some t, op, ty, pos, aft, some (j, b)⟩ :: rest) fr := dj_autoy him hj (hb ▸ hl) hv h
theorem d3 {j u : Nat} {a : AV} (h : DJ P l c m σ0 σ1 K (i + 1) rest ((t, .tup []) :: fr)) (him : Nat.beq i m = false := by exact rfl) (hj : dstOf l j = some u := by exact rfl) (hl : lk fr u = some a := by exact rfl) (hb : a = .v (.bool false) := by with_reducible rfl) : DJ P l c m σ0 σ1 K i (⟨some t, op, ty, pos, aft, some (j, true)⟩ :: rest) fr := dj_n (dst := some t) him hj (hb ▸ hl) rfl h
theorem d3f {j u : Nat} {a : AV} (h : DJ P l c m σ0 σ1 K (i + 1) rest ((t, .tup []) :: fr)) (him : Nat.beq i m = false := by exact rfl) (hj : dstOf l j = some u := by exact rfl) (hl : lk fr u = some a := by exact rfl) (hb : a = .v (.bool true) := by with_reducible rfl) : DJ P l c m σ0 σ1 K i (⟨some t, op, ty, pos, aft, some (j, false)⟩ :: rest) fr := dj_n (dst := some t) him hj (hb ▸ hl) rfl h
theorem d7 {x y z : Operand} {b vy : Bool} (h : DJ P l c m σ0 σ1 K (i + 1) rest ((t, .v (.bool (b || vy))) :: fr)) (him : Nat.beq i m = false := by exact rfl) (hc : ev fr x = some (.v (.bool b)) := by exact rfl) (hx : ev fr y = some (.v (.bool true)) := by exact rfl) (hy : ev fr z = some (.mb (!b) (.v (.bool vy))) := by exact rfl) : DJ P l c m σ0 σ1 K i (⟨some t, .pick x y z, ty, pos, aft, none⟩ :: rest) fr := dj_store (fun _ R hR => opj_or rfl hc hx hy hR) him h
theorem d8 {x y z : Operand} {b vy : Bool} (h : DJ P l c m σ0 σ1 K (i + 1) rest ((t, .v (.bool (b && vy))) :: fr)) (him : Nat.beq i m = false := by exact rfl) (hc : ev fr x = some (.v (.bool b)) := by exact rfl) (hx : ev fr y = some (.mb b (.v (.bool vy))) := by exact rfl) (hy : ev fr z = some (.v (.bool false)) := by exact rfl) : DJ P l c m σ0 σ1 K i (⟨some t, .pick x y z, ty, pos, aft, none⟩ :: rest) fr := dj_store (fun _ R hR => opj_and rfl hc hx hy hR) him h
theorem d9 {j u : Nat} {w cc : Bool} {a : AV} (h : DJ P l c m σ0 σ1 K (i + 1) rest ((t, .mb cc av) :: fr)) (him : Nat.beq i m = false := by exact rfl) (hj : dstOf l j = some u := by exact rfl) (hl : lk fr u = some a := by exact rfl) (hg : gc a w = some cc := by exact rfl) (hv : valOp P (strip fr) op = some av := by exact rfl) (hn : Needs cc fr op.operands.toList := by repeat' (first | exact True.intro | refine And.intro ?_ ?_ | exact nd0 rfl | exact nd1 rfl | exact nd2 rfl | exact nd3 rfl | exact nd4 rfl)) : DJ P l c m σ0 σ1 K i (⟨some t, op, ty, pos, aft, some (j, w)⟩ :: rest) fr := dj_q him hj hl hg hn (fun _ R hR => opj_valOp hv hR) (fun _ R hR => opj_valOp hv hR) h
theorem d10 {j u : Nat} {w cc : Bool} {a : AV} {x y z : Operand} {b vy : Bool} (h : DJ P l c m σ0 σ1 K (i + 1) rest ((t, .mb cc (.v (.bool (b || vy)))) :: fr)) (him : Nat.beq i m = false := by exact rfl) (hj : dstOf l j = some u := by exact rfl) (hl : lk fr u = some a := by exact rfl) (hg : gc a w = some cc := by exact rfl) (hc : ev fr x = some (.mb cc (.v (.bool b))) := by exact rfl) (hx : ev fr y = some (.v (.bool true)) := by exact rfl) (hy : ev fr z = some (.mb (cc && !b) (.v (.bool vy))) := by exact rfl) : DJ P l c m σ0 σ1 K i (⟨some t, .pick x y z, ty, pos, aft, some (j, w)⟩ :: rest) fr := dj_q0 him hj hl hg (fun h σ R hR => opj_orq rfl hc hx hy h hR) h
theorem d11 {j u : Nat} {w cc : Bool} {a : AV} {x y z : Operand} {b vy : Bool} (h : DJ P l c m σ0 σ1 K (i + 1) rest ((t, .mb cc (.v (.bool (b && vy)))) :: fr)) (him : Nat.beq i m = false := by exact rfl) (hj : dstOf l j = some u := by exact rfl) (hl : lk fr u = some a := by exact rfl) (hg : gc a w = some cc := by exact rfl) (hc : ev fr x = some (.mb cc (.v (.bool b))) := by exact rfl) (hx : ev fr y = some (.mb (cc && b) (.v (.bool vy))) := by exact rfl) (hy : ev fr z = some (.v (.bool false)) := by exact rfl) : DJ P l c m σ0 σ1 K i (⟨some t, .pick x y z, ty, pos, aft, some (j, w)⟩ :: rest) fr := dj_q0 him hj hl hg (fun h σ R hR => opj_andq rfl hc hx hy h hR) h
theorem d14 {lt : TypeId} {x : Operand} {q : Option Nat} {id sz ii jj : Nat} {elem elem' : TypeId} {els els' : List (List AV)} {el el' : List AV} {av0 av1 : AV} (h : DJ P l c m σ0 σ1 K (i + 1) rest ((t, av) :: fr)) (him : Nat.beq i m = false := by exact rfl) (hx : ev fr x = some (.ptr id sz ii jj) := by exact rfl) (hq : shapeOf P lt = some q := by exact rfl) (hσ : σ0 id = some (.row sz elem els) := by first | exact St.set_same _ _ _ | assumption | (repeat' (first | exact St.set_same _ _ _ | assumption | refine St.set_keep (by assumption) ?_ | refine St.set_ne2 (by first | assumption | exact St.nn0 (by assumption) | exact St.nn1 (by assumption) | exact St.nn2 (by assumption) | exact St.nn3 (by assumption) | exact St.nn4 (by assumption) | exact St.nn5 (by assumption) | exact St.nn6 (by assumption) | exact St.nn7 (by assumption) | exact St.nn8 (by assumption) | exact St.nn9 (by assumption) | exact St.nn10 (by assumption) | exact St.nn11 (by assumption) | exact St.nn12 (by assumption) | exact St.nn13 (by assumption) | exact Ne.symm (St.nn0 (by assumption)) | exact Ne.symm (St.nn1 (by assumption)) | exact Ne.symm (St.nn2 (by assumption)) | exact Ne.symm (St.nn3 (by assumption)) | exact Ne.symm (St.nn4 (by assumption)) | exact Ne.symm (St.nn5 (by assumption)) | exact Ne.symm (St.nn6 (by assumption)) | exact Ne.symm (St.nn7 (by assumption)) | exact Ne.symm (St.nn8 (by assumption)) | exact Ne.symm (St.nn9 (by assumption)) | exact Ne.symm (St.nn10 (by assumption)) | exact Ne.symm (St.nn11 (by assumption)) | exact Ne.symm (St.nn12 (by assumption)) | exact Ne.symm (St.nn13 (by assumption)) | exact St.ne_ns (by assumption) (by repeat' (first | exact St.sn_of (by assumption) | refine St.setn ?_))) ?_))) (he : els[ii]? = some el := by exact rfl) (hp : load? (el.drop jj) q = some av0 := by exact rfl) (hnn : av0 = av := by (first | (apply nf_agg; (repeat' (first | exact nf_nil | apply nf_cons | exact nf_v | exact nf_sl | exact nf_osl | exact nf_ptr | exact nf_fp | exact nf_mp | exact nf_fn | exact nf_ifc | exact nf_it | exact nf_mb | exact rfl))) | exact nf_v | exact nf_sl | exact nf_osl | exact nf_ptr | exact nf_fp | exact nf_mp | exact nf_fn | exact nf_ifc | exact nf_it | exact nf_mb | exact rfl)) (hσ' : σ1 id = some (.row sz elem' els') := by first | exact St.set_same _ _ _ | assumption | (repeat' (first | exact St.set_same _ _ _ | assumption | refine St.set_keep (by assumption) ?_ | refine St.set_ne2 (by first | assumption | exact St.nn0 (by assumption) | exact St.nn1 (by assumption) | exact St.nn2 (by assumption) | exact St.nn3 (by assumption) | exact St.nn4 (by assumption) | exact St.nn5 (by assumption) | exact St.nn6 (by assumption) | exact St.nn7 (by assumption) | exact St.nn8 (by assumption) | exact St.nn9 (by assumption) | exact St.nn10 (by assumption) | exact St.nn11 (by assumption) | exact St.nn12 (by assumption) | exact St.nn13 (by assumption) | exact Ne.symm (St.nn0 (by assumption)) | exact Ne.symm (St.nn1 (by assumption)) | exact Ne.symm (St.nn2 (by assumption)) | exact Ne.symm (St.nn3 (by assumption)) | exact Ne.symm (St.nn4 (by assumption)) | exact Ne.symm (St.nn5 (by assumption)) | exact Ne.symm (St.nn6 (by assumption)) | exact Ne.symm (St.nn7 (by assumption)) | exact Ne.symm (St.nn8 (by assumption)) | exact Ne.symm (St.nn9 (by assumption)) | exact Ne.symm (St.nn10 (by assumption)) | exact Ne.symm (St.nn11 (by assumption)) | exact Ne.symm (St.nn12 (by assumption)) | exact Ne.symm (St.nn13 (by assumption)) | exact St.ne_ns (by assumption) (by repeat' (first | exact St.sn_of (by assumption) | refine St.setn ?_))) ?_))) (he' : els'[ii]? = some el' := by exact rfl) (hp' : load? (el'.drop jj) q = some av1 := by exact rfl) (hnn' : av1 = av := by (first | (apply nf_agg; (repeat' (first | exact nf_nil | apply nf_cons | exact nf_v | exact nf_sl | exact nf_osl | exact nf_ptr | exact nf_fp | exact nf_mp | exact nf_fn | exact nf_ifc | exact nf_it | exact nf_mb | exact rfl))) | exact nf_v | exact nf_sl | exact nf_osl | exact nf_ptr | exact nf_fp | exact nf_mp | exact nf_fn | exact nf_ifc | exact nf_it | exact nf_mb | exact rfl)) : DJ P l c m σ0 σ1 K i (⟨some t, .load lt x, ty, pos, aft, none⟩ :: rest) fr := dj_v him (fun R hR => opj_load_ptr rfl hq hx hσ he (hnn ▸ hp) hR) (fun R hR => opj_load_ptr rfl hq hx hσ' he' (hnn' ▸ hp') hR) h
theorem d15 {lt : TypeId} {x : Operand} {q : Option Nat} {id sz ii jj : Nat} {elem elem' : TypeId} {els els' : List (List AV)} {el el' : List AV} {av0 av1 : AV} {j u : Nat} {b : Bool} {a : AV} (h : DJ P l c m σ0 σ1 K (i + 1) rest ((t, av) :: fr)) (him : Nat.beq i m = false := by exact rfl) (hj : dstOf l j = some u := by exact rfl) (hl : lk fr u = some a := by exact rfl) (hb : a = .v (.bool b) := by with_reducible rfl) (hx : ev fr x = some (.ptr id sz ii jj) := by exact rfl) (hq : shapeOf P lt = some q := by exact rfl) (hσ : σ0 id = some (.row sz elem els) := by first | exact St.set_same _ _ _ | assumption | (repeat' (first | exact St.set_same _ _ _ | assumption | refine St.set_keep (by assumption) ?_ | refine St.set_ne2 (by first | assumption | exact St.nn0 (by assumption) | exact St.nn1 (by assumption) | exact St.nn2 (by assumption) | exact St.nn3 (by assumption) | exact St.nn4 (by assumption) | exact St.nn5 (by assumption) | exact St.nn6 (by assumption) | exact St.nn7 (by assumption) | exact St.nn8 (by assumption) | exact St.nn9 (by assumption) | exact St.nn10 (by assumption) | exact St.nn11 (by assumption) | exact St.nn12 (by assumption) | exact St.nn13 (by assumption) | exact Ne.symm (St.nn0 (by assumption)) | exact Ne.symm (St.nn1 (by assumption)) | exact Ne.symm (St.nn2 (by assumption)) | exact Ne.symm (St.nn3 (by assumption)) | exact Ne.symm (St.nn4 (by assumption)) | exact Ne.symm (St.nn5 (by assumption)) | exact Ne.symm (St.nn6 (by assumption)) | exact Ne.symm (St.nn7 (by assumption)) | exact Ne.symm (St.nn8 (by assumption)) | exact Ne.symm (St.nn9 (by assumption)) | exact Ne.symm (St.nn10 (by assumption)) | exact Ne.symm (St.nn11 (by assumption)) | exact Ne.symm (St.nn12 (by assumption)) | exact Ne.symm (St.nn13 (by assumption)) | exact St.ne_ns (by assumption) (by repeat' (first | exact St.sn_of (by assumption) | refine St.setn ?_))) ?_))) (he : els[ii]? = some el := by exact rfl) (hp : load? (el.drop jj) q = some av0 := by exact rfl) (hnn : av0 = av := by (first | (apply nf_agg; (repeat' (first | exact nf_nil | apply nf_cons | exact nf_v | exact nf_sl | exact nf_osl | exact nf_ptr | exact nf_fp | exact nf_mp | exact nf_fn | exact nf_ifc | exact nf_it | exact nf_mb | exact rfl))) | exact nf_v | exact nf_sl | exact nf_osl | exact nf_ptr | exact nf_fp | exact nf_mp | exact nf_fn | exact nf_ifc | exact nf_it | exact nf_mb | exact rfl)) (hσ' : σ1 id = some (.row sz elem' els') := by first | exact St.set_same _ _ _ | assumption | (repeat' (first | exact St.set_same _ _ _ | assumption | refine St.set_keep (by assumption) ?_ | refine St.set_ne2 (by first | assumption | exact St.nn0 (by assumption) | exact St.nn1 (by assumption) | exact St.nn2 (by assumption) | exact St.nn3 (by assumption) | exact St.nn4 (by assumption) | exact St.nn5 (by assumption) | exact St.nn6 (by assumption) | exact St.nn7 (by assumption) | exact St.nn8 (by assumption) | exact St.nn9 (by assumption) | exact St.nn10 (by assumption) | exact St.nn11 (by assumption) | exact St.nn12 (by assumption) | exact St.nn13 (by assumption) | exact Ne.symm (St.nn0 (by assumption)) | exact Ne.symm (St.nn1 (by assumption)) | exact Ne.symm (St.nn2 (by assumption)) | exact Ne.symm (St.nn3 (by assumption)) | exact Ne.symm (St.nn4 (by assumption)) | exact Ne.symm (St.nn5 (by assumption)) | exact Ne.symm (St.nn6 (by assumption)) | exact Ne.symm (St.nn7 (by assumption)) | exact Ne.symm (St.nn8 (by assumption)) | exact Ne.symm (St.nn9 (by assumption)) | exact Ne.symm (St.nn10 (by assumption)) | exact Ne.symm (St.nn11 (by assumption)) | exact Ne.symm (St.nn12 (by assumption)) | exact Ne.symm (St.nn13 (by assumption)) | exact St.ne_ns (by assumption) (by repeat' (first | exact St.sn_of (by assumption) | refine St.setn ?_))) ?_))) (he' : els'[ii]? = some el' := by exact rfl) (hp' : load? (el'.drop jj) q = some av1 := by exact rfl) (hnn' : av1 = av := by (first | (apply nf_agg; (repeat' (first | exact nf_nil | apply nf_cons | exact nf_v | exact nf_sl | exact nf_osl | exact nf_ptr | exact nf_fp | exact nf_mp | exact nf_fn | exact nf_ifc | exact nf_it | exact nf_mb | exact rfl))) | exact nf_v | exact nf_sl | exact nf_osl | exact nf_ptr | exact nf_fp | exact nf_mp | exact nf_fn | exact nf_ifc | exact nf_it | exact nf_mb | exact rfl)) : DJ P l c m σ0 σ1 K i (⟨some t, .load lt x, ty, pos, aft, some (j, b)⟩ :: rest) fr := dj_vy him hj (hb ▸ hl) (fun R hR => opj_load_ptr rfl hq hx hσ he (hnn ▸ hp) hR) (fun R hR => opj_load_ptr rfl hq hx hσ' he' (hnn' ▸ hp') hR) h
theorem d16 {lt : TypeId} {x : Operand} {q : Option Nat} {id sz ii jj : Nat} {elem elem' : TypeId} {els els' : List (List AV)} {el el' : List AV} {av0 av1 : AV} {j u : Nat} {w cc : Bool} {a : AV} (h : DJ P l c m σ0 σ1 K (i + 1) rest ((t, .mb cc av) :: fr)) (him : Nat.beq i m = false := by exact rfl) (hj : dstOf l j = some u := by exact rfl) (hl : lk fr u = some a := by exact rfl) (hg : gc a w = some cc := by exact rfl) (hx : ev (strip fr) x = some (.ptr id sz ii jj) := by exact rfl) (hq : shapeOf P lt = some q := by exact rfl) (hσ : σ0 id = some (.row sz elem els) := by first | exact St.set_same _ _ _ | assumption | (repeat' (first | exact St.set_same _ _ _ | assumption | refine St.set_keep (by assumption) ?_ | refine St.set_ne2 (by first | assumption | exact St.nn0 (by assumption) | exact St.nn1 (by assumption) | exact St.nn2 (by assumption) | exact St.nn3 (by assumption) | exact St.nn4 (by assumption) | exact St.nn5 (by assumption) | exact St.nn6 (by assumption) | exact St.nn7 (by assumption) | exact St.nn8 (by assumption) | exact St.nn9 (by assumption) | exact St.nn10 (by assumption) | exact St.nn11 (by assumption) | exact St.nn12 (by assumption) | exact St.nn13 (by assumption) | exact Ne.symm (St.nn0 (by assumption)) | exact Ne.symm (St.nn1 (by assumption)) | exact Ne.symm (St.nn2 (by assumption)) | exact Ne.symm (St.nn3 (by assumption)) | exact Ne.symm (St.nn4 (by assumption)) | exact Ne.symm (St.nn5 (by assumption)) | exact Ne.symm (St.nn6 (by assumption)) | exact Ne.symm (St.nn7 (by assumption)) | exact Ne.symm (St.nn8 (by assumption)) | exact Ne.symm (St.nn9 (by assumption)) | exact Ne.symm (St.nn10 (by assumption)) | exact Ne.symm (St.nn11 (by assumption)) | exact Ne.symm (St.nn12 (by assumption)) | exact Ne.symm (St.nn13 (by assumption)) | exact St.ne_ns (by assumption) (by repeat' (first | exact St.sn_of (by assumption) | refine St.setn ?_))) ?_))) (he : els[ii]? = some el := by exact rfl) (hp : load? (el.drop jj) q = some av0 := by exact rfl) (hnn : av0 = av := by (first | (apply nf_agg; (repeat' (first | exact nf_nil | apply nf_cons | exact nf_v | exact nf_sl | exact nf_osl | exact nf_ptr | exact nf_fp | exact nf_mp | exact nf_fn | exact nf_ifc | exact nf_it | exact nf_mb | exact rfl))) | exact nf_v | exact nf_sl | exact nf_osl | exact nf_ptr | exact nf_fp | exact nf_mp | exact nf_fn | exact nf_ifc | exact nf_it | exact nf_mb | exact rfl)) (hσ' : σ1 id = some (.row sz elem' els') := by first | exact St.set_same _ _ _ | assumption | (repeat' (first | exact St.set_same _ _ _ | assumption | refine St.set_keep (by assumption) ?_ | refine St.set_ne2 (by first | assumption | exact St.nn0 (by assumption) | exact St.nn1 (by assumption) | exact St.nn2 (by assumption) | exact St.nn3 (by assumption) | exact St.nn4 (by assumption) | exact St.nn5 (by assumption) | exact St.nn6 (by assumption) | exact St.nn7 (by assumption) | exact St.nn8 (by assumption) | exact St.nn9 (by assumption) | exact St.nn10 (by assumption) | exact St.nn11 (by assumption) | exact St.nn12 (by assumption) | exact St.nn13 (by assumption) | exact Ne.symm (St.nn0 (by assumption)) | exact Ne.symm (St.nn1 (by assumption)) | exact Ne.symm (St.nn2 (by assumption)) | exact Ne.symm (St.nn3 (by assumption)) | exact Ne.symm (St.nn4 (by assumption)) | exact Ne.symm (St.nn5 (by assumption)) | exact Ne.symm (St.nn6 (by assumption)) | exact Ne.symm (St.nn7 (by assumption)) | exact Ne.symm (St.nn8 (by assumption)) | exact Ne.symm (St.nn9 (by assumption)) | exact Ne.symm (St.nn10 (by assumption)) | exact Ne.symm (St.nn11 (by assumption)) | exact Ne.symm (St.nn12 (by assumption)) | exact Ne.symm (St.nn13 (by assumption)) | exact St.ne_ns (by assumption) (by repeat' (first | exact St.sn_of (by assumption) | refine St.setn ?_))) ?_))) (he' : els'[ii]? = some el' := by exact rfl) (hp' : load? (el'.drop jj) q = some av1 := by exact rfl) (hnn' : av1 = av := by (first | (apply nf_agg; (repeat' (first | exact nf_nil | apply nf_cons | exact nf_v | exact nf_sl | exact nf_osl | exact nf_ptr | exact nf_fp | exact nf_mp | exact nf_fn | exact nf_ifc | exact nf_it | exact nf_mb | exact rfl))) | exact nf_v | exact nf_sl | exact nf_osl | exact nf_ptr | exact nf_fp | exact nf_mp | exact nf_fn | exact nf_ifc | exact nf_it | exact nf_mb | exact rfl)) (hn : Needs cc fr (Op.load lt x).operands.toList := by repeat' (first | exact True.intro | refine And.intro ?_ ?_ | exact nd0 rfl | exact nd1 rfl | exact nd2 rfl | exact nd3 rfl | exact nd4 rfl)) : DJ P l c m σ0 σ1 K i (⟨some t, .load lt x, ty, pos, aft, some (j, w)⟩ :: rest) fr := dj_q him hj hl hg hn (fun _ R hR => opj_load_ptr rfl hq hx hσ he (hnn ▸ hp) hR) (fun _ R hR => opj_load_ptr rfl hq hx hσ' he' (hnn' ▸ hp') hR) h
theorem d18 {st : TypeId} {x ix : Operand} {s : ByteArray} {kk : IntKind} {n : Int} (h : DJ P l c m σ0 σ1 K (i + 1) rest ((t, .v (.int .u8 (sb s n))) :: fr)) (him : Nat.beq i m = false := by exact rfl) (ht : P.underlying st = some .string := by exact rfl) (hx : ev fr x = some (.v (.string s)) := by exact rfl) (hi : ev fr ix = some (.v (.int kk n)) := by exact rfl) (h0 : 0 ≤ n := by first | omega | (simp (disch := omega) only [w64, sb_bt, Int.toNat_zero, Int.toNat_one]; omega)) (h1 : n < s.size := by first | omega | (simp (disch := omega) only [w64, sb_bt, Int.toNat_zero, Int.toNat_one]; omega)) : DJ P l c m σ0 σ1 K i (⟨some t, .index st x ix, ty, pos, aft, none⟩ :: rest) fr := dj_store (fun _ R hR => opj_index_str rfl ht hx hi h0 h1 hR) him h
theorem d25 {x y : Operand} {a b : ByteArray} {t1 t2 : TypeId} (h : DJ P l c m σ0 σ1 K (i + 1) rest ((t, .v (.string (a ++ b))) :: fr)) (him : Nat.beq i m = false := by exact rfl) (hx : ev fr x = some (.v (.string a)) := by exact rfl) (hy : ev fr y = some (.v (.string b)) := by exact rfl) (hb : a.size + b.size ≤ 9223372036854775807 := by (first | omega | (simp only [bsz, ByteArray.size_append, List.length_cons, List.length_nil, List.length_append, Nat.reduceAdd]; omega) | (simp only [bsz, ByteArray.size_append, List.length_cons, List.length_nil, List.length_append, Nat.reduceAdd] at *; omega))) : DJ P l c m σ0 σ1 K i (⟨some t, .binOp .add t1 x y t2, ty, pos, aft, none⟩ :: rest) fr := dj_store (fun _ R hR => opj_concat rfl hx hy hb hR) him h
theorem d19 {st : TypeId} {x ix : Operand} {s : ByteArray} {kk : IntKind} {n : Int} {j u : Nat} {b : Bool} {a : AV} (h : DJ P l c m σ0 σ1 K (i + 1) rest ((t, .v (.int .u8 (sb s n))) :: fr)) (him : Nat.beq i m = false := by exact rfl) (hj : dstOf l j = some u := by exact rfl) (hl : lk fr u = some a := by exact rfl) (hb : a = .v (.bool b) := by with_reducible rfl) (ht : P.underlying st = some .string := by exact rfl) (hx : ev fr x = some (.v (.string s)) := by exact rfl) (hi : ev fr ix = some (.v (.int kk n)) := by exact rfl) (h0 : 0 ≤ n := by first | omega | (simp (disch := omega) only [w64, sb_bt, Int.toNat_zero, Int.toNat_one]; omega)) (h1 : n < s.size := by first | omega | (simp (disch := omega) only [w64, sb_bt, Int.toNat_zero, Int.toNat_one]; omega)) : DJ P l c m σ0 σ1 K i (⟨some t, .index st x ix, ty, pos, aft, some (j, b)⟩ :: rest) fr := dj_storey (fun _ R hR => opj_index_str rfl ht hx hi h0 h1 hR) him hj (hb ▸ hl) h
theorem d20 {st : TypeId} {x ix : Operand} {s : ByteArray} {kk : IntKind} {n : Int} {j u : Nat} {w cc : Bool} {a : AV} (h : DJ P l c m σ0 σ1 K (i + 1) rest ((t, .mb cc (.v (.int .u8 (sb s n)))) :: fr)) (him : Nat.beq i m = false := by exact rfl) (hj : dstOf l j = some u := by exact rfl) (hl : lk fr u = some a := by exact rfl) (hg : gc a w = some cc := by exact rfl) (ht : P.underlying st = some .string := by exact rfl) (hx : ev (strip fr) x = some (.v (.string s)) := by exact rfl) (hi : ev (strip fr) ix = some (.v (.int kk n)) := by exact rfl) (hn : Needs cc fr (Op.index st x ix).operands.toList := by repeat' (first | exact True.intro | refine And.intro ?_ ?_ | exact nd0 rfl | exact nd1 rfl | exact nd2 rfl | exact nd3 rfl | exact nd4 rfl)) (h0 : cc = true → 0 ≤ n := by intro h; first | omega | (simp only [Bool.and_eq_true, decide_eq_true_eq, Bool.not_eq_true', decide_eq_false_iff_not] at h; omega) | (simp only [Bool.and_eq_true, decide_eq_true_eq, Bool.not_eq_true', decide_eq_false_iff_not] at h; simp (disch := omega) only [w64, sb_bt, Int.toNat_zero, Int.toNat_one] at h ⊢; omega)) (h1 : cc = true → n < s.size := by intro h; first | omega | (simp only [Bool.and_eq_true, decide_eq_true_eq, Bool.not_eq_true', decide_eq_false_iff_not] at h; omega) | (simp only [Bool.and_eq_true, decide_eq_true_eq, Bool.not_eq_true', decide_eq_false_iff_not] at h; simp (disch := omega) only [w64, sb_bt, Int.toNat_zero, Int.toNat_one] at h ⊢; omega)) : DJ P l c m σ0 σ1 K i (⟨some t, .index st x ix, ty, pos, aft, some (j, w)⟩ :: rest) fr := dj_q him hj hl hg hn (fun hc R hR => opj_index_str rfl ht hx hi (h0 hc) (h1 hc) hR) (fun hc R hR => opj_index_str rfl ht hx hi (h0 hc) (h1 hc) hR) h
theorem d21 {st : TypeId} {x : Operand} {lo hi : Option Operand} {s : ByteArray} {b k : Int} (h : DJ P l c m σ0 σ1 K (i + 1) rest ((t, .v (.string (s.extract b.toNat k.toNat))) :: fr)) (him : Nat.beq i m = false := by exact rfl) (ht : P.underlying st = some .string := by exact rfl) (hx : ev fr x = some (.v (.string s)) := by exact rfl) (hlo : bound (ev fr) 0 lo = some b := by exact rfl) (hhi : bound (ev fr) s.size hi = some k := by exact rfl) (h0 : 0 ≤ b := by first | omega | (simp (disch := omega) only [w64, sb_bt, Int.toNat_zero, Int.toNat_one]; omega)) (h1 : b ≤ k := by first | omega | (simp (disch := omega) only [w64, sb_bt, Int.toNat_zero, Int.toNat_one]; omega)) (h2 : k ≤ s.size := by first | omega | (simp (disch := omega) only [w64, sb_bt, Int.toNat_zero, Int.toNat_one]; omega)) : DJ P l c m σ0 σ1 K i (⟨some t, .slice st x lo hi none, ty, pos, aft, none⟩ :: rest) fr := dj_store (fun _ R hR => opj_slice_str rfl ht hx hlo hhi h0 h1 h2 hR) him h
theorem dp {f : FuncId} {xs : Array Operand} {ts : Array TypeId} {as : List AV} {r : AV} (hp : Pure P f as r) (h : DJ P l c m σ0 σ1 K (i + 1) rest ((t, r) :: fr)) (him : Nat.beq i m = false := by exact rfl) (has : evs fr xs.toList = some as := by exact rfl) (hent : entered P f = true := by exact rfl) : DJ P l c m σ0 σ1 K i (⟨some t, .call { callee := .value (.func f), args := xs, argTypes := ts }, ty, pos, aft, none⟩ :: rest) fr := dj_pure (dst := some t) him has hent hp h
theorem dpy {f : FuncId} {xs : Array Operand} {ts : Array TypeId} {as : List AV} {r : AV} {j u : Nat} {b : Bool} {a : AV} (hp : Pure P f as r) (h : DJ P l c m σ0 σ1 K (i + 1) rest ((t, r) :: fr)) (him : Nat.beq i m = false := by exact rfl) (hj : dstOf l j = some u := by exact rfl) (hl : lk fr u = some a := by exact rfl) (hb : a = .v (.bool b) := by with_reducible rfl) (has : evs fr xs.toList = some as := by exact rfl) (hent : entered P f = true := by exact rfl) : DJ P l c m σ0 σ1 K i (⟨some t, .call { callee := .value (.func f), args := xs, argTypes := ts }, ty, pos, aft, some (j, b)⟩ :: rest) fr := dj_purey (dst := some t) him hj (hb ▸ hl) has hent hp h
theorem dpq {f : FuncId} {xs : Array Operand} {ts : Array TypeId} {as : List AV} {r : AV} {j u : Nat} {w cc : Bool} {a : AV} (h : DJ P l c m σ0 σ1 K (i + 1) rest ((t, .mb cc r) :: fr)) (him : Nat.beq i m = false := by exact rfl) (hj : dstOf l j = some u := by exact rfl) (hl : lk fr u = some a := by exact rfl) (hg : gc a w = some cc := by exact rfl) (has : evs (strip fr) xs.toList = some as := by exact rfl) (hent : entered P f = true := by exact rfl) (hn : Needs cc fr (Op.call { callee := .value (.func f), args := xs, argTypes := ts }).operands.toList := by repeat' (first | exact True.intro | refine And.intro ?_ ?_ | exact nd0 rfl | exact nd1 rfl | exact nd2 rfl | exact nd3 rfl | exact nd4 rfl)) (hp : cc = true → Pure P f as r) : DJ P l c m σ0 σ1 K i (⟨some t, .call { callee := .value (.func f), args := xs, argTypes := ts }, ty, pos, aft, some (j, w)⟩ :: rest) fr := dj_pureq him hj hl hg hn has hent hp h
/-- A region that draws its order; operation m turns the store. -/
theorem cqm (m : Nat) {σ1 : St} {id : Nat} {Q : Post} (hmix : P.follows .mixedOrders = true := by kernel_rfl) (hc : clo l [] = c := by exact rfl) (hp : planB l nt c = true := by kernel_rfl) (hm : Nat.blt m l.length = true := by exact rfl) (h : DJ P l c m σ σ1 (fun fr' => Q .normal fr' σ1) 0 l fr) : CJ P nt (.region id l.toArray true) Q fr σ := cj_drawn hmix m _ hc hp (.inl (Nat.blt_eq.mp hm)) h
theorem d14a {lt : TypeId} {x : Operand} {q : Option Nat} {id sz ii jj : Nat} {elem : TypeId} {els : List (List AV)} {el : List AV} {av0 : AV} (h : DJ P l c m σ0 σ1 K (i + 1) rest ((t, av) :: fr)) (him : Nat.beq i m = false := by exact rfl) (hx : ev fr x = some (.ptr id sz ii jj) := by exact rfl) (hq : shapeOf P lt = some q := by exact rfl) (hσ : σ0 id = some (.row sz elem els) := by first | exact St.set_same _ _ _ | assumption | (repeat' (first | exact St.set_same _ _ _ | assumption | refine St.set_keep (by assumption) ?_ | refine St.set_ne2 (by first | assumption | exact St.nn0 (by assumption) | exact St.nn1 (by assumption) | exact St.nn2 (by assumption) | exact St.nn3 (by assumption) | exact St.nn4 (by assumption) | exact St.nn5 (by assumption) | exact St.nn6 (by assumption) | exact St.nn7 (by assumption) | exact St.nn8 (by assumption) | exact St.nn9 (by assumption) | exact St.nn10 (by assumption) | exact St.nn11 (by assumption) | exact St.nn12 (by assumption) | exact St.nn13 (by assumption) | exact Ne.symm (St.nn0 (by assumption)) | exact Ne.symm (St.nn1 (by assumption)) | exact Ne.symm (St.nn2 (by assumption)) | exact Ne.symm (St.nn3 (by assumption)) | exact Ne.symm (St.nn4 (by assumption)) | exact Ne.symm (St.nn5 (by assumption)) | exact Ne.symm (St.nn6 (by assumption)) | exact Ne.symm (St.nn7 (by assumption)) | exact Ne.symm (St.nn8 (by assumption)) | exact Ne.symm (St.nn9 (by assumption)) | exact Ne.symm (St.nn10 (by assumption)) | exact Ne.symm (St.nn11 (by assumption)) | exact Ne.symm (St.nn12 (by assumption)) | exact Ne.symm (St.nn13 (by assumption)) | exact St.ne_ns (by assumption) (by repeat' (first | exact St.sn_of (by assumption) | refine St.setn ?_))) ?_))) (he : els[ii]? = some el := by exact rfl) (hp : load? (el.drop jj) q = some av0 := by exact rfl) (hnn : av0 = av := by (first | (apply nf_agg; (repeat' (first | exact nf_nil | apply nf_cons | exact nf_v | exact nf_sl | exact nf_osl | exact nf_ptr | exact nf_fp | exact nf_mp | exact nf_fn | exact nf_ifc | exact nf_it | exact nf_mb | exact rfl))) | exact nf_v | exact nf_sl | exact nf_osl | exact nf_ptr | exact nf_fp | exact nf_mp | exact nf_fn | exact nf_ifc | exact nf_it | exact nf_mb | exact rfl)) (hc : memB c m i = true := by decide +kernel) : DJ P l c m σ0 σ1 K i (⟨some t, .load lt x, ty, pos, aft, none⟩ :: rest) fr := dj_v0 him hc (fun R hR => opj_load_ptr rfl hq hx hσ he (hnn ▸ hp) hR) h
theorem cqs (m a : Nat) (o : AObj) {id : Nat} {Q : Post} (h : DJ P l c m σ (σ.set a o) (fun fr' => Q .normal fr' (σ.set a o)) 0 l fr) (hmix : P.follows .mixedOrders = true := by kernel_rfl) (hc : clo l [] = c := by exact rfl) (hp : planB l nt c = true := by kernel_rfl) (hm : Nat.blt m l.length = true := by exact rfl) : CJ P nt (.region id l.toArray true) Q fr σ := cj_drawn hmix m _ hc hp (.inl (Nat.blt_eq.mp hm)) h
theorem d17 {st elem : TypeId} {x y : Operand} {id sz ii jj k : Nat} {els : List (List AV)} {el cs : List AV} {a : AV} (h : DJ P l c m σ0 σ1 K (i + 1) rest fr) (him : Nat.beq i m = true := by exact rfl) (hx : ev fr x = some (.ptr id sz ii jj) := by exact rfl) (hy : ev fr y = some a := by exact rfl) (hm : sizeIs P st = some k := by exact rfl) (hσ : σ0 id = some (.row sz elem els) := by first | exact St.set_same _ _ _ | assumption | (repeat' (first | exact St.set_same _ _ _ | assumption | refine St.set_keep (by assumption) ?_ | refine St.set_ne2 (by first | assumption | exact St.nn0 (by assumption) | exact St.nn1 (by assumption) | exact St.nn2 (by assumption) | exact St.nn3 (by assumption) | exact St.nn4 (by assumption) | exact St.nn5 (by assumption) | exact St.nn6 (by assumption) | exact St.nn7 (by assumption) | exact St.nn8 (by assumption) | exact St.nn9 (by assumption) | exact St.nn10 (by assumption) | exact St.nn11 (by assumption) | exact St.nn12 (by assumption) | exact St.nn13 (by assumption) | exact Ne.symm (St.nn0 (by assumption)) | exact Ne.symm (St.nn1 (by assumption)) | exact Ne.symm (St.nn2 (by assumption)) | exact Ne.symm (St.nn3 (by assumption)) | exact Ne.symm (St.nn4 (by assumption)) | exact Ne.symm (St.nn5 (by assumption)) | exact Ne.symm (St.nn6 (by assumption)) | exact Ne.symm (St.nn7 (by assumption)) | exact Ne.symm (St.nn8 (by assumption)) | exact Ne.symm (St.nn9 (by assumption)) | exact Ne.symm (St.nn10 (by assumption)) | exact Ne.symm (St.nn11 (by assumption)) | exact Ne.symm (St.nn12 (by assumption)) | exact Ne.symm (St.nn13 (by assumption)) | exact St.ne_ns (by assumption) (by repeat' (first | exact St.sn_of (by assumption) | refine St.setn ?_))) ?_))) (he : els[ii]? = some el := by exact rfl) (hc : cellsOf a = some cs := by exact rfl) (hl : cs.length = k := by exact rfl) (hj : Nat.ble (jj + cs.length) el.length = true := by exact rfl) (hs : σ1 = σ0.set id (.row sz elem (els.set ii (el.take jj ++ cs ++ el.drop (jj + cs.length)))) := by exact rfl) :
    DJ P l c m σ0 σ1 K i (⟨none, .store st x y, ty, pos, aft, none⟩ :: rest) fr := dj_m him (fun R hR => opj_store rfl hm hx hy hσ he hc hl (Nat.le_of_ble_eq_true hj) (hs ▸ hR)) h
/-- A call that turns nothing, ahead of m; or anywhere. -/
theorem dka {f : FuncId} {xs : Array Operand} {ts : Array TypeId} {as : List AV} {r : AV} (h : DJ P l c m σ0 σ1 K (i + 1) rest ((t, r) :: fr)) (him : Nat.beq i m = false := by exact rfl) (has : evs fr xs.toList = some as := by exact rfl) (hent : entered P f = true := by exact rfl) (hc : memB c m i = true := by decide +kernel) (hp : ACalls P f as σ0 (fun e σ' => e = .ret r ∧ σ' = σ0)) :
    DJ P l c m σ0 σ1 K i (⟨some t, .call { callee := .value (.func f), args := xs, argTypes := ts }, ty, pos, aft, none⟩ :: rest) fr := dj_cons (factb_none rfl (onb_ne him (fun _ => opw_calls has hent hp) (fun e => by rw [hc] at e; cases e))) h
theorem dkb {f : FuncId} {xs : Array Operand} {ts : Array TypeId} {as : List AV} {r : AV} (h : DJ P l c m σ0 σ1 K (i + 1) rest ((t, r) :: fr)) (him : Nat.beq i m = false := by exact rfl) (has : evs fr xs.toList = some as := by exact rfl) (hent : entered P f = true := by exact rfl) (hp : ACalls P f as σ0 (fun e σ' => e = .ret r ∧ σ' = σ0)) (hp' : ACalls P f as σ1 (fun e σ' => e = .ret r ∧ σ' = σ1)) :
    DJ P l c m σ0 σ1 K i (⟨some t, .call { callee := .value (.func f), args := xs, argTypes := ts }, ty, pos, aft, none⟩ :: rest) fr := dj_keeps (dst := some t) him has hent hp hp' h
theorem opj_tf {o : Oper} {R : Option AV → St → Prop} {x y z : Operand} {b : Bool} {σ : St} (ho : o.op = .pick x y z) (hc : ev fr x = some (.v (.bool b))) (hx : ev fr y = some (.v (.bool true))) (hy : ev fr z = some (.v (.bool false))) (hR : R (some (.v (.bool b))) σ) : OpJ P o (ev fr) σ R :=
  opj_quiet _ (fun k e hσ hk hr => by
    have m1 : x ∈ o.op.operands := by rw [ho]; simp [Op.operands]
    have m2 : y ∈ o.op.operands := by rw [ho]; simp [Op.operands]
    have m3 : z ∈ o.op.operands := by rw [ho]; simp [Op.operands]
    refine ⟨_, run_pick ho (rep_v (hr x m1 _ hc)), ?_⟩
    cases b with
    | true => exact hr y m2 _ hx
    | false => exact hr z m3 _ hy) hR
theorem deq {et et' : TypeId} {x y : Operand} {xs ys : List AV} {r : Bool} (h : DJ P l c m σ0 σ1 K (i + 1) rest ((t, .v (.bool (r))) :: fr)) (him : Nat.beq i m = false := by exact rfl) (hx : ev fr x = some (.agg xs) := by exact rfl) (hy : ev fr y = some (.agg ys) := by exact rfl) (he : eqV P 5 et (.agg xs) (.agg ys) = some r := by exact rfl) (hgt : P.eqGuardType P.depth et = false := by kernel_rfl) : DJ P l c m σ0 σ1 K i (⟨some t, .binOp .eql et x y et', ty, pos, aft, none⟩ :: rest) fr := dj_store (fun _ R hR => opj_eq_agg rfl hx hy hgt (by decide) he hR) him h
theorem deqq {et et' : TypeId} {x y : Operand} {xs ys : List AV} {r : Bool} {j u : Nat} {w cc : Bool} {a : AV} (h : DJ P l c m σ0 σ1 K (i + 1) rest ((t, .mb cc (.v (.bool (r)))) :: fr)) (him : Nat.beq i m = false := by exact rfl) (hj : dstOf l j = some u := by exact rfl) (hl : lk fr u = some a := by exact rfl) (hg : gc a w = some cc := by exact rfl) (hx : ev (strip fr) x = some (.agg xs) := by exact rfl) (hy : ev (strip fr) y = some (.agg ys) := by exact rfl) (he : eqV P 5 et (.agg xs) (.agg ys) = some r := by exact rfl) (hgt : P.eqGuardType P.depth et = false := by kernel_rfl) (hn : Needs cc fr (Op.binOp .eql et x y et').operands.toList := by repeat' (first | exact True.intro | refine And.intro ?_ ?_ | exact nd0 rfl | exact nd1 rfl | exact nd2 rfl | exact nd3 rfl | exact nd4 rfl)) : DJ P l c m σ0 σ1 K i (⟨some t, .binOp .eql et x y et', ty, pos, aft, some (j, w)⟩ :: rest) fr := dj_q him hj hl hg hn (fun _ R hR => opj_eq_agg rfl hx hy hgt (by decide) he hR) (fun _ R hR => opj_eq_agg rfl hx hy hgt (by decide) he hR) h
theorem jeq {ops : Array Oper} {Q : Post} {et et' : TypeId} {x y : Operand} {xs ys : List AV} {r : Bool} (h : LJ P nt ops Q rest ((t, .v (.bool (r))) :: fr) σ) (hx : ev fr x = some (.agg xs) := by exact rfl) (hy : ev fr y = some (.agg ys) := by exact rfl) (he : eqV P 5 et (.agg xs) (.agg ys) = some r := by exact rfl) (hgt : P.eqGuardType P.depth et = false := by kernel_rfl) (hd : fits nt (some t) = true := by exact rfl) : LJ P nt ops Q (⟨some t, .binOp .eql et x y et', ty, pos, aft, none⟩ :: rest) fr σ := lj_v hd (fun R hR => opj_eq_agg rfl hx hy hgt (by decide) he hR) h
theorem jeqq {ops : Array Oper} {Q : Post} {et et' : TypeId} {x y : Operand} {xs ys : List AV} {r : Bool} {j u : Nat} {w cc : Bool} {a : AV} (h : LJ P nt ops Q rest ((t, .mb cc (.v (.bool (r)))) :: fr) σ) (hj : (ops[j]?).bind (·.dst) = some u := by exact rfl) (hl : lk fr u = some a := by exact rfl) (hg : gc a w = some cc := by exact rfl) (hx : ev (strip fr) x = some (.agg xs) := by exact rfl) (hy : ev (strip fr) y = some (.agg ys) := by exact rfl) (he : eqV P 5 et (.agg xs) (.agg ys) = some r := by exact rfl) (hgt : P.eqGuardType P.depth et = false := by kernel_rfl) (hn : Needs cc fr (Op.binOp .eql et x y et').operands.toList := by repeat' (first | exact True.intro | refine And.intro ?_ ?_ | exact nd0 rfl | exact nd1 rfl | exact nd2 rfl | exact nd3 rfl | exact nd4 rfl)) (hd : fits nt (some t) = true := by exact rfl) : LJ P nt ops Q (⟨some t, .binOp .eql et x y et', ty, pos, aft, some (j, w)⟩ :: rest) fr σ := lj_q hd hj hl hg hn (fun _ R hR => opj_eq_agg rfl hx hy hgt (by decide) he hR) h
theorem dne {et et' : TypeId} {x y : Operand} {xs ys : List AV} {r : Bool} (h : DJ P l c m σ0 σ1 K (i + 1) rest ((t, .v (.bool (!r))) :: fr)) (him : Nat.beq i m = false := by exact rfl) (hx : ev fr x = some (.agg xs) := by exact rfl) (hy : ev fr y = some (.agg ys) := by exact rfl) (he : eqV P 5 et (.agg xs) (.agg ys) = some r := by exact rfl) (hgt : P.eqGuardType P.depth et = false := by kernel_rfl) : DJ P l c m σ0 σ1 K i (⟨some t, .binOp .neq et x y et', ty, pos, aft, none⟩ :: rest) fr := dj_store (fun _ R hR => opj_ne_agg rfl hx hy hgt (by decide) he hR) him h
theorem dneq {et et' : TypeId} {x y : Operand} {xs ys : List AV} {r : Bool} {j u : Nat} {w cc : Bool} {a : AV} (h : DJ P l c m σ0 σ1 K (i + 1) rest ((t, .mb cc (.v (.bool (!r)))) :: fr)) (him : Nat.beq i m = false := by exact rfl) (hj : dstOf l j = some u := by exact rfl) (hl : lk fr u = some a := by exact rfl) (hg : gc a w = some cc := by exact rfl) (hx : ev (strip fr) x = some (.agg xs) := by exact rfl) (hy : ev (strip fr) y = some (.agg ys) := by exact rfl) (he : eqV P 5 et (.agg xs) (.agg ys) = some r := by exact rfl) (hgt : P.eqGuardType P.depth et = false := by kernel_rfl) (hn : Needs cc fr (Op.binOp .neq et x y et').operands.toList := by repeat' (first | exact True.intro | refine And.intro ?_ ?_ | exact nd0 rfl | exact nd1 rfl | exact nd2 rfl | exact nd3 rfl | exact nd4 rfl)) : DJ P l c m σ0 σ1 K i (⟨some t, .binOp .neq et x y et', ty, pos, aft, some (j, w)⟩ :: rest) fr := dj_q him hj hl hg hn (fun _ R hR => opj_ne_agg rfl hx hy hgt (by decide) he hR) (fun _ R hR => opj_ne_agg rfl hx hy hgt (by decide) he hR) h
theorem jne {ops : Array Oper} {Q : Post} {et et' : TypeId} {x y : Operand} {xs ys : List AV} {r : Bool} (h : LJ P nt ops Q rest ((t, .v (.bool (!r))) :: fr) σ) (hx : ev fr x = some (.agg xs) := by exact rfl) (hy : ev fr y = some (.agg ys) := by exact rfl) (he : eqV P 5 et (.agg xs) (.agg ys) = some r := by exact rfl) (hgt : P.eqGuardType P.depth et = false := by kernel_rfl) (hd : fits nt (some t) = true := by exact rfl) : LJ P nt ops Q (⟨some t, .binOp .neq et x y et', ty, pos, aft, none⟩ :: rest) fr σ := lj_v hd (fun R hR => opj_ne_agg rfl hx hy hgt (by decide) he hR) h
theorem jneq {ops : Array Oper} {Q : Post} {et et' : TypeId} {x y : Operand} {xs ys : List AV} {r : Bool} {j u : Nat} {w cc : Bool} {a : AV} (h : LJ P nt ops Q rest ((t, .mb cc (.v (.bool (!r)))) :: fr) σ) (hj : (ops[j]?).bind (·.dst) = some u := by exact rfl) (hl : lk fr u = some a := by exact rfl) (hg : gc a w = some cc := by exact rfl) (hx : ev (strip fr) x = some (.agg xs) := by exact rfl) (hy : ev (strip fr) y = some (.agg ys) := by exact rfl) (he : eqV P 5 et (.agg xs) (.agg ys) = some r := by exact rfl) (hgt : P.eqGuardType P.depth et = false := by kernel_rfl) (hn : Needs cc fr (Op.binOp .neq et x y et').operands.toList := by repeat' (first | exact True.intro | refine And.intro ?_ ?_ | exact nd0 rfl | exact nd1 rfl | exact nd2 rfl | exact nd3 rfl | exact nd4 rfl)) (hd : fits nt (some t) = true := by exact rfl) : LJ P nt ops Q (⟨some t, .binOp .neq et x y et', ty, pos, aft, some (j, w)⟩ :: rest) fr σ := lj_q hd hj hl hg hn (fun _ R hR => opj_ne_agg rfl hx hy hgt (by decide) he hR) h
theorem dtf {x y z : Operand} {b : Bool} (h : DJ P l c m σ0 σ1 K (i + 1) rest ((t, .v (.bool b)) :: fr)) (him : Nat.beq i m = false := by exact rfl) (hc : ev fr x = some (.v (.bool b)) := by exact rfl) (hx : ev fr y = some (.v (.bool true)) := by exact rfl) (hy : ev fr z = some (.v (.bool false)) := by exact rfl) : DJ P l c m σ0 σ1 K i (⟨some t, .pick x y z, ty, pos, aft, none⟩ :: rest) fr := dj_store (fun _ R hR => opj_tf rfl hc hx hy hR) him h
theorem jtf {ops : Array Oper} {Q : Post} {x y z : Operand} {b : Bool} (h : LJ P nt ops Q rest ((t, .v (.bool b)) :: fr) σ) (hc : ev fr x = some (.v (.bool b)) := by exact rfl) (hx : ev fr y = some (.v (.bool true)) := by exact rfl) (hy : ev fr z = some (.v (.bool false)) := by exact rfl) (hd : fits nt (some t) = true := by exact rfl) : LJ P nt ops Q (⟨some t, .pick x y z, ty, pos, aft, none⟩ :: rest) fr σ := lj_v hd (fun R hR => opj_tf rfl hc hx hy hR) h
theorem dcb {s d et : TypeId} {x : Operand} {v : AV} {lb : List UInt8} (h : DJ P l c m σ0 σ1 K (i + 1) rest ((t, .v (.string ⟨lb.toArray⟩)) :: fr)) (him : Nat.beq i m = false := by exact rfl) (hs : P.underlying s = some (.slice et) := by exact rfl) (he : P.underlying et = some (.int .u8) := by exact rfl) (hdd : P.underlying d = some .string := by exact rfl) (hx : ev fr x = some v := by exact rfl) (hsr : srcOf σ0 v = some (1, bys lb) := by exact rfl) (hsr' : srcOf σ1 v = some (1, bys lb) := by exact rfl) : DJ P l c m σ0 σ1 K i (⟨some t, .convert s d x, ty, pos, aft, none⟩ :: rest) fr := dj_v him (fun R hR => opj_conv_bytes rfl hs he hdd hx hsr hR) (fun R hR => opj_conv_bytes rfl hs he hdd hx hsr' hR) h
theorem dcbq {s d et : TypeId} {x : Operand} {v : AV} {lb : List UInt8} {j u : Nat} {w cc : Bool} {a : AV} (h : DJ P l c m σ0 σ1 K (i + 1) rest ((t, .mb cc (.v (.string ⟨lb.toArray⟩))) :: fr)) (him : Nat.beq i m = false := by exact rfl) (hj : dstOf l j = some u := by exact rfl) (hl : lk fr u = some a := by exact rfl) (hg : gc a w = some cc := by exact rfl) (hs : P.underlying s = some (.slice et) := by exact rfl) (he : P.underlying et = some (.int .u8) := by exact rfl) (hdd : P.underlying d = some .string := by exact rfl) (hx : ev (strip fr) x = some v := by exact rfl) (hsr : srcOf σ0 v = some (1, bys lb) := by exact rfl) (hsr' : srcOf σ1 v = some (1, bys lb) := by exact rfl) (hn : Needs cc fr (Op.convert s d x).operands.toList := by repeat' (first | exact True.intro | refine And.intro ?_ ?_ | exact nd0 rfl | exact nd1 rfl | exact nd2 rfl | exact nd3 rfl | exact nd4 rfl)) : DJ P l c m σ0 σ1 K i (⟨some t, .convert s d x, ty, pos, aft, some (j, w)⟩ :: rest) fr := dj_q him hj hl hg hn (fun _ R hR => opj_conv_bytes rfl hs he hdd hx hsr hR) (fun _ R hR => opj_conv_bytes rfl hs he hdd hx hsr' hR) h
theorem jcbq {ops : Array Oper} {Q : Post} {s d et : TypeId} {x : Operand} {v : AV} {lb : List UInt8} {j u : Nat} {w cc : Bool} {a : AV} (h : LJ P nt ops Q rest ((t, .mb cc (.v (.string ⟨lb.toArray⟩))) :: fr) σ) (hj : (ops[j]?).bind (·.dst) = some u := by exact rfl) (hl : lk fr u = some a := by exact rfl) (hg : gc a w = some cc := by exact rfl) (hs : P.underlying s = some (.slice et) := by exact rfl) (he : P.underlying et = some (.int .u8) := by exact rfl) (hdd : P.underlying d = some .string := by exact rfl) (hx : ev (strip fr) x = some v := by exact rfl) (hsr : srcOf σ v = some (1, bys lb) := by exact rfl) (hn : Needs cc fr (Op.convert s d x).operands.toList := by repeat' (first | exact True.intro | refine And.intro ?_ ?_ | exact nd0 rfl | exact nd1 rfl | exact nd2 rfl | exact nd3 rfl | exact nd4 rfl)) (hd : fits nt (some t) = true := by exact rfl) : LJ P nt ops Q (⟨some t, .convert s d x, ty, pos, aft, some (j, w)⟩ :: rest) fr σ := lj_q hd hj hl hg hn (fun _ R hR => opj_conv_bytes rfl hs he hdd hx hsr hR) h
end
end Go.Proofs.YtbpoeggmpjepfaaDoor.Ab

/- Abstract values over the model's memory: what is kept. -/
set_option linter.unusedVariables false
set_option linter.unusedSimpArgs false
set_option maxRecDepth 20000
namespace Go.Proofs.YtbpoeggmpjepfaaDoor.Ab
open Go
theorem St.le_any {σ τ : St} {a : Nat} {x : AObj} (h : σ.le τ) (ha : σ a = none := by first | assumption | exact St.ns1 (by assumption) | exact St.ns2 (by assumption) | exact St.ns3 (by assumption) | exact St.ns4 (by assumption) | exact St.ns5 (by assumption) | exact St.ns6 (by assumption) | exact St.ns7 (by assumption) | exact St.ns8 (by assumption) | exact St.ns9 (by assumption) | exact St.ns10 (by assumption) | exact St.ns11 (by assumption) | exact St.ns12 (by assumption) | exact St.ns13 (by assumption) | exact St.ns14 (by assumption) | exact St.ns10 (by assumption) | exact St.ns11 (by assumption) | exact St.ns12 (by assumption) | exact St.ns13 (by assumption) | exact St.ns14 (by assumption)) : σ.le (τ.set a x) := fun i o e => by
  by_cases hi : i = a
  · subst hi; rw [ha] at e; cases e
  · rw [St.set_ne _ _ _ hi]; exact h i o e
theorem St.le_reset {σ τ : St} {a : Nat} {x y : AObj} (h : σ.le (τ.set a x)) (ha : σ a = none := by first | assumption | exact St.ns1 (by assumption) | exact St.ns2 (by assumption) | exact St.ns3 (by assumption) | exact St.ns4 (by assumption) | exact St.ns5 (by assumption) | exact St.ns6 (by assumption) | exact St.ns7 (by assumption) | exact St.ns8 (by assumption) | exact St.ns9 (by assumption) | exact St.ns10 (by assumption) | exact St.ns11 (by assumption) | exact St.ns12 (by assumption) | exact St.ns13 (by assumption) | exact St.ns14 (by assumption) | exact St.ns10 (by assumption) | exact St.ns11 (by assumption) | exact St.ns12 (by assumption) | exact St.ns13 (by assumption) | exact St.ns14 (by assumption)) : σ.le (τ.set a y) := fun i o e => by
  have hi : i ≠ a := fun hi => by subst hi; rw [ha] at e; cases e
  have := h i o e
  rw [St.set_ne _ _ _ hi] at this ⊢; exact this
/-- The end of a call that answers r. -/
theorem gvs {σ σ' : St} {r r0 : AV} (hf : Fin σ σ' r0 r) (hle : σ.le σ' := by repeat' (first | exact St.le_refl _ | refine St.le_any ?_)) : Gives σ r (.ret r0) σ' := gives hle hf
theorem gv {σ σ' : St} {r r0 : AV} (hf : Wk r0 r) (hle : σ.le σ' := by repeat' (first | exact St.le_refl _ | refine St.le_any ?_)) : Gives σ r (.ret r0) σ' := gives hle (.wk hf)
theorem ge {σ σ' : St} {r r0 : AV} (hf : r0 = r) (hle : σ.le σ' := by repeat' (first | exact St.le_refl _ | refine St.le_any ?_)) : Gives σ r (.ret r0) σ' := gives hle (.wk (Wk.of_eq hf))
/-- Less may be told of what an operation hands on. -/
theorem OpJ.weak {P : Program} {o : Oper} {E : Operand → Option AV} {σ : St} {R : Option AV → St → Prop} {b : AV} (h : OpJ P o E σ (fun r σ' => σ' = σ ∧ ∃ a, r = some a ∧ Wk a b)) (hR : R (some b) σ) : OpJ P o E σ R := fun k e hσ hk hr => by
  obtain ⟨k', n, r, h1, h2, h3, ⟨h4, a, rfl, hw⟩, v, hv, hrep⟩ := h k e hσ hk hr
  exact ⟨k', n, some b, h1, h2, h3, h4 ▸ hR, v, hv, hw k' v hrep⟩
section
variable {P : Program} {nt : Nat} {ops : Array Oper} {Q : Post} {fr : Fr} {σ : St} {rest : List Oper} {t : Tmp} {ty : TypeId} {pos : String} {aft : Array Edge}
/-- A slice is written out. -/
theorem jlit {lt et : TypeId} {n sz : Nat} {parts : Array (Nat × Operand)} {zs out : List AV} {qs : List (Nat × AV)} {els : List (List AV)} (h : LJ P nt ops Q rest ((t, .sl (some false) true sz els) :: fr) σ) (ht : P.underlying lt = some (.slice et) := by exact rfl) (hs : sizeIs P et = some sz := by exact rfl) (hz : zeroIs P et = some zs := by exact rfl) (hzl : zs.length = sz := by exact rfl) (hpos : Nat.blt 0 sz = true := by exact rfl) (hn : Nat.ble (n * sz) 16777216 = true := by exact rfl) (hq : evParts (ev fr) parts.toList = some qs := by exact rfl) (hf : afill (fun i => some (i * sz, sz)) ((List.replicate n zs).flatten) qs = some out := by exact rfl) (hol : out.length = n * sz := by exact rfl) (hnn : chunk sz n out = els := by (repeat' (first | exact nfl_nil | apply nfl_cons | exact nf_nil | apply nf_cons | exact nf_v | exact nf_sl | exact nf_osl | exact nf_ptr | exact nf_fp | exact nf_mp | exact nf_fn | exact nf_ifc | exact nf_it | exact nf_mb | exact rfl))) (hd : fits nt (some t) = true := by exact rfl) :
    LJ P nt ops Q (⟨some t, .buildSlice lt n parts, ty, pos, aft, none⟩ :: rest) fr σ := by
  subst hnn
  exact lj_v hd (fun R hR => opj_lit rfl ht hs hz hzl (Nat.blt_eq.mp hpos) (Nat.le_of_ble_eq_true hn) hq hf hol hR) h
theorem jlito {lt et : TypeId} {n sz : Nat} {parts : Array (Nat × Operand)} {zs out : List AV} {qs : List (Nat × AV)} {els : List (List AV)} (h : ∀ id, σ id = none → LJ P nt ops Q rest ((t, .osl id sz 0 n) :: fr) (σ.set id (.row sz et els))) (ht : P.underlying lt = some (.slice et) := by exact rfl) (hs : sizeIs P et = some sz := by exact rfl) (hz : zeroIs P et = some zs := by exact rfl) (hzl : zs.length = sz := by exact rfl) (hpos : Nat.blt 0 sz = true := by exact rfl) (hn : Nat.ble (n * sz) 16777216 = true := by exact rfl) (hq : evParts (ev fr) parts.toList = some qs := by exact rfl) (hf : afill (fun i => some (i * sz, sz)) ((List.replicate n zs).flatten) qs = some out := by exact rfl) (hol : out.length = n * sz := by exact rfl) (hnn : chunk sz n out = els := by (repeat' (first | exact nfl_nil | apply nfl_cons | exact nf_nil | apply nf_cons | exact nf_v | exact nf_sl | exact nf_osl | exact nf_ptr | exact nf_fp | exact nf_mp | exact nf_fn | exact nf_ifc | exact nf_it | exact nf_mb | exact rfl))) (hd : fits nt (some t) = true := by exact rfl) :
    LJ P nt ops Q (⟨some t, .buildSlice lt n parts, ty, pos, aft, none⟩ :: rest) fr σ := by
  subst hnn
  exact lj_f hd (fun R hR => opj_lit_own rfl ht hs hz hzl (Nat.blt_eq.mp hpos) (Nat.le_of_ble_eq_true hn) hq hf hol hR) h
theorem elem_of {lt et : TypeId} {sz : Nat} (ht : P.underlying lt = some (.slice et)) (hs : sizeIs P et = some sz) (hz : (zeroIs P et).map (·.length) = some sz) (hpos : Nat.blt 0 sz = true) : Elem P lt et sz := ⟨ht, hs, hz, Nat.blt_eq.mp hpos⟩
/-- append on a slice that has no room behind it, or is nil. -/
theorem japp (by_ : Nat) {lt et : TypeId} {sz : Nat} {x y : Operand} {nl : Option Bool} {full : Bool} {els news : List (List AV)} {ts : Array TypeId} {all : List (List AV)} {av : AV} (h : LJ P nt ops Q rest ((t, .sl none false sz all) :: fr) σ) (hts : ts = #[lt, lt] := by exact rfl) (ht : P.underlying lt = some (.slice et) := by exact rfl) (hsz : sizeIs P et = some sz := by exact rfl) (hz : (zeroIs P et).map (·.length) = some sz := by exact rfl) (hpos : Nat.blt 0 sz = true := by exact rfl) (hby : bytesIs P et = some by_ := by exact rfl) (hb1 : Nat.blt 0 by_ = true := by exact rfl) (hx : ev fr x = some (.sl nl full sz els) := by exact rfl) (hfull : full = true ∨ nl = some true := by first | exact .inl rfl | exact .inr rfl) (hy : ev fr y = some av := by exact rfl) (hs : srcOf σ av = some (sz, news) := by exact rfl) (hall : els ++ news = all := by (first | exact List.nil_append _ | exact rfl)) (hd : fits nt (some t) = true := by exact rfl) (hb : (els.length + news.length) * by_ ≤ 140737488355328 := by first | omega | (simp only [length_bys, length_chunk, List.length_nil, List.length_cons, List.length_map, Nat.mul_one]; omega)) :
    LJ P nt ops Q (⟨some t, .call { callee := .builtin .append, args := #[x, y], argTypes := ts }, ty, pos, aft, none⟩ :: rest) fr σ := by
  subst hall
  exact lj_v hd (fun R hR => OpJ.weak (opj_append_sl rfl hts (elem_of ht hsz hz hpos) hby hx hfull hy hs hb (Nat.blt_eq.mp hb1) (fun h0 => ⟨rfl, _, rfl, by rw [h0, List.append_nil]; exact Wk.sl _ _ _ _⟩) (fun _ => ⟨rfl, _, rfl, Wk.sl _ _ _ _⟩)) hR) h
end
end Go.Proofs.YtbpoeggmpjepfaaDoor.Ab
