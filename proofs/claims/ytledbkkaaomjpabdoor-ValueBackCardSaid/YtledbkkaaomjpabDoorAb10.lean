/- Abstract values over the model's memory, 10: one rule for all operations that need no word of ours. -/
import Derived.Test.YtledbkkaaomjpabDoorAb9
set_option linter.unusedVariables false
set_option linter.unusedSimpArgs false
namespace Go.Proofs.YtledbkkaaomjpabDoor.Ab
open Go

def binV (P : Program) (op : BinOp) (t : TypeId) (a b : AV) : Option AV :=
  match a, b with
  | .v (.bool x), .v (.bool y) => match P.underlying t, op with
    | some .bool, .eql => some (.v (.bool (x == y)))
    | some .bool, .neq => some (.v (.bool (!(x == y))))
    | _, _ => none
  | .v (.int k x), .v (.int k' y) => match bin2 op (.int k x) (.int k' y) with
    | some (.int k z) => some (.v (.int k z))
    | some (.bool z) => some (.v (.bool z))
    | _ => none
  | .v (.string x), .v (.string y) => match bin2 op (.string x) (.string y) with
    | some (.bool z) => some (.v (.bool z))
    | _ => none
  | .agg _, .agg _ => none
  | a, b => match P.underlying t with
    | some d => match nilKind d a, theNil d b, isNil a, op with
      | true, true, some r, .eql => some (.v (.bool r))
      | true, true, some r, .neq => some (.v (.bool (!r)))
      | _, _, _, _ => none
    | none => none
def convV (P : Program) (s d : TypeId) : AV → Option AV
  | .v (.int _ n) => match P.underlying s, P.underlying d with
    | some _, some (.int k') => some (.v (.int k' (k'.wrap n)))
    | some _, some .string => some (.v (.string (Utf8.encode n)))
    | _, _ => none
  | .v (.string b) => match P.underlying s, P.underlying d with
    | some _, some .string => some (.v (.string b))
    | _, _ => none
  | _ => none
/-- A shift or a division only by a number that stands there. -/
def plainOp (op : BinOp) (y : Operand) : Bool := match op, y with
  | .shl, .const _ | .shr, .const _ | .quo, .const _ | .rem, .const _ => true
  | .shl, _ | .shr, _ | .quo, _ | .rem, _ => false
  | _, _ => true
def builtinV (P : Program) (fr : Fr) (b : Builtin) (args : List Operand) (ts : List TypeId) : Option AV :=
  match b, args with
  | .len, [x] => match ts with
    | [t] => match ev fr x, P.underlying t with
      | some (.v (.string s)), some .string => some (.v (.int .i64 s.size))
      | some (.sl _ _ _ els), some (.slice _) => some (.v (.int .i64 els.length))
      | some (.osl _ _ _ len), some (.slice _) => some (.v (.int .i64 len))
      | _, _ => none
    | _ => none
  | .min, [x, y] => match ev fr x, ev fr y with
    | some (.v (.int k a)), some (.v (.int k' b)) => if k = k' then some (.v (.int k (if b < a then b else a))) else none
    | _, _ => none
  | .max, [x, y] => match ev fr x, ev fr y with
    | some (.v (.int k a)), some (.v (.int k' b)) => if k = k' then some (.v (.int k (if a < b then b else a))) else none
    | _, _ => none
  | _, _ => none
def valOp (P : Program) (fr : Fr) : Op → Option AV
  | .move x => ev fr x
  | .assign x => ev fr x
  | .pick c x y => match ev fr c with
    | some (.v (.bool true)) => ev fr x
    | some (.v (.bool false)) => ev fr y
    | _ => none
  | .binOp op t x y _ => match plainOp op y with
    | true => match ev fr x, ev fr y with
      | some a, some b => binV P op t a b
      | _, _ => none
    | false => none
  | .unOp op _ x => match op, ev fr x with
    | .not, some (.v (.bool b)) => some (.v (.bool (!b)))
    | .neg, some (.v (.int k n)) => some (.v (.int k (k.wrap (0 - n))))
    | _, _ => none
  | .convert s d x => match ev fr x with
    | some a => convV P s d a
    | none => none
  | .extract x i => match ev fr x with
    | some (.tup l) => l[i]?
    | _ => none
  | .makeFunc (.func f) first caps => match first.toList, caps.toList.mapM (ev fr) with
    | [], some as => some (.fn f as)
    | _, _ => none
  | .nilCheck x => match ev fr x with
    | some (.ptr id sz i j) => some (.ptr id sz i j)
    | some (.fp cs) => some (.fp cs)
    | some (.fn f cs) => some (.fn f cs)
    | _ => none
  | .field t x f => match ev fr x, fieldAt? P t f with
    | some (.agg cs), some (off, ft) => match shapeOf P ft with
      | some q => part? cs off q
      | none => none
    | _, _ => none
  | .fieldAddr t x f => match ev fr x, fieldOff P t f with
    | some (.ptr id sz i j), some off => some (.ptr id sz i (j + off))
    | some (.fp cs), some off => some (.fp (cs.drop off))
    | _, _ => none
  | .load t x => match ev fr x, shapeOf P t with
    | some (.fp cs), some q => load? cs q
    | _, _ => none
  | .build t parts => match placesOf P t, zeroIs P t, evParts (ev fr) parts.toList with
    | some pl, some zs, some qs => match afill (fun i : Nat => pl[i]?) zs qs with
      | some out => some (.agg out)
      | none => none
    | _, _, _ => none
  | .call c => match c.callee with
    | .builtin b => builtinV P fr b c.args.toList c.argTypes.toList
    | _ => none
  | .makeInterface t x => match ev fr x, P.underlying t with
    | some _, some (.interface _) => none
    | some a, some _ => some (.ifc t a)
    | _, _ => none
  | _ => none
section
variable {P : Program} {o : Oper} {fr : Fr} {σ : St} {R : Option AV → St → Prop}
theorem opj_binV {op : BinOp} {t t' : TypeId} {x y : Operand} {a b r : AV} (ho : o.op = .binOp op t x y t') (hx : ev fr x = some a) (hy : ev fr y = some b) (h : binV P op t a b = some r) (hR : R (some r) σ) : OpJ P o (ev fr) σ R := by
  unfold binV at h
  split at h
  · split at h
    · rename_i ht
      cases h; exact opj_beq ho ht hx hy hR
    · rename_i ht
      cases h; exact opj_bne ho ht hx hy hR
    · cases h
  · split at h
    · rename_i hb; cases h; exact opj_bin ho hx hy hb rfl hR
    · rename_i hb; cases h; exact opj_bin ho hx hy hb rfl hR
    · cases h
  · split at h
    · rename_i hb; cases h; exact opj_bin ho hx hy hb rfl hR
    · cases h
  · cases h
  · split at h
    · rename_i ht
      split at h
      · rename_i h1 h2 h3; cases h; exact opj_isnil ho ht hx hy h1 h2 h3 hR
      · rename_i h1 h2 h3; cases h; exact opj_notnil ho ht hx hy h1 h2 h3 hR
      · cases h
    · cases h
theorem opj_builtinV {b : Builtin} {args : Array Operand} {ts : Array TypeId} {av : AV} (ho : o.op = .call { callee := .builtin b, args := args, argTypes := ts }) (h : builtinV P fr b args.toList ts.toList = some av) (hR : R (some av) σ) : OpJ P o (ev fr) σ R := by
  unfold builtinV at h
  split at h
  · rename_i x ha
    have ha' : args = #[x] := by apply Array.ext'; simpa using ha
    subst ha'
    split at h
    · rename_i t ht
      have ht' : ts = #[t] := by apply Array.ext'; simpa using ht
      subst ht'
      split at h
      · rename_i hx ht; cases h; exact opj_len_str ho rfl ht hx hR
      · rename_i hx ht; cases h; exact opj_len_sl ho rfl ht hx (fun _ => hR)
      · rename_i hx ht; cases h; exact opj_len_osl ho rfl ht hx (fun _ => hR)
      · cases h
    · cases h
  · rename_i x y ha
    have ha' : args = #[x, y] := by apply Array.ext'; simpa using ha
    subst ha'
    split at h
    · rename_i hx hy
      split at h
      · rename_i hk; subst hk; cases h; exact opj_min ho hx hy hR
      · cases h
    · cases h
  · rename_i x y ha
    have ha' : args = #[x, y] := by apply Array.ext'; simpa using ha
    subst ha'
    split at h
    · rename_i hx hy
      split at h
      · rename_i hk; subst hk; cases h; exact opj_max ho hx hy hR
      · cases h
    · cases h
  · cases h
theorem opj_valOp {av : AV} (h : valOp P fr o.op = some av) (hR : R (some av) σ) : OpJ P o (ev fr) σ R := by
  unfold valOp at h
  split at h
  case h_1 x ho => exact opj_move ho h hR
  case h_2 x ho => exact opj_assign ho h hR
  case h_3 c x y ho =>
    split at h
    · rename_i hc; exact opj_pick ho hc h hR
    · rename_i hc; exact opj_pick ho hc h hR
    · cases h
  case h_4 op t x y t' ho =>
    split at h
    · split at h
      · rename_i a b hx hy; exact opj_binV ho hx hy h hR
      · cases h
    · cases h
  case h_5 op t x ho =>
    split at h
    · rename_i hx; cases h; exact opj_not ho hx hR
    · rename_i hx; cases h; exact opj_neg ho hx hR
    · cases h
  case h_6 s d x ho =>
    split at h
    · rename_i a hx
      unfold convV at h
      split at h
      · split at h
        · rename_i hs hd; cases h; exact opj_conv_int ho hs hd hx hR
        · rename_i hs hd; cases h; exact opj_conv_rune ho hs hd hx hR
        · cases h
      · split at h
        · rename_i hs hd; cases h; exact opj_conv_str ho hs hd hx hR
        · cases h
      · cases h
    · cases h
  case h_7 x i ho =>
    split at h
    · rename_i l hx; exact opj_extract ho hx h hR
    · cases h
  case h_8 f first caps ho =>
    split at h
    · rename_i as hf hc
      cases h
      have hf' : first = #[] := by simpa using hf
      subst hf'
      exact opj_makeFunc ho hc hR
    · cases h
  case h_9 x ho =>
    split at h
    · rename_i hx; cases h; exact opj_nilCheck_ptr ho hx hR
    · rename_i hx; cases h; exact opj_nilCheck_fp ho hx hR
    · rename_i hx; cases h; exact opj_nilCheck_fn ho hx hR
    · cases h
  case h_10 t x f ho =>
    split at h
    · rename_i cs off ft hx hf
      split at h
      · rename_i q hq; exact opj_field ho hf hq hx h hR
      · cases h
    · cases h
  case h_11 t x f ho =>
    split at h
    · rename_i hx hf; cases h; exact opj_fieldAddr_ptr ho hf hx hR
    · rename_i hx hf; cases h; exact opj_fieldAddr_fp ho hf hx hR
    · cases h
  case h_12 t x ho =>
    split at h
    · rename_i cs q hx hq; exact opj_load_fp ho hq hx h hR
    · cases h
  case h_13 t parts ho =>
    split at h
    · rename_i pl zs qs hp hz hq
      split at h
      · rename_i out hf; cases h; exact opj_build ho hp hz hq hf hR
      · cases h
    · cases h
  case h_14 c ho =>
    split at h
    · rename_i b hb
      obtain ⟨callee, args, ts⟩ := c
      simp only at hb h
      subst hb
      exact opj_builtinV ho h hR
    · cases h
  case h_15 t x ho =>
    split at h
    · cases h
    · rename_i a d hni hx ht
      cases h
      refine opj_iface ho ht ?_ hx hR
      cases d <;> first | rfl | (exfalso; exact hni _ rfl)
    · cases h
  case h_16 => cases h
end
section
variable {P : Program} {nt : Nat} {ops : Array Oper} {Q Q2 : Post} {fr : Fr} {σ : St} {rest : List Oper} {t : Tmp} {op : Op} {ty : TypeId} {pos : String} {aft : Array Edge} {av : AV}
theorem fits_of (h : Nat.blt t nt = true) : fits nt (some t) = true := decide_eq_true (Nat.le_of_ble_eq_true h)
theorem lj_auto (hd : Nat.blt t nt = true) (hv : valOp P fr op = some av) (h : LJ P nt ops Q rest ((t, av) :: fr) σ) : LJ P nt ops Q (⟨some t, op, ty, pos, aft, none⟩ :: rest) fr σ :=
  lj_op rfl (fits_of hd) (opj_valOp hv h)
theorem lj_autoy {j u : Nat} {b : Bool} (hd : Nat.blt t nt = true) (hj : (ops[j]?).bind (·.dst) = some u) (hl : lk fr u = some (.v (.bool b))) (hv : valOp P fr op = some av) (h : LJ P nt ops Q rest ((t, av) :: fr) σ) : LJ P nt ops Q (⟨some t, op, ty, pos, aft, some (j, b)⟩ :: rest) fr σ :=
  lj_guard_yes rfl hj hl (fits_of hd) (opj_valOp hv h)
theorem fr_case {k : Cx} {tmps : Array Value} {u : Nat} {b : Bool} (hl : lk fr u = some (.v (.bool b))) (h : FrOk k fr tmps) : FrOk k ((u, .v (.bool b)) :: fr) tmps := fun x a hx => by
  rw [lk_cons] at hx
  split at hx
  · rename_i he; subst he; exact h x a (hl.trans hx)
  · exact h x a hx
theorem lj_case {u : Nat} {b : Bool} {l : List Oper} (hl : lk fr u = some (.v (.bool b))) (ht : b = true → LJ P nt ops Q l ((u, .v (.bool true)) :: fr) σ) (hf : b = false → LJ P nt ops Q l ((u, .v (.bool false)) :: fr) σ) : LJ P nt ops Q l fr σ := fun k a hσ hk hz hfr => by
  cases b with
  | true => exact ht rfl k a hσ hk hz (fr_case hl hfr)
  | false => exact hf rfl k a hσ hk hz (fr_case hl hfr)
theorem lj_gt {j u : Nat} {c : Bool} {dst : Option Tmp} (hj : (ops[j]?).bind (·.dst) = some u) (hl : lk fr u = some (.v (.bool true))) (h : LJ P nt ops Q (⟨dst, op, ty, pos, aft, some (j, c)⟩ :: rest) fr σ) : LJ P nt ops Q (⟨dst, op, ty, pos, aft, some (j, c)⟩ :: rest) fr σ := h
theorem lj_gf {j u : Nat} {c : Bool} {dst : Option Tmp} (hj : (ops[j]?).bind (·.dst) = some u) (hl : lk fr u = some (.v (.bool false))) (h : LJ P nt ops Q (⟨dst, op, ty, pos, aft, some (j, c)⟩ :: rest) fr σ) : LJ P nt ops Q (⟨dst, op, ty, pos, aft, some (j, c)⟩ :: rest) fr σ := h
theorem lj_gcase {j u : Nat} {b c : Bool} {dst : Option Tmp} (hj : (ops[j]?).bind (·.dst) = some u) (hl : lk fr u = some (.v (.bool b))) (ht : b = true → LJ P nt ops Q (⟨dst, op, ty, pos, aft, some (j, c)⟩ :: rest) ((u, .v (.bool true)) :: fr) σ) (hf : b = false → LJ P nt ops Q (⟨dst, op, ty, pos, aft, some (j, c)⟩ :: rest) ((u, .v (.bool false)) :: fr) σ) : LJ P nt ops Q (⟨dst, op, ty, pos, aft, some (j, c)⟩ :: rest) fr σ :=
  lj_case hl ht hf
end

/-! ### Loops by their heads -/
def Sub : Fr → Fr → Prop
  | [], _ => True
  | (t, a) :: r, g => lk g t = some a ∧ Sub r g
theorem Sub.get {g : Fr} : ∀ {f : Fr}, Sub f g → ∀ t a, lk f t = some a → lk g t = some a
  | [], _, t, a, h => by cases h
  | (u, b) :: r, hs, t, a, h => by
    rw [lk_cons] at h
    split at h
    · rename_i he; subst he; cases h; exact hs.1
    · exact Sub.get hs.2 t a h
section
variable {P : Program} {nt : Nat} {ops : Array Oper} {Q Q2 : Post} {fr : Fr} {σ : St} {c : Code}
theorem cj_sub {fr' : Fr} {σ' : St} (hf : Sub fr' fr) (hle : σ'.le σ) (h : CJ P nt c Q fr' σ') : CJ P nt c Q fr σ := cj_forget hf.get hle h
theorem lj_sub {l : List Oper} {fr' : Fr} {σ' : St} (hf : Sub fr' fr) (hle : σ'.le σ) (h : LJ P nt ops Q l fr' σ') : LJ P nt ops Q l fr σ := lj_ghost (ghost_forget hf.get hle h)
/-- A loop: what the head's frame (H) and store (S) hold, of a state of one's own choice. -/
theorem cj_head {α : Type} (I : α → Prop) (H : α → Fr) (S : α → St) (m : α → Nat) (s0 : α) (hI : I s0) (h0 : Sub (H s0) fr) (hσ : (S s0).le σ)
    (hr : ∀ s, I s → CJ P nt c (thn Q (fun fr' σ' => ∃ s', I s' ∧ m s' < m s ∧ Sub (H s') fr' ∧ (S s').le σ')) (H s) (S s)) : CJ P nt (.loop c) Q fr σ :=
  cj_loop (fun s fr σ => I s ∧ Sub (H s) fr ∧ (S s).le σ) m s0 ⟨hI, h0, hσ⟩ (fun s fr σ ⟨h1, h2, h3⟩ => cj_sub h2 h3 ((hr s h1).mono fun e fr' σ' h => by
    cases e with
    | normal => obtain ⟨s', h4, h5, h6, h7⟩ := h; exact ⟨s', ⟨h4, h6, h7⟩, h5⟩
    | _ => exact h))
end

/-- Likewise, each entry the same or less. -/
def SubW : Fr → Fr → Prop
  | [], _ => True
  | (t, a) :: r, g => (∃ b, lk g t = some b ∧ ∀ (k : Cx) (u : Value), Rep k b u → Rep k a u) ∧ SubW r g
theorem SubW.fr {k : Cx} {g : Fr} {tmps : Array Value} (h : FrOk k g tmps) : ∀ {f : Fr}, SubW f g → FrOk k f tmps
  | [], _, t, a, h => by cases h
  | (u, b) :: r, hs, t, a, hl => by
    rw [lk_cons] at hl
    split at hl
    · rename_i he
      subst he; cases hl
      obtain ⟨⟨c, h1, h2⟩, _⟩ := hs
      obtain ⟨v, h3, h4⟩ := h t c h1
      exact ⟨v, h3, h2 k v h4⟩
    · exact SubW.fr h hs.2 t a hl
section
variable {P : Program} {nt : Nat} {ops : Array Oper} {Q Q2 : Post} {fr : Fr} {σ : St} {c : Code}
theorem ghost_subw {fr' : Fr} {σ' : St} {K : Fr → St → Prop} (hf : SubW fr' fr) (hle : σ'.le σ) (h : K fr' σ') : Ghost fr σ K := fun k tmps hσ hk hfr => by
  subst hσ
  obtain ⟨hok, hst⟩ := hk.forget hle
  exact ⟨{ k with σ := σ' }, fr', rfl, hok, hst, (SubW.fr hfr hf).step hst, h⟩
theorem cj_subw {fr' : Fr} {σ' : St} (hf : SubW fr' fr) (hle : σ'.le σ) (h : CJ P nt c Q fr' σ') : CJ P nt c Q fr σ := cj_ghost (ghost_subw hf hle h)
theorem cj_headW {α : Type} (I : α → Prop) (H : α → Fr) (S : α → St) (m : α → Nat) (s0 : α) (hI : I s0) (h0 : SubW (H s0) fr) (hσ : (S s0).le σ)
    (hr : ∀ s, I s → CJ P nt c (thn Q (fun fr' σ' => ∃ s', I s' ∧ m s' < m s ∧ SubW (H s') fr' ∧ (S s').le σ')) (H s) (S s)) : CJ P nt (.loop c) Q fr σ :=
  cj_loop (fun s fr σ => I s ∧ SubW (H s) fr ∧ (S s).le σ) m s0 ⟨hI, h0, hσ⟩ (fun s fr σ ⟨h1, h2, h3⟩ => cj_subw h2 h3 ((hr s h1).mono fun e fr' σ' h => by
    cases e with
    | normal => obtain ⟨s', h4, h5, h6, h7⟩ := h; exact ⟨s', ⟨h4, h6, h7⟩, h5⟩
    | _ => exact h))
end
end Go.Proofs.YtledbkkaaomjpabDoor.Ab
