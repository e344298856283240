/- Abstract values over the model's memory, 3: operations that write nothing. -/
import Derived.Test.YtledbkkaaomjpabDoorAb2
import Derived.Deep.MidRow
import Derived.Laws.Slices
set_option linter.unusedVariables false
set_option linter.unusedSimpArgs false
namespace Go.Proofs.YtledbkkaaomjpabDoor.Ab
open Go

theorem rep_v {k : Cx} {x u : Value} (h : Rep k (.v x) u) : u = x := by cases h; rfl

section
variable {P : Program} {o : Oper} {E : Operand → Option AV} {σ : St} {R : Option AV → St → Prop}

theorem opj_move {x : Operand} {av : AV} (ho : o.op = .move x) (hx : E x = some av) (hR : R (some av) σ) : OpJ P o E σ R :=
  opj_quiet av (fun k e hσ hk hr => ⟨e x, by unfold execOp; simp only [ho]; rfl, hr x (by rw [ho]; simp [Op.operands]) av hx⟩) hR
theorem opj_assign {x : Operand} {av : AV} (ho : o.op = .assign x) (hx : E x = some av) (hR : R (some av) σ) : OpJ P o E σ R :=
  opj_quiet av (fun k e hσ hk hr => ⟨e x, by unfold execOp; simp only [ho]; rfl, hr x (by rw [ho]; simp [Op.operands]) av hx⟩) hR
theorem opj_pick {c x y : Operand} {b : Bool} {av : AV} (ho : o.op = .pick c x y) (hc : E c = some (.v (.bool b))) (hx : (if b then E x else E y) = some av) (hR : R (some av) σ) : OpJ P o E σ R :=
  opj_quiet av (fun k e hσ hk hr => by
    have h1 := rep_v (hr c (by rw [ho]; simp [Op.operands]) _ hc)
    cases b with
    | true =>
      refine ⟨e x, ?_, hr x (by rw [ho]; simp [Op.operands]) av hx⟩
      unfold execOp; simp [ho, h1, asBool]
    | false =>
      refine ⟨e y, ?_, hr y (by rw [ho]; simp [Op.operands]) av hx⟩
      unfold execOp; simp [ho, h1, asBool]) hR

/-! ### Numbers and strings -/
def bin2 (op : BinOp) (x y : Value) : Option Value :=
  match op, x, y with
  | .shl, .int k a, .int _ b => if b < 0 then none else some (.int k (k.wrap (a * 2 ^ (min b.toNat k.bits))))
  | .shr, .int k a, .int _ b => if b < 0 then none else some (.int k (a.fdiv (2 ^ (min b.toNat k.bits))))
  | .add, .int k a, .int k' b => if k = k' then some (.int k (k.wrap (a + b))) else none
  | .sub, .int k a, .int k' b => if k = k' then some (.int k (k.wrap (a - b))) else none
  | .mul, .int k a, .int k' b => if k = k' then some (.int k (k.wrap (a * b))) else none
  | .quo, .int k a, .int k' b => if k = k' then (if b = 0 then none else some (.int k (k.wrap (a.tdiv b)))) else none
  | .rem, .int k a, .int k' b => if k = k' then (if b = 0 then none else some (.int k (a.tmod b))) else none
  | .and, .int k a, .int k' b => if k = k' then some (.int k (k.wrap (BitVec.ofInt k.bits a &&& BitVec.ofInt k.bits b).toNat)) else none
  | .or, .int k a, .int k' b => if k = k' then some (.int k (k.wrap (BitVec.ofInt k.bits a ||| BitVec.ofInt k.bits b).toNat)) else none
  | .xor, .int k a, .int k' b => if k = k' then some (.int k (k.wrap (BitVec.ofInt k.bits a ^^^ BitVec.ofInt k.bits b).toNat)) else none
  | .eql, .int k a, .int k' b => if k = k' then some (.bool (decide (a = b))) else none
  | .neq, .int k a, .int k' b => if k = k' then some (.bool (!decide (a = b))) else none
  | .lss, .int k a, .int k' b => if k = k' then some (.bool (decide (a < b))) else none
  | .leq, .int k a, .int k' b => if k = k' then some (.bool (decide (a ≤ b))) else none
  | .gtr, .int k a, .int k' b => if k = k' then some (.bool (decide (b < a))) else none
  | .geq, .int k a, .int k' b => if k = k' then some (.bool (decide (b ≤ a))) else none
  | .eql, .string a, .string b => some (.bool (decide (a = b)))
  | .neq, .string a, .string b => some (.bool (!decide (a = b)))
  | .lss, .string a, .string b => some (.bool (Op.bytesLess a.data.toList b.data.toList))
  | _, _, _ => none
theorem ByteArray.toList_eq (s : ByteArray) : s.toList = s.data.toList := by
  have key : ∀ (n i : Nat) (r : List UInt8), s.size - i = n → ByteArray.toList.loop s i r = r.reverse ++ s.data.toList.drop i := by
    intro n
    induction n with
    | zero =>
      intro i r h
      unfold ByteArray.toList.loop
      rw [if_neg (by omega), List.drop_eq_nil_of_le (by rw [Array.length_toList]; show s.size ≤ i; omega)]
      simp
    | succ n ih =>
      intro i r h
      unfold ByteArray.toList.loop
      rw [if_pos (by omega), ih _ _ (by omega)]
      have hi : i < s.data.toList.length := by rw [Array.length_toList]; show i < s.size; omega
      rw [List.drop_eq_getElem_cons hi]
      have hi' : i < s.data.size := by simpa using hi
      simp only [List.reverse_cons, List.append_assoc, List.singleton_append]
      congr 2
      show s.data[i]! = _
      rw [getElem!_pos s.data i hi']
      simp
  show ByteArray.toList.loop s 0 [] = _
  rw [key _ 0 [] rfl]
  simp
theorem str_beq (a b : ByteArray) : (a.toList == b.toList) = decide (a = b) := by
  rw [ByteArray.toList_eq, ByteArray.toList_eq]
  by_cases h : a = b
  · subst h; simp
  · rw [decide_eq_false h, beq_eq_false_iff_ne]
    intro h'
    apply h
    cases a; cases b
    congr 1
    exact Array.toList_inj.1 h'
theorem run_bin2 {op : BinOp} {x y r : Value} (h : bin2 op x y = some r) (t : TypeId) (xo yo : Operand) (w : World) : ((do eqGuard op t xo yo x y; binOp op t x y) : Sem Value).run P w = .ok r w := by
  unfold bin2 at h
  split at h
  case h_1 => split at h <;> cases h; rename_i hb; simp [eqGuard, binOp, Op.shift, hb]
  case h_2 => split at h <;> cases h; rename_i hb; simp [eqGuard, binOp, Op.shift, hb]
  case h_6 =>
    split at h <;> try cases h
    rename_i hk
    split at h <;> cases h
    rename_i hb
    simp [eqGuard, binOp, Op.intDiv, hk, hb]
  case h_7 =>
    split at h <;> try cases h
    rename_i hk
    split at h <;> cases h
    rename_i hb
    simp [eqGuard, binOp, Op.intDiv, hk, hb]
  case h_17 => cases h; simp [eqGuard, binOp, Op.stringOp, str_beq]
  case h_18 => cases h; simp [eqGuard, binOp, Op.stringOp, str_beq]
  case h_19 => cases h; simp [eqGuard, binOp, Op.stringOp, ByteArray.toList_eq]
  case h_20 => cases h
  all_goals
    split at h <;> cases h
    rename_i hk
    subst hk
    simp [eqGuard, binOp, Op.intArith, Op.intBits, Op.intCmp] <;> first | rfl | (congr; done) | skip
theorem opj_bin {op : BinOp} {t t' : TypeId} {x y : Operand} {a b r : Value} (ho : o.op = .binOp op t x y t') (hx : E x = some (.v a)) (hy : E y = some (.v b)) (hb : bin2 op a b = some r) (h1 : r.oneCell' = true) (hR : R (some (.v r)) σ) : OpJ P o E σ R :=
  opj_quiet _ (fun k e hσ hk hr => ⟨r, by
    have ha := rep_v (hr x (by rw [ho]; simp [Op.operands]) _ hx)
    have hb' := rep_v (hr y (by rw [ho]; simp [Op.operands]) _ hy)
    unfold execOp
    simp only [ho, ha, hb', Sem.run_bind]
    rw [← Sem.run_bind, run_bin2 hb]
    rfl, .v h1⟩) hR

/-- A shift, a division whose right side is a variable; two strings made one. -/
theorem opj_shl {t t' : TypeId} {x y : Operand} {k k' : IntKind} {a b : Int} (ho : o.op = .binOp .shl t x y t') (hx : E x = some (.v (.int k a))) (hy : E y = some (.v (.int k' b))) (hb : 0 ≤ b) (hR : R (some (.v (.int k (k.wrap (a * 2 ^ (min b.toNat k.bits)))))) σ) : OpJ P o E σ R :=
  opj_bin ho hx hy (by simp only [bin2]; rw [if_neg (by omega)]) rfl hR
theorem opj_shr {t t' : TypeId} {x y : Operand} {k k' : IntKind} {a b : Int} (ho : o.op = .binOp .shr t x y t') (hx : E x = some (.v (.int k a))) (hy : E y = some (.v (.int k' b))) (hb : 0 ≤ b) (hR : R (some (.v (.int k (a.fdiv (2 ^ (min b.toNat k.bits)))))) σ) : OpJ P o E σ R :=
  opj_bin ho hx hy (by simp only [bin2]; rw [if_neg (by omega)]) rfl hR
theorem opj_quo {t t' : TypeId} {x y : Operand} {k : IntKind} {a b : Int} (ho : o.op = .binOp .quo t x y t') (hx : E x = some (.v (.int k a))) (hy : E y = some (.v (.int k b))) (hb : b ≠ 0) (hR : R (some (.v (.int k (k.wrap (a.tdiv b))))) σ) : OpJ P o E σ R :=
  opj_bin ho hx hy (by simp [bin2, hb]) rfl hR
theorem opj_concat {t t' : TypeId} {x y : Operand} {a b : ByteArray} (ho : o.op = .binOp .add t x y t') (hx : E x = some (.v (.string a))) (hy : E y = some (.v (.string b))) (hb : a.size + b.size ≤ 9223372036854775807) (hR : R (some (.v (.string (a ++ b)))) σ) : OpJ P o E σ R :=
  opj_quiet _ (fun k e hσ hk hr => ⟨.string (a ++ b), by
    have ha := rep_v (hr x (by rw [ho]; simp [Op.operands]) _ hx)
    have hb' := rep_v (hr y (by rw [ho]; simp [Op.operands]) _ hy)
    have hm : ¬ (IntKind.i64.max < ((a.size : Int) + (b.size : Int))) := by
      have : IntKind.i64.max = 9223372036854775807 := rfl
      omega
    unfold execOp
    simp [ho, ha, hb', eqGuard, binOp, Op.stringOp, hm]
    omega, .v rfl⟩) hR
theorem run_equalIn_bool (d : Nat) {t : TypeId} (ht : P.underlying t = some .bool) (a b : Bool) (w : World) : (Op.equalIn (d + 1) t (.bool a) (.bool b)).run P w = .ok (a == b) w := by
  simp [Op.equalIn, run_underlying ht]
theorem run_equalIn_ptr (d : Nat) {t e : TypeId} (ht : P.underlying t = some (.pointer e)) (a : Option Addr) (w : World) : (Op.equalIn (d + 1) t (.pointer a) (.pointer none)).run P w = .ok a.isNone w := by
  cases a <;> simp [Op.equalIn, run_underlying ht]
theorem run_equalIn_slice (d : Nat) {t e : TypeId} (ht : P.underlying t = some (.slice e)) (a : Option Addr) (n c : Nat) (w : World) : (Op.equalIn (d + 1) t (.slice a n c) (.slice none 0 0)).run P w = .ok a.isNone w := by
  cases a <;> simp [Op.equalIn, run_underlying ht]
theorem run_equalIn_map (d : Nat) {t x y : TypeId} (ht : P.underlying t = some (.map x y)) (a : Option Nat) (w : World) : (Op.equalIn (d + 1) t (.map a) (.map none)).run P w = .ok a.isNone w := by
  cases a <;> simp [Op.equalIn, run_underlying ht]
theorem opj_beq {t t' : TypeId} {x y : Operand} {a b : Bool} (ho : o.op = .binOp .eql t x y t') (ht : P.underlying t = some .bool) (hx : E x = some (.v (.bool a))) (hy : E y = some (.v (.bool b))) (hR : R (some (.v (.bool (a == b)))) σ) : OpJ P o E σ R :=
  opj_quiet _ (fun k e hσ hk hr => ⟨.bool (a == b), by
    have ha := rep_v (hr x (by rw [ho]; simp [Op.operands]) _ hx)
    have hb' := rep_v (hr y (by rw [ho]; simp [Op.operands]) _ hy)
    unfold execOp
    simp only [ho, ha, hb', eqGuard, binOp, Op.equal, Op.maxDepth, Sem.run_bind, Sem.run_pure, run_equalIn_bool 9999 ht, Result.andThen_ok]
    simp, .v rfl⟩) hR
theorem opj_bne {t t' : TypeId} {x y : Operand} {a b : Bool} (ho : o.op = .binOp .neq t x y t') (ht : P.underlying t = some .bool) (hx : E x = some (.v (.bool a))) (hy : E y = some (.v (.bool b))) (hR : R (some (.v (.bool (!(a == b))))) σ) : OpJ P o E σ R :=
  opj_quiet _ (fun k e hσ hk hr => ⟨.bool (!(a == b)), by
    have ha := rep_v (hr x (by rw [ho]; simp [Op.operands]) _ hx)
    have hb' := rep_v (hr y (by rw [ho]; simp [Op.operands]) _ hy)
    unfold execOp
    simp only [ho, ha, hb', eqGuard, binOp, Op.equal, Op.maxDepth, Sem.run_bind, Sem.run_pure, run_equalIn_bool 9999 ht, Result.andThen_ok]
    simp, .v rfl⟩) hR
theorem opj_not {t : TypeId} {x : Operand} {b : Bool} (ho : o.op = .unOp .not t x) (hx : E x = some (.v (.bool b))) (hR : R (some (.v (.bool (!b)))) σ) : OpJ P o E σ R :=
  opj_quiet _ (fun k e hσ hk hr => ⟨.bool (!b), by
    have ha := rep_v (hr x (by rw [ho]; simp [Op.operands]) _ hx)
    unfold execOp
    simp [ho, ha, Op.unary], .v rfl⟩) hR
theorem opj_neg {t : TypeId} {x : Operand} {k : IntKind} {n : Int} (ho : o.op = .unOp .neg t x) (hx : E x = some (.v (.int k n))) (hR : R (some (.v (.int k (k.wrap (0 - n))))) σ) : OpJ P o E σ R :=
  opj_quiet _ (fun k' e hσ hk hr => ⟨.int k (k.wrap (0 - n)), by
    have ha := rep_v (hr x (by rw [ho]; simp [Op.operands]) _ hx)
    unfold execOp
    simp [ho, ha, Op.unary, Op.intArith], .v rfl⟩) hR

/-! ### Conversions -/
theorem opj_conv_int {s d : TypeId} {x : Operand} {k k' : IntKind} {n : Int} {u : TypeDesc} (ho : o.op = .convert s d x) (hs : P.underlying s = some u) (hd : P.underlying d = some (.int k')) (hx : E x = some (.v (.int k n))) (hR : R (some (.v (.int k' (k'.wrap n)))) σ) : OpJ P o E σ R :=
  opj_quiet _ (fun k0 e hσ hk hr => ⟨.int k' (k'.wrap n), by
    have ha := rep_v (hr x (by rw [ho]; simp [Op.operands]) _ hx)
    unfold execOp
    simp [ho, ha, convert, run_underlying hs, run_underlying hd, Conv.intToInt], .v rfl⟩) hR
theorem opj_conv_rune {s d : TypeId} {x : Operand} {k : IntKind} {n : Int} {u : TypeDesc} (ho : o.op = .convert s d x) (hs : P.underlying s = some u) (hd : P.underlying d = some .string) (hx : E x = some (.v (.int k n))) (hR : R (some (.v (.string (Utf8.encode n)))) σ) : OpJ P o E σ R :=
  opj_quiet _ (fun k0 e hσ hk hr => ⟨.string (Utf8.encode n), by
    have ha := rep_v (hr x (by rw [ho]; simp [Op.operands]) _ hx)
    unfold execOp
    simp [ho, ha, convert, run_underlying hs, run_underlying hd, Conv.intToString], .v rfl⟩) hR
theorem opj_conv_str {s d : TypeId} {x : Operand} {b : ByteArray} {u : TypeDesc} (ho : o.op = .convert s d x) (hs : P.underlying s = some u) (hd : P.underlying d = some .string) (hx : E x = some (.v (.string b))) (hR : R (some (.v (.string b))) σ) : OpJ P o E σ R :=
  opj_quiet _ (fun k0 e hσ hk hr => ⟨.string b, by
    have ha := rep_v (hr x (by rw [ho]; simp [Op.operands]) _ hx)
    unfold execOp
    simp [ho, ha, convert, run_underlying hs, run_underlying hd], .v rfl⟩) hR

/-! ### Length, index, cut of strings -/
def sb (s : ByteArray) (n : Int) : Int := ((s.data.toList.getD n.toNat 0).toNat : Int)
theorem opj_len_str {t : TypeId} {x : Operand} {s : ByteArray} {ts : Array TypeId} (ho : o.op = .call { callee := .builtin .len, args := #[x], argTypes := ts }) (ht0 : ts = #[t]) (ht : P.underlying t = some .string) (hx : E x = some (.v (.string s))) (hR : R (some (.v (.int .i64 s.size))) σ) : OpJ P o E σ R :=
  opj_quiet _ (fun k e hσ hk hr => ⟨.int .i64 s.size, by
    subst ht0
    have ha := rep_v (hr x (by rw [ho]; simp [Op.operands, Call.operands]) _ hx)
    unfold execOp
    simp [ho, ha, resolve, invoke, builtin, Builtin.len_, run_underlying ht, goInt], .v rfl⟩) hR
theorem opj_index_str {t : TypeId} {x ix : Operand} {s : ByteArray} {kk : IntKind} {n : Int} (ho : o.op = .index t x ix) (ht : P.underlying t = some .string) (hx : E x = some (.v (.string s))) (hi : E ix = some (.v (.int kk n))) (h0 : 0 ≤ n) (h1 : n < s.size) (hR : R (some (.v (.int .u8 (sb s n)))) σ) : OpJ P o E σ R :=
  opj_quiet _ (fun k e hσ hk hr => ⟨.int .u8 (sb s n), by
    have ha := rep_v (hr x (by rw [ho]; simp [Op.operands]) _ hx)
    have hb := rep_v (hr ix (by rw [ho]; simp [Op.operands]) _ hi)
    have hlt : n.toNat < s.size := by omega
    have hg : s[n.toNat]? = some s[n.toNat] := getElem?_pos s n.toNat hlt
    have hsb : sb s n = (s[n.toNat].toNat : Int) := by
      unfold sb
      have hl : n.toNat < s.data.toList.length := by rw [Array.length_toList]; exact hlt
      rw [List.getD_eq_getElem?_getD, List.getElem?_eq_getElem hl]
      rfl
    unfold execOp
    simp [ho, ha, hb, Instr.index, asIntOf, run_underlying ht, h0, hg, hsb], .v rfl⟩) hR
theorem run_bounds (w : World) (isS : Bool) (n : Nat) (lo hi : Option Value) (l h : Nat) (hl : match lo with | none => l = 0 | some v => ∃ kl i, v = .int kl i ∧ 0 ≤ i ∧ i.toNat = l) (hh : match hi with | none => h = n | some v => ∃ kh i, v = .int kh i ∧ 0 ≤ i ∧ i.toNat = h) (c : Nat) (hn : n ≤ c) (h1 : l ≤ h) (h2 : h ≤ c) :
    (Instr.sliceBounds isS n c lo hi none).run P w = .ok (l, h, c) w := by
  cases lo with
  | none =>
    subst hl
    cases hi with
    | none => subst hh; simp [Instr.sliceBounds]
    | some v =>
      obtain ⟨kh, i, rfl, hi0, rfl⟩ := hh
      have : i ≤ (c : Int) := by omega
      simp [Instr.sliceBounds, Instr.sliceBound, asIntOf, hi0, this]
  | some u =>
    obtain ⟨kl, j, rfl, hj0, rfl⟩ := hl
    cases hi with
    | none =>
      subst hh
      have : j ≤ (h : Int) := by omega
      simp [Instr.sliceBounds, Instr.sliceBound, asIntOf, hj0, this]
    | some v =>
      obtain ⟨kh, i, rfl, hi0, rfl⟩ := hh
      have h3 : i ≤ (c : Int) := by omega
      have h4 : j ≤ max i 0 := by omega
      simp [Instr.sliceBounds, Instr.sliceBound, asIntOf, hi0, h3, hj0, h4]
/-- A bound of a cut: what it evaluates to. -/
def bound (E : Operand → Option AV) (d : Nat) : Option Operand → Option Int
  | none => some d
  | some x => match E x with
    | some (.v (.int _ n)) => some n
    | _ => none
theorem bound_lo {k : Cx} {e : Operand → Value} {l : Array Operand} (hr : RepsOn k E e l) {d : Nat} {lo : Option Operand} {i : Int} (hb : bound E d lo = some i) (hm : ∀ x, lo = some x → x ∈ l) (h0 : 0 ≤ i) :
    match lo.map e with | none => i.toNat = d | some v => ∃ kl j, v = .int kl j ∧ 0 ≤ j ∧ j.toNat = i.toNat := by
  cases lo with
  | none => simp only [bound, Option.some.injEq] at hb; simp only [Option.map_none]; omega
  | some x =>
    simp only [bound] at hb
    simp only [Option.map_some]
    cases hx : E x with
    | none => simp [hx] at hb
    | some av =>
      cases av with
      | v u =>
        cases u with
        | int kk n =>
          simp only [hx, Option.some.injEq] at hb
          subst hb
          exact ⟨kk, n, rep_v (hr x (hm x rfl) _ hx), h0, rfl⟩
        | _ => simp [hx] at hb
      | _ => simp [hx] at hb
theorem opj_slice_str {t : TypeId} {x : Operand} {lo hi : Option Operand} {s : ByteArray} {l h : Int} (ho : o.op = .slice t x lo hi none) (ht : P.underlying t = some .string) (hx : E x = some (.v (.string s))) (hlo : bound E 0 lo = some l) (hhi : bound E s.size hi = some h)
    (h0 : 0 ≤ l) (h1 : l ≤ h) (h2 : h ≤ s.size) (hR : R (some (.v (.string (s.extract l.toNat h.toNat)))) σ) : OpJ P o E σ R :=
  opj_quiet _ (fun k e hσ hk hr => ⟨.string (s.extract l.toNat h.toNat), by
    have ha := rep_v (hr x (by rw [ho]; simp [Op.operands]) _ hx)
    have hbl := bound_lo hr hlo (fun y hy => by rw [ho]; subst hy; simp [Op.operands]) h0
    have hbh := bound_lo hr hhi (fun y hy => by rw [ho]; subst hy; simp [Op.operands]) (by omega)
    have hb := run_bounds (P := P) k.w false s.size (lo.map e) (hi.map e) l.toNat h.toNat hbl hbh s.size (Nat.le_refl _) (by omega) (by omega)
    unfold execOp
    simp only [ho, ha, Option.map_none, Instr.sliceAt, Sem.run_bind, run_underlying ht, Result.andThen_ok, Instr.slice, Option.isSome_none, Bool.false_eq_true, if_false, Sem.run_pure, hb]
    , .v rfl⟩) hR

/-! ### Parts -/
theorem opj_extract {x : Operand} {i : Nat} {l : List AV} {av : AV} (ho : o.op = .extract x i) (hx : E x = some (.tup l)) (hi : l[i]? = some av) (hR : R (some av) σ) : OpJ P o E σ R :=
  opj_quiet av (fun k e hσ hk hr => by
    have h := hr x (by rw [ho]; simp [Op.operands]) _ hx
    generalize hu : e x = u at h
    cases h with
    | tup hl hc =>
      rename_i vs
      have hlt : i < vs.size := by rw [hl]; exact (List.getElem?_eq_some_iff.1 hi).1
      have hv : vs[i]? = some vs[i] := by simp [hlt]
      refine ⟨vs[i], ?_, hc i av _ hi hv⟩
      unfold execOp
      simp [ho, hu, Instr.extract, hv]) hR
theorem opj_makeFunc {f : FuncId} {caps : Array Operand} {as : List AV} (ho : o.op = .makeFunc (.func f) #[] caps) (hc : caps.toList.mapM E = some as) (hR : R (some (.fn f as)) σ) : OpJ P o E σ R :=
  opj_quiet _ (fun k e hσ hk hr => by
    refine ⟨.func (.func f) #[] (caps.map e), ?_, ?_⟩
    · unfold execOp
      simp [ho, Instr.makeFunc]
    · have key : ∀ (l : List Operand) (as : List AV), (∀ x ∈ l, x ∈ o.op.operands) → l.mapM E = some as → as.length = l.length ∧ ∀ (j : Nat) a u, as[j]? = some a → (l.map e)[j]? = some u → Rep k a u := by
        intro l
        induction l with
        | nil => intro as _ h; simp at h; subst h; exact ⟨rfl, fun j a u h _ => by simp at h⟩
        | cons x l ih =>
          intro as hm h
          simp only [List.mapM_cons, Option.bind_eq_bind, Option.bind_eq_some_iff, Option.pure_def, Option.some.injEq] at h
          obtain ⟨a, ha, as', has, rfl⟩ := h
          obtain ⟨h1, h2⟩ := ih as' (fun y hy => hm y (by simp [hy])) has
          refine ⟨by simp [h1], fun j b u hj hu => ?_⟩
          cases j with
          | zero => simp at hj hu; subst hj; subst hu; exact hr x (hm x (by simp)) _ ha
          | succ j => exact h2 j b u (by simpa using hj) (by simpa using hu)
      obtain ⟨h1, h2⟩ := key caps.toList as (fun x hx => by rw [ho]; simpa [Op.operands] using hx) hc
      exact .fn (by simp [h1]) (fun j a u hj hu => h2 j a u hj (by simpa [← Array.getElem?_toList] using hu))) hR
theorem opj_iface {t : TypeId} {x : Operand} {av : AV} {d : TypeDesc} (ho : o.op = .makeInterface t x) (ht : P.underlying t = some d) (hn : (match d with | .interface _ => false | _ => true) = true) (hx : E x = some av) (hR : R (some (.ifc t av)) σ) : OpJ P o E σ R :=
  opj_quiet _ (fun k e hσ hk hr => ⟨.iface t (e x), by
    unfold execOp
    simp only [ho, Instr.makeInterface, Sem.run_bind, run_underlying ht, Result.andThen_ok]
    cases d <;> simp at hn <;> simp, .ifc (hr x (by rw [ho]; simp [Op.operands]) _ hx)⟩) hR
theorem opj_nilCheck_ptr {x : Operand} {id sz i j : Nat} (ho : o.op = .nilCheck x) (hx : E x = some (.ptr id sz i j)) (hR : R (some (.ptr id sz i j)) σ) : OpJ P o E σ R :=
  opj_quiet _ (fun k e hσ hk hr => by
    have h := hr x (by rw [ho]; simp [Op.operands]) _ hx
    refine ⟨e x, ?_, h⟩
    generalize hu : e x = u at h
    cases h
    unfold execOp; simp [ho, hu]) hR
theorem opj_nilCheck_fp {x : Operand} {cs : List AV} (ho : o.op = .nilCheck x) (hx : E x = some (.fp cs)) (hR : R (some (.fp cs)) σ) : OpJ P o E σ R :=
  opj_quiet _ (fun k e hσ hk hr => by
    have h := hr x (by rw [ho]; simp [Op.operands]) _ hx
    refine ⟨e x, ?_, h⟩
    generalize hu : e x = u at h
    cases h
    unfold execOp; simp [ho, hu]) hR
theorem opj_nilCheck_fn {x : Operand} {f : FuncId} {cs : List AV} (ho : o.op = .nilCheck x) (hx : E x = some (.fn f cs)) (hR : R (some (.fn f cs)) σ) : OpJ P o E σ R :=
  opj_quiet _ (fun k e hσ hk hr => by
    have h := hr x (by rw [ho]; simp [Op.operands]) _ hx
    refine ⟨e x, ?_, h⟩
    generalize hu : e x = u at h
    cases h
    unfold execOp; simp [ho, hu]) hR
/-- A pointer or a slice against nil. -/
def isNil : AV → Option Bool
  | .v (.pointer none) => some true
  | .ptr .. => some false
  | .fp _ => some false
  | .sl (some b) _ _ els => some b
  | .sl none _ _ (_ :: _) => some false
  | _ => none
def nilKind (d : TypeDesc) (av : AV) : Bool := match d, av with
  | .pointer _, .v (.pointer none) | .pointer _, .ptr .. | .pointer _, .fp _ => true
  | .slice _, .sl .. => true
  | _, _ => false
def theNil (d : TypeDesc) (av : AV) : Bool := match d, av with
  | .pointer _, .v (.pointer none) => true
  | .slice _, .sl (some true) _ _ [] => true
  | _, _ => false
theorem theNil_ptr {e : TypeId} {c : AV} (h : theNil (.pointer e) c = true) : c = .v (.pointer none) := by
  unfold theNil at h
  split at h <;> first | rfl | (simp_all; done)
theorem theNil_slice {e : TypeId} {c : AV} (h : theNil (.slice e) c = true) : ∃ f s, c = .sl (some true) f s [] := by
  unfold theNil at h
  split at h <;> first | exact ⟨_, _, rfl⟩ | (simp_all; done)
theorem run_nil {k : Cx} {av c : AV} {u z : Value} {d : TypeDesc} {t : TypeId} (ht : P.underlying t = some d) (hu : Rep k av u) (hz : Rep k c z) (hk : nilKind d av = true) (hn : theNil d c = true) {b : Bool} (hb : isNil av = some b) (w : World) (n : Nat) :
    (Op.equalIn (n + 1) t u z).run P w = .ok b w ∧ (∀ xo yo, (eqGuard .eql t xo yo u z).run P w = .ok () w ∧ (eqGuard .neq t xo yo u z).run P w = .ok () w) ∧ (binOp .eql t u z = (do pure (.bool (← Op.equal t u z)))) ∧ (binOp .neq t u z = (do pure (.bool (!(← Op.equal t u z))))) := by
  unfold nilKind at hk
  split at hk
  case h_1 =>
    cases rep_v hu
    obtain rfl := theNil_ptr hn
    cases rep_v hz
    simp [isNil] at hb; subst hb
    exact ⟨run_equalIn_ptr n ht none w, fun _ _ => ⟨by simp [eqGuard], by simp [eqGuard]⟩, rfl, rfl⟩
  case h_2 =>
    cases hu
    obtain rfl := theNil_ptr hn
    cases rep_v hz
    simp [isNil] at hb; subst hb
    exact ⟨run_equalIn_ptr n ht (some _) w, fun _ _ => ⟨by simp [eqGuard], by simp [eqGuard]⟩, rfl, rfl⟩
  case h_3 =>
    cases hu
    obtain rfl := theNil_ptr hn
    cases rep_v hz
    simp [isNil] at hb; subst hb
    exact ⟨run_equalIn_ptr n ht (some _) w, fun _ _ => ⟨by simp [eqGuard], by simp [eqGuard]⟩, rfl, rfl⟩
  case h_4 =>
    rename_i e nl full sz els
    have hz' : z = .slice none 0 0 := by
      obtain ⟨f, l, rfl⟩ := theNil_slice hn
      cases hz with
      | slnil => rfl
      | sle hn' => exact absurd rfl hn'
      | sl hn' => exact absurd rfl hn'
    subst hz'
    cases hu with
    | slnil hn' =>
      have : b = true := by
        cases nl with
        | none => simp [isNil] at hb
        | some x => cases x <;> simp_all [isNil]
      subst this
      exact ⟨run_equalIn_slice n ht none 0 0 w, fun _ _ => ⟨by simp [eqGuard], by simp [eqGuard]⟩, rfl, rfl⟩
    | sle hn' =>
      have : b = false := by
        cases nl with
        | none => simp_all [isNil]
        | some x => cases x <;> simp_all [isNil]
      subst this
      exact ⟨run_equalIn_slice n ht (some _) _ _ w, fun _ _ => ⟨by simp [eqGuard], by simp [eqGuard]⟩, rfl, rfl⟩
    | sl hn' =>
      have : b = false := by
        cases nl with
        | none => cases els <;> simp_all [isNil]
        | some x => cases x <;> simp_all [isNil]
      subst this
      exact ⟨run_equalIn_slice n ht (some _) _ _ w, fun _ _ => ⟨by simp [eqGuard], by simp [eqGuard]⟩, rfl, rfl⟩
  case h_5 => cases hk
theorem opj_isnil {t t' : TypeId} {x y : Operand} {av c : AV} {b : Bool} {d : TypeDesc} (ho : o.op = .binOp .eql t x y t') (ht : P.underlying t = some d) (hx : E x = some av) (hy : E y = some c) (hk : nilKind d av = true) (hn : theNil d c = true) (hb : isNil av = some b) (hR : R (some (.v (.bool b))) σ) : OpJ P o E σ R :=
  opj_quiet _ (fun k e hσ hk' hr => ⟨.bool b, by
    obtain ⟨h1, h2, h3, _⟩ := run_nil ht (hr x (by rw [ho]; simp [Op.operands]) _ hx) (hr y (by rw [ho]; simp [Op.operands]) _ hy) hk hn hb k.w 9999
    unfold execOp
    simp only [ho, Sem.run_bind, (h2 x y).1, Result.andThen_ok, h3, Op.equal, Op.maxDepth, h1, Sem.run_pure], .v rfl⟩) hR
theorem opj_notnil {t t' : TypeId} {x y : Operand} {av c : AV} {b : Bool} {d : TypeDesc} (ho : o.op = .binOp .neq t x y t') (ht : P.underlying t = some d) (hx : E x = some av) (hy : E y = some c) (hk : nilKind d av = true) (hn : theNil d c = true) (hb : isNil av = some b) (hR : R (some (.v (.bool (!b)))) σ) : OpJ P o E σ R :=
  opj_quiet _ (fun k e hσ hk' hr => ⟨.bool (!b), by
    obtain ⟨h1, h2, _, h3⟩ := run_nil ht (hr x (by rw [ho]; simp [Op.operands]) _ hx) (hr y (by rw [ho]; simp [Op.operands]) _ hy) hk hn hb k.w 9999
    unfold execOp
    simp only [ho, Sem.run_bind, (h2 x y).2, Result.andThen_ok, h3, Op.equal, Op.maxDepth, h1, Sem.run_pure], .v rfl⟩) hR
/-- A slice of which it is not known whether it is nil. -/
theorem opj_isnil_sl {t t' : TypeId} {x y : Operand} {nl : Option Bool} {full f : Bool} {sz s : Nat} {els : List (List AV)} {e : TypeId} (ho : o.op = .binOp .eql t x y t') (ht : P.underlying t = some (.slice e)) (hx : E x = some (.sl nl full sz els)) (hy : E y = some (.sl (some true) f s [])) (hR : ∀ b : Bool, (b = true → els = []) → R (some (.v (.bool b))) σ) : OpJ P o E σ R := fun k ev hσ hk hr => by
  have hxr := hr x (by rw [ho]; simp [Op.operands]) _ hx
  have hyr := hr y (by rw [ho]; simp [Op.operands]) _ hy
  have hz : ev y = .slice none 0 0 := by
    generalize ev y = z at hyr
    cases hyr with
    | slnil => rfl
    | sle hn => exact absurd rfl hn
    | sl hn => exact absurd rfl hn
  have key : ∀ (a : Option Addr) (n c : Nat), ev x = .slice a n c → (execOp ev o).run P k.w = .ok (.value (.bool a.isNone)) k.w := fun a n c hv => by
    unfold execOp
    simp only [ho, hv, hz, Sem.run_bind, eqGuard, binOp, Op.equal, Op.maxDepth, Sem.run_pure, run_equalIn_slice 9999 ht, Result.andThen_ok]
    simp
  generalize hu : ev x = u at hxr
  cases hxr with
  | slnil => exact ⟨k, _, some (.v (.bool true)), key none 0 0 hu, hk, .refl k, hσ ▸ hR true (fun _ => rfl), _, rfl, .v rfl⟩
  | sle => exact ⟨k, _, some (.v (.bool false)), key _ _ _ hu, hk, .refl k, hσ ▸ hR false (fun h => by cases h), _, rfl, .v rfl⟩
  | sl => exact ⟨k, _, some (.v (.bool false)), key _ _ _ hu, hk, .refl k, hσ ▸ hR false (fun h => by cases h), _, rfl, .v rfl⟩
end
end Go.Proofs.YtledbkkaaomjpabDoor.Ab
