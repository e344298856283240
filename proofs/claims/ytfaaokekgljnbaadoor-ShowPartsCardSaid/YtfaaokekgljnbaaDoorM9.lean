/- The texts SB, Tz, ShelfJ, SN, K1, K2, K3, K4, K5, K6, O6, K7, K8, K9, KA, one behind the other. -/
import Derived.Test.YtfaaokekgljnbaaDoorM1
import Derived.Test.YtfaaokekgljnbaaDoorM2
import Derived.Test.YtfaaokekgljnbaaDoorM3
import Derived.Test.YtfaaokekgljnbaaDoorM4
import Derived.Test.YtfaaokekgljnbaaDoorM5
import Derived.Test.YtfaaokekgljnbaaDoorM6
import Derived.Test.YtfaaokekgljnbaaDoorM7
import Derived.Test.YtfaaokekgljnbaaDoorM8
import Derived.Test.YtfaaokekgljnbaaDoorProg
import Derived.Shelf.Strings.OnBuilder
/- strings.Builder: a variable of our own with a row of bytes. -/
set_option linter.unusedVariables false
set_option linter.unusedSimpArgs false
set_option maxRecDepth 20000
namespace Go.Proofs.YtfaaokekgljnbaaDoor.Ab
open Go
attribute [local irreducible] thn inb endR CJ LJ OpJ DJ DA DB AllocK

def noB : ByteArray := ⟨#[]⟩
/-- A builder: what it points to (itself, or nothing yet), and its row of bytes. -/
abbrev bldO (c0 : AV) (w n : Nat) : AObj := .row 2 101 [[c0, .osl w 1 0 n]]
abbrev bldR (lb : List UInt8) : AObj := .row 1 5 (bys lb)
def bldA (b : Nat) : Bool → AV
  | true => .ptr b 2 0 0
  | false => .v (.pointer none)
def Bld (σ : St) (b w : Nat) (lb : List UInt8) (u : Bool) : Prop := σ b = some (bldO (bldA b u) w lb.length) ∧ σ w = some (bldR lb) ∧ w ≠ b
theorem q_copycheck {σ : St} {b w : Nat} {lb : List UInt8} {u : Bool} (h : Bld σ b w lb u) : ACalls Tryd.prog 91 [.ptr b 2 0 0] σ (fun e σ' => e = .ret (.tup []) ∧ σ' = σ.set b (bldO (.ptr b 2 0 0) w lb.length)) := by
  obtain ⟨h1, h2, h3⟩ := h
  cases u
  · have h1 : σ b = some (bldO (.v (.pointer none)) w lb.length) := h1
    refine enterS Tryd.func91 rfl rfl rfl rfl ?_
    repeat (first|(refine jl ?_;first|refine j1 ?_|refine j4 ?_|refine j6 ?_|refine j14 ?_|refine j17 ?_|refine jtu ?_|refine jxt ?_|refine jfu ?_)|(refine jc ?_;first|refine c1 ?_|refine c2 ?_|refine c3 ?_)|refine n12 ?_)
    exact ge rfl
  · have h1 : σ b = some (bldO (.ptr b 2 0 0) w lb.length) := h1
    have e : σ.set b (bldO (.ptr b 2 0 0) w lb.length) = σ := by
      funext x
      by_cases hx : x = b
      · subst hx; rw [St.set_same, h1]
      · rw [St.set_ne _ _ _ hx]
    rw [e]
    refine enterS Tryd.func91 rfl rfl rfl rfl ?_
    repeat (first|(refine jl ?_;first|refine j1 ?_|refine j4 ?_|refine j14 ?_|refine jnes ?_)|(refine jc ?_;first|refine c1 ?_|refine c2 ?_|refine c4 ?_|refine c6 ?_)|refine n12 ?_)
    exact ge rfl
theorem bld_le {σ : St} {b w w' : Nat} {o1 o2 r : AObj} (hb : w' ≠ b) (hwb : w ≠ b) : (((σ.del w).set w' r).set b o2).le ((((σ.set b o1).del w).set w' r).set b o2) := fun x v hv => by
  by_cases hx : x = b
  · subst hx; rw [St.set_same] at hv ⊢; exact hv
  · rw [St.set_ne _ _ _ hx] at hv ⊢
    by_cases hxw : x = w'
    · subst hxw; rw [St.set_same] at hv ⊢; exact hv
    · rw [St.set_ne _ _ _ hxw] at hv ⊢
      unfold St.del at hv ⊢
      split
      · rename_i e; rw [if_pos e] at hv; exact hv
      · rename_i e; rw [if_neg e] at hv; rw [St.set_ne _ _ _ hx]; exact hv
theorem bld_bys (a b : List UInt8) : bys (a ++ b) = bys a ++ bys b := List.map_append
theorem St.del_neS {σ : St} {w x : Nat} (h : x ≠ w) : σ.del w x = σ x := by unfold St.del; rw [if_neg h]
/-- What is written stands behind what was there. -/
theorem q_wstr0 {σ : St} {b w : Nat} {lb : List UInt8} {u : Bool} (h : Bld σ b w lb u) (s : ByteArray) (hl : lb.length + s.size ≤ 140737488355328) : ACalls Tryd.prog 61 [.ptr b 2 0 0, .v (.string s)] σ (fun e σ' => ∃ w' : Nat, (σ w' = none ∧ w' ≠ b) ∧ e = .ret (.tup [.v (.int .i64 s.size), .v .nilIface]) ∧ σ' = ((σ.del w).set w' (bldR (lb ++ s.data.toList))).set b (bldO (.ptr b 2 0 0) w' (lb ++ s.data.toList).length)) := by
  refine acalls_gives_ex ?_
  refine enter Tryd.func61 rfl rfl rfl rfl ?_
  obtain ⟨h1, h2, h3⟩ := id h
  repeat (first|(refine jl ?_;first|refine j1 ?_|refine j4 ?_|refine j14 ?_|refine lj_to rfl rfl rfl (q_copycheck h) ?_|refine jaos (fun w' hw' => ?_))|(refine jc ?_;first|refine c1 ?_|refine c2 ?_))
  have hb : w' ≠ b := fun e => by subst e; rw [St.set_same] at hw'; cases hw'
  have hB : ∀ r, (((σ.set b (bldO (.ptr b 2 0 0) w lb.length)).del w).set w' r) b = some (bldO (.ptr b 2 0 0) w lb.length) := fun r => by
    rw [St.set_ne _ _ _ (Ne.symm hb), St.del_neS (Ne.symm h3), St.set_same]
  have hB2 := hB (bldR (lb ++ s.data.toList))
  have e : (bys lb).take lb.length ++ bys s.data.toList = bys (lb ++ s.data.toList) := by rw [bld_bys, ← length_bys lb, List.take_length]
  have e2 : lb.length + s.size = (lb ++ s.data.toList).length := by rw [List.length_append, Array.length_toList]; rfl
  rw [e, e2]
  repeat (first|(refine jl ?_;first|refine j1 ?_|refine j4 ?_|refine j17 ?_)|(refine jc ?_;first|refine c1 ?_|refine c2 ?_|refine c7 ?_)|refine n11 ?_)
  refine ⟨w', ⟨by rwa [St.set_ne _ _ _ hb] at hw', hb⟩, gives (bld_le hb h3) (fin_tup ⟨Fin.refl _ _ _, Fin.refl _ _ _, trivial⟩)⟩
theorem bld_data (a b : ByteArray) : a.data.toList ++ b.data.toList = (a ++ b).data.toList := by simp
theorem q_wstr {τ σ : St} {b w : Nat} {acc : ByteArray} {u : Bool} (hτ : τ.le σ) (hb : τ b = none) (hw : τ w = none) (h : Bld σ b w acc.data.toList u) (s : ByteArray) (hl : acc.size + s.size ≤ 140737488355328) : ACalls Tryd.prog 61 [.ptr b 2 0 0, .v (.string s)] σ (fun e σ' => e = .ret (.tup [.v (.int .i64 s.size), .v .nilIface]) ∧ ∃ w', τ w' = none ∧ Bld σ' b w' (acc ++ s).data.toList true ∧ τ.le σ') :=
  (q_wstr0 h s (by rw [Array.length_toList]; exact hl)).mono fun e σ' ⟨w', ⟨h1, h2⟩, h3, h4⟩ => by
    refine ⟨h3, w', ?_, ?_, ?_⟩
    · cases hv : τ w' with
      | none => rfl
      | some v => rw [hτ w' v hv] at h1; cases h1
    · rw [h4, ← bld_data]
      exact ⟨St.set_same _ _ _, by rw [St.set_ne _ _ _ h2, St.set_same], h2⟩
    · subst h4
      intro x v hv
      have hxb : x ≠ b := fun e => by rw [e, hb] at hv; cases hv
      have hxw : x ≠ w := fun e => by rw [e, hw] at hv; cases hv
      have hxw' : x ≠ w' := fun e => by subst e; rw [hτ x v hv] at h1; cases h1
      rw [St.set_ne _ _ _ hxb, St.set_ne _ _ _ hxw', St.del_neS hxw]
      exact hτ x v hv
/-- What was written, as a string; it is written no more. -/
theorem q_bstr {σ : St} {b w : Nat} {acc : ByteArray} {u : Bool} (h : Bld σ b w acc.data.toList u) (h0 : acc.size ≠ 0) (hl : acc.size ≤ 140737488355328) : ACalls Tryd.prog 64 [.ptr b 2 0 0] σ (fun e σ' => e = .ret (.v (.string acc)) ∧ σ' = σ.del w) := by
  refine enterS Tryd.func64 rfl rfl rfl rfl ?_
  obtain ⟨h1, h2, h3⟩ := id h
  have hlen : acc.data.toList.length = acc.size := Array.length_toList
  have h0 : acc.data.toList ≠ [] := fun e => h0 (by rw [← hlen, e]; rfl)
  have hpos : 0 < acc.data.toList.length := List.length_pos_iff.2 h0
  have hl' : acc.data.toList.length ≤ 140737488355328 := by omega
  have h4 : (σ.del w) b = σ b := St.del_neS (Ne.symm h3)
  rw [h1] at h4
  repeat (first|(refine jl ?_;first|refine j1 ?_|refine j4 ?_)|(refine jc ?_;first|refine c1 ?_|refine c2 ?_))
  refine cqm 10 (σ1 := σ.del w) (h := ?_)
  repeat (first|(refine dl ?_;first|refine d1 ?_|refine d4 ?_|refine d14 ?_|refine dsd ?_|refine dus ?_)|(refine jc ?_;first|refine c7 ?_)|refine n1 ?_|refine n11 ?_)
  exact ge rfl
abbrev bldS (τ : St) (b w : Nat) (acc : ByteArray) (u : Bool) : St := (τ.set b (bldO (bldA b u) w acc.size)).set w (bldR acc.data.toList)
theorem bldS_bld {τ : St} {b w : Nat} {acc : ByteArray} {u : Bool} (h : w ≠ b) : Bld (bldS τ b w acc u) b w acc.data.toList u := ⟨by unfold bldS; rw [St.set_ne _ _ _ (Ne.symm h), St.set_same, Array.length_toList]; rfl, St.set_same _ _ _, h⟩
theorem bldS_le {τ σ : St} {b w : Nat} {acc : ByteArray} {u : Bool} (hτ : τ.le σ) (h : Bld σ b w acc.data.toList u) : (bldS τ b w acc u).le σ := St.le_setk (St.le_setk hτ (by rw [h.1, Array.length_toList]; rfl)) h.2.1
theorem bldS_keep {τ : St} {b w : Nat} {acc : ByteArray} {u : Bool} (hb : τ b = none) (hw : τ w = none) : τ.le (bldS τ b w acc u) := St.le_any (St.le_any (St.le_refl _) hb) hw
/-- A builder before its first word. -/
theorem ghost_bld {fr : Fr} {σ : St} {K : Fr → St → Prop} {b : Nat} (h : ∀ (τ : St) w σ', τ b = none → τ w = none → τ.le σ' → (∀ x o, x ≠ b → σ x = some o → τ x = some o) → (∀ ρ : St, ρ b = none → ρ.le σ → ρ.le τ) → Bld σ' b w (noB).data.toList false → K fr σ') (hσ : σ b = some (.row 2 101 [[.v (.pointer none), .sl (some true) true 1 []]])) : Ghost fr σ K :=
  ghost_nilcell (b := b) (sz := 2) (et := 101) (cs := [.v (.pointer none), .sl (some true) true 1 []]) (j := 1) 1 5 hσ rfl (fun w hw => by
    have hwb : w ≠ b := fun e => by rw [e, hσ] at hw; cases hw
    refine h (σ.del b) w _ (by unfold St.del; rw [if_pos rfl]) (by rw [St.del_neS hwb]; exact hw) (fun x v hv => ?_) (fun x o h1 h2 => by rw [St.del_neS h1]; exact h2) (fun ρ h1 h2 x v hv => ?_) ⟨St.set_same _ _ _, by rw [St.set_ne _ _ _ hwb, St.set_same]; rfl, hwb⟩
    · have hxb : x ≠ b := fun e => by subst e; unfold St.del at hv; rw [if_pos rfl] at hv; cases hv
      rw [St.del_neS hxb] at hv
      have hxw : x ≠ w := fun e => by rw [e, hw] at hv; cases hv
      rw [St.set_ne _ _ _ hxb, St.set_ne _ _ _ hxw]; exact hv
    · have hxb : x ≠ b := fun e => by rw [e, h1] at hv; cases hv
      rw [St.del_neS hxb]; exact h2 x v hv)
theorem cj_bld {nt : Nat} {Q : Post} {fr : Fr} {σ : St} {c : Code} {b : Nat} (t : Nat) (h : ∀ (τ : St) w σ', τ b = none → τ w = none → τ.le σ' → (∀ x o, x ≠ b → σ x = some o → τ x = some o) → (∀ ρ : St, ρ b = none → ρ.le σ → ρ.le τ) → Bld σ' b w (noB).data.toList false → CJ Tryd.prog nt c Q fr σ') (ht : lk fr t = some (.ptr b 2 0 0) := by exact rfl) (hσ : σ b = some (.row 2 101 [[.v (.pointer none), .sl (some true) true 1 []]]) := by exact lkp) : CJ Tryd.prog nt c Q fr σ := cj_ghost (ghost_bld h hσ)
theorem lj_bld {nt : Nat} {Q : Post} {fr : Fr} {σ : St} {ops : Array Oper} {l : List Oper} {b : Nat} (t : Nat) (h : ∀ (τ : St) w σ', τ b = none → τ w = none → τ.le σ' → (∀ x o, x ≠ b → σ x = some o → τ x = some o) → (∀ ρ : St, ρ b = none → ρ.le σ → ρ.le τ) → Bld σ' b w (noB).data.toList false → LJ Tryd.prog nt ops Q l fr σ') (ht : lk fr t = some (.ptr b 2 0 0) := by exact rfl) (hσ : σ b = some (.row 2 101 [[.v (.pointer none), .sl (some true) true 1 []]]) := by exact lkp) : LJ Tryd.prog nt ops Q l fr σ := lj_ghost (ghost_bld h hσ)
theorem Bld.set {σ : St} {b w id : Nat} {lb : List UInt8} {u : Bool} {o : AObj} (h : Bld σ b w lb u) (h1 : id ≠ b) (h2 : id ≠ w) : Bld (σ.set id o) b w lb u := ⟨by rw [St.set_ne _ _ _ (Ne.symm h1)]; exact h.1, by rw [St.set_ne _ _ _ (Ne.symm h2)]; exact h.2.1, h.2.2⟩
theorem Bld.neb {σ : St} {b w id : Nat} {lb : List UInt8} {u : Bool} (h : Bld σ b w lb u) (hid : σ id = none) : id ≠ b := St.ne_some hid h.1
theorem Bld.new {σ : St} {b w id : Nat} {lb : List UInt8} {u : Bool} (h : Bld σ b w lb u) (hid : σ id = none) : id ≠ w := St.ne_some hid h.2.1
theorem noB_app (s : ByteArray) : noB ++ s = s := by
  apply ByteArray.ext
  rw [ByteArray.data_append]
  simp [noB]
end Go.Proofs.YtfaaokekgljnbaaDoor.Ab

/- The program's data: rules. -/
set_option linter.unusedVariables false
set_option linter.unusedSimpArgs false
set_option maxRecDepth 20000
namespace Go.Proofs.YtfaaokekgljnbaaDoor.Ab
open Go
structure Itm where
  k : Int
  val : Vl
  var : ByteArray
structure Sgl where
  attr : ByteArray
  expr : List Itm
structure Acn where
  k : Int
  cls : ByteArray
  n : Int
  var : ByteArray
  sets : List Sgl
  exprs : List (List Itm)
structure Rul where
  name : ByteArray
  conds : List Cnd
  acts : List Acn
structure Prg where
  classes : List Cls
  rules : List Rul
abbrev itc (x : Itm) : List AV := [.v (.int .u8 x.k), .v (.int .u8 x.val.k), .v (.int .i64 x.val.n), .v (.string x.val.s), .v (.string x.var)]
abbrev itl (l : List Itm) : List AV := [.sl none false 5 (l.map itc)]
abbrev sgc (x : Sgl) : List AV := [.v (.string x.attr), .sl none false 5 (x.expr.map itc)]
abbrev anc (a : Acn) : List AV := [.v (.int .u8 a.k), .v (.string a.cls), .v (.int .i64 a.n), .v (.string a.var), .sl none false 2 (a.sets.map sgc), .sl none false 1 (a.exprs.map itl)]
abbrev ruc (r : Rul) : List AV := [.v (.string r.name), .sl none false 3 (r.conds.map dc), .sl none false 6 (r.acts.map anc)]
abbrev pgc (p : Prg) : List AV := [.sl none false 2 (p.classes.map cc), .sl none false 3 (p.rules.map ruc)]
end Go.Proofs.YtfaaokekgljnbaaDoor.Ab

/-
  DERIVED: THE SHELF's CONTRACTS AT THIS DUMP, IN PLAIN WORDS (tools/lay-plain.mjs out of 'YtfaaokekgljnbaaDoorShelfJ.lean', which tools/lay-shelf.mjs wrote): THE SAME DECLARATIONS UNDER THE SAME YtfaaokekgljnbaaDoorS: 'import', 'namespace', 'open', 'def', 'theorem' AND NOTHING ELSE: no command of the shelf's: FOR A HAND-IN. Each laying: the table of numbers ('.._ren') and one theorem, a field a fact of the dump's own or the kernel's comparison; each contract: ONE APPLICATION.
-/
namespace Go.Proofs
open Go.Shelf
def Tryd.lays156_ren : Go.Shelf.Ren := ⟨fun | 156 => 44 | 165 => 86 | 166 => 61 | 169 => 64 | 240 => 91 | 241 => 116 | 276 => 119 | 277 => 147 | n => n, fun | 31 => 80 | 9 => 9 | 3 => 3 | 4 => 4 | 0 => 0 | 20 => 20 | 72 => 101 | 76 => 104 | 70 => 99 | 37 => 70 | 75 => 103 | 127 => 141 | 164 => 164 | 5 => 5 | 80 => 107 | n => n, fun | n => n⟩
theorem Tryd.lays156 : Go.Proofs.Lays.n156 Tryd.prog Tryd.lays156_ren := {
  mixed := by kernel_rfl
  f156 := Tryd.func44.trans (congrArg some (by kernel_rfl))
  f165 := Tryd.func86.trans (congrArg some (by kernel_rfl))
  f166 := Tryd.func61.trans (congrArg some (by kernel_rfl))
  f169 := Tryd.func64.trans (congrArg some (by kernel_rfl))
  f240 := Tryd.func91.trans (congrArg some (by kernel_rfl))
  f241 := Tryd.func116.trans (congrArg some (by kernel_rfl))
  f276 := Tryd.func119.trans (congrArg some (by kernel_rfl))
  f277 := Tryd.func147.trans (congrArg some (by kernel_rfl))
  t0 := Tryd.underlying0
  a0 := Tryd.isAgg0
  z0 := Tryd.sizeOf0
  v0 := Tryd.zeroValue0
  t3 := Tryd.underlying3
  a3 := Tryd.isAgg3
  z3 := Tryd.sizeOf3
  v3 := Tryd.zeroValue3
  t4 := Tryd.underlying4
  a4 := Tryd.isAgg4
  z4 := Tryd.sizeOf4
  v4 := Tryd.zeroValue4
  t9 := Tryd.underlying9
  a9 := Tryd.isAgg9
  z9 := Tryd.sizeOf9
  v9 := Tryd.zeroValue9
  t20 := Tryd.underlying20
  a20 := Tryd.isAgg20
  z20 := Tryd.sizeOf20
  v20 := Tryd.zeroValue20
  t31 := Tryd.underlying80
  a31 := Tryd.isAgg80
  z31 := Tryd.sizeOf80
  v31 := Tryd.zeroValue80
  t37 := Tryd.underlying70
  a37 := Tryd.isAgg70
  z37 := Tryd.sizeOf70
  v37 := Tryd.zeroValue70
  t70 := Tryd.underlying99
  a70 := Tryd.isAgg99
  z70 := Tryd.sizeOf99
  v70 := Tryd.zeroValue99
  t72 := Tryd.underlying101
  a72 := Tryd.isAgg101
  z72 := Tryd.sizeOf101
  v72 := Tryd.zeroValue101
  t75 := Tryd.underlying103
  a75 := Tryd.isAgg103
  z75 := Tryd.sizeOf103
  v75 := Tryd.zeroValue103
  t76 := Tryd.underlying104
  a76 := Tryd.isAgg104
  z76 := Tryd.sizeOf104
  v76 := Tryd.zeroValue104
  t127 := Tryd.underlying141
  a127 := Tryd.isAgg141
  z127 := Tryd.sizeOf141
  v127 := Tryd.zeroValue141
  t164 := Tryd.underlying164
  a164 := Tryd.isAgg164
  z164 := Tryd.sizeOf164
  v164 := Tryd.zeroValue164 }
theorem Tryd.Builder_Extra_156 : Builder.Extra Tryd.prog Tryd.lays156_ren := {
  sizeBuilder := by kernel_rfl
  liesBuilder := by kernel_rfl
  t5 := Tryd.underlying5
  a5 := Tryd.isAgg5
  z5 := Tryd.sizeOf5
  v5 := Tryd.zeroValue5
  infoByte := by kernel_rfl
  cellsByte := by kernel_rfl
  sizeByte := by kernel_rfl
  neB5 := by decide }
end Go.Proofs

/- strings.Builder without a word; strings.Join, by the shelf's contract. -/
set_option linter.unusedVariables false
set_option linter.unusedSimpArgs false
set_option maxRecDepth 20000
namespace Go.Proofs.YtfaaokekgljnbaaDoor.Ab
open Go Go.RowKit
section
variable {P : Program} {o : Oper} {E : Operand → Option AV} {σ : St} {R : Option AV → St → Prop}
theorem opj_sdnil {x : Operand} {f : Bool} {s : Nat} {ts : Array TypeId} (ho : o.op = .call { callee := .builtin .unsafeSliceData, args := #[x], argTypes := ts }) (hx : E x = some (.sl (some true) f s [])) (hR : R (some (.v (.pointer none))) σ) : OpJ P o E σ R :=
  opj_quiet _ (fun k e hk1 hk hr => by
    have hxr := hr x (by rw [ho]; simp [Op.operands, Call.operands]) _ hx
    have hu : e x = .slice none 0 0 := by
      generalize e x = u at hxr
      cases hxr with
      | slnil => rfl
      | sle hn => exact absurd rfl hn
      | sl hn => exact absurd rfl hn
    refine ⟨.pointer none, ?_, .v rfl⟩
    have hrun := Lib.run_unsafeSliceData_nil (P := P) (w := k.w) ts o.type 0 0
    unfold execOp
    simp only [ho, resolve, invoke, builtin, Sem.run_bind, Sem.run_pure, Result.andThen_ok, List.map_toArray, List.map_cons, List.map_nil, hu, hrun]) hR
theorem opj_us0 {pt it : TypeId} {x y : Operand} {ts : Array TypeId} (ho : o.op = .call { callee := .builtin .unsafeString, args := #[x, y], argTypes := ts }) (hts : ts = #[pt, it]) (hx : E x = some (.v (.pointer none))) (hy : E y = some (.v (.int .i64 0))) (hR : R (some (.v (.string ⟨#[]⟩))) σ) : OpJ P o E σ R :=
  opj_quiet _ (fun k e hk1 hk hr => by
    subst hts
    have hxr := rep_v (hr x (by rw [ho]; simp [Op.operands, Call.operands]) _ hx)
    have hyr := rep_v (hr y (by rw [ho]; simp [Op.operands, Call.operands]) _ hy)
    refine ⟨.string .empty, ?_, .v rfl⟩
    have hrun := Lib.run_unsafeString_none (P := P) (w := k.w) pt it o.type none
    unfold execOp
    simp only [ho, resolve, invoke, builtin, Sem.run_bind, Sem.run_pure, Result.andThen_ok, List.map_toArray, List.map_cons, List.map_nil, hxr, hyr, hrun]) hR
end
section
variable {P : Program} {l : List Oper} {c : List (List Nat)} {m nt : Nat} {σ σ0 σ1 : St} {K : Fr → Prop} {i : Nat} {fr : Fr} {rest : List Oper} {t : Tmp} {ty : TypeId} {pos : String} {aft : Array Edge}
theorem dsn {x : Operand} {f : Bool} {s : Nat} {ts : Array TypeId} (h : DJ P l c m σ0 σ1 K (i + 1) rest ((t, .v (.pointer none)) :: fr)) (him : Nat.beq i m = false := by exact rfl) (hx : ev fr x = some (.sl (some true) f s []) := by exact rfl) : DJ P l c m σ0 σ1 K i (⟨some t, .call { callee := .builtin .unsafeSliceData, args := #[x], argTypes := ts }, ty, pos, aft, none⟩ :: rest) fr := dj_v him (fun R hR => opj_sdnil rfl hx hR) (fun R hR => opj_sdnil rfl hx hR) h
theorem dun {pt it : TypeId} {x y : Operand} {ts : Array TypeId} (h : DJ P l c m σ0 σ1 K (i + 1) rest ((t, .v (.string ⟨#[]⟩)) :: fr)) (him : Nat.beq i m = false := by exact rfl) (hts : ts = #[pt, it] := by exact rfl) (hx : ev fr x = some (.v (.pointer none)) := by exact rfl) (hy : ev fr y = some (.v (.int .i64 0)) := by exact rfl) : DJ P l c m σ0 σ1 K i (⟨some t, .call { callee := .builtin .unsafeString, args := #[x, y], argTypes := ts }, ty, pos, aft, none⟩ :: rest) fr := dj_v him (fun R hR => opj_us0 rfl hts hx hy hR) (fun R hR => opj_us0 rfl hts hx hy hR) h
end
attribute [local irreducible] thn inb endR CJ LJ OpJ DJ DA DB AllocK
/-- A builder without a word has the empty text. -/
theorem q_bstr0 {σ : St} {b : Nat} (h : σ b = some (.row 2 101 [[.v (.pointer none), .sl (some true) true 1 []]])) : ACalls Tryd.prog 64 [.ptr b 2 0 0] σ (fun e σ' => e = .ret (.v (.string ⟨#[]⟩)) ∧ σ' = σ) := by
  refine enterS Tryd.func64 rfl rfl rfl rfl ?_
  repeat (first|(refine jl ?_;first|refine j1 ?_|refine j4 ?_)|(refine dl ?_;first|refine d1 ?_|refine d4 ?_|refine d14 ?_|refine dsn ?_|refine dun ?_)|(refine jc ?_;first|refine c1 ?_|refine c2 ?_|refine c7 ?_|refine cq ?_)|refine n1 ?_|refine n11 ?_)
  exact ge rfl
theorem pure_belowA {P : Program} {f : FuncId} {args : List AV} {x : Value} (hx : x.oneCell' = true) (h : ∀ (k : Cx) (vs : List Value), Ok k → Reps k args vs → Calls P f vs.toArray k.w (fun e w' => e = .returned x ∧ Below k.w.heap.size k.w w')) : Pure P f args (.v x) := pure_below hx h
theorem p_join (nl : Option Bool) (full : Bool) (xs : List ByteArray) (sep : ByteArray) (h0 : xs ≠ []) (hN : xs.length ≤ 140737488355328) (hlen : (Lib.join (xs.map (·.data.toList)) sep.data.toList).length ≤ 140737488355328) : Pure Tryd.prog 44 [.sl nl full 1 (xs.map str1), .v (.string sep)] (.v (.string ⟨(Lib.join (xs.map (·.data.toList)) sep.data.toList).toArray⟩)) :=
  pure_below rfl fun k vs hk hv => by
    obtain ⟨hl, hr⟩ := hv
    match vs, hl with
    | [u, v], _ =>
      have h1 := hr 0 _ u rfl rfl
      have h2 := hr 1 _ v rfl rfl
      have h2' := rep_v h2
      subst h2'
      generalize hels : xs.map str1 = els at h1
      have hne : els ≠ [] := by rw [← hels]; simpa using h0
      have hln : els.length = xs.length := by rw [← hels, List.length_map]
      cases h1 with
      | slnil => exact absurd rfl hne
      | sle => exact absurd rfl hne
      | @sl _ _ _ _ b o cap f hn hc hm hf hsz hfr hw h =>
        rw [hln] at hc hm ⊢
        refine Any.strings_Join Tryd.lays156 Tryd.Builder_Extra_156 b o cap xs sep k.w (fun j x hj => ?_) (hfr hne).1 hN hc hlen
        have he : els[j]? = some (str1 x) := by rw [← hels, List.getElem?_map, hj]; rfl
        obtain ⟨h3, h4⟩ := hw j 0 (str1 x) _ he rfl
        have h5 := rep_v (h j 0 (str1 x) _ he rfl)
        rw [h5] at h3
        simpa using h3
theorem join3 (a b c sep : ByteArray) : (⟨(Lib.join ([a, b, c].map (·.data.toList)) sep.data.toList).toArray⟩ : ByteArray) = a ++ sep ++ b ++ sep ++ c := by
  apply ByteArray.ext
  apply Array.toList_inj.1
  simp [Lib.join, List.intercalate, ByteArray.data_append]
theorem p_join3 (nl : Option Bool) (full : Bool) (a b c sep : ByteArray) (hz : a.size + b.size + c.size + 2 * sep.size ≤ 140737488355328) : Pure Tryd.prog 44 [.sl nl full 1 [str1 a, str1 b, str1 c], .v (.string sep)] (.v (.string (a ++ sep ++ b ++ sep ++ c))) := by
  have h := p_join nl full [a, b, c] sep (by simp) (by simp) (by
    have e := congrArg ByteArray.size (join3 a b c sep)
    simp only [ByteArray.size_append] at e
    change (Lib.join ([a, b, c].map (·.data.toList)) sep.data.toList).length = _ at e
    omega)
  rw [join3] at h
  exact h
end Go.Proofs.YtfaaokekgljnbaaDoor.Ab

/- Expressions' texts: the reference. -/
set_option linter.unusedVariables false
set_option linter.unusedSimpArgs false
set_option maxRecDepth 20000
namespace Go.Proofs.YtfaaokekgljnbaaDoor.Ab
open Go
attribute [local irreducible] thn inb endR CJ LJ OpJ DJ DA DB AllocK
theorem textV_sz (k n : Int) (s : ByteArray) : (textV k n s).size ≤ 24 := by
  unfold textV
  by_cases h : checkE k n s = 0
  · rw [if_neg (fun e => e h)]
    by_cases h1 : k = 1
    · rw [if_pos h1]; exact Nat.le_trans (toldS_size n) (by omega)
    · rw [if_neg h1]
      by_cases h2 : k = 2
      · rw [if_pos h2]
        exact checkE_size h h2
      · rw [if_neg h2]; decide
  · rw [if_pos h]; decide
def sgnK (k : Int) : ByteArray := if k = 2 then ⟨#[43]⟩ else if k = 3 then ⟨#[45]⟩ else if k = 4 then ⟨#[42]⟩ else ⟨#[]⟩
def varT (s : ByteArray) : ByteArray := ⟨#[60]⟩ ++ s ++ ⟨#[62]⟩
def opT (s a b : ByteArray) : ByteArray := ⟨#[40]⟩ ++ s ++ ⟨#[32]⟩ ++ a ++ ⟨#[32]⟩ ++ b ++ ⟨#[41]⟩
/-- One item: what is on the pile behind it. -/
def stepE (p : List ByteArray) (x : Itm) : Option (List ByteArray) :=
  if x.k = 0 then some (p ++ [textV x.val.k x.val.n x.val.s]) else if x.k = 1 then some (p ++ [varT x.var])
  else if sgnK x.k = ⟨#[]⟩ ∨ p.length < 2 then none
  else some (p.take (p.length - 2) ++ [opT (sgnK x.k) (p.getD (p.length - 2) ⟨#[]⟩) (p.getD (p.length - 1) ⟨#[]⟩)])
def runE : List ByteArray → List Itm → Option (List ByteArray)
  | p, [] => some p
  | p, x :: l => (stepE p x).bind (fun q => runE q l)
def oneE : Option (List ByteArray) → ByteArray × Bool
  | some [s] => (s, true)
  | _ => (⟨#[]⟩, false)
def exprR (l : List Itm) : ByteArray × Bool := oneE (runE [] l)
theorem oneE_ne {p : List ByteArray} (h : p.length ≠ 1) : oneE (some p) = (⟨#[]⟩, false) := by
  match p, h with
  | [], _ => rfl
  | [a], h => exact absurd rfl h
  | a :: b :: c, _ => rfl
def szP (p : List ByteArray) : Nat := (p.map ByteArray.size).sum
theorem szP_app (p q : List ByteArray) : szP (p ++ q) = szP p + szP q := by unfold szP; rw [List.map_append, List.sum_append]
theorem szP_one (a : ByteArray) : szP [a] = a.size := by simp [szP]
/-- A pile of two or more. -/
theorem pile_two {p : List ByteArray} (h : 2 ≤ p.length) : ∃ q a b, p = q ++ [a, b] ∧ q.length = p.length - 2 := by
  obtain ⟨q, r, rfl, hq⟩ : ∃ q r, p = q ++ r ∧ q.length = p.length - 2 := ⟨p.take (p.length - 2), p.drop (p.length - 2), (List.take_append_drop _ _).symm, by rw [List.length_take]; omega⟩
  have hr : r.length = 2 := by rw [List.length_append] at hq h; omega
  match r, hr with
  | [a, b], _ => exact ⟨q, a, b, rfl, hq⟩
theorem pile_get (q : List ByteArray) (a b : ByteArray) : (q ++ [a, b]).length = q.length + 2 ∧ (q ++ [a, b]).take q.length = q ∧ (q ++ [a, b]).getD q.length ⟨#[]⟩ = a ∧ (q ++ [a, b]).getD (q.length + 1) ⟨#[]⟩ = b ∧ (q ++ [a, b])[q.length]? = some a ∧ (q ++ [a, b])[q.length + 1]? = some b := by
  simp [List.getD, List.getElem?_append_right]
theorem opT_size (s a b : ByteArray) : (opT s a b).size = s.size + a.size + b.size + 4 := by
  unfold opT
  simp only [ByteArray.size_append, show (⟨#[40]⟩ : ByteArray).size = 1 from rfl, show (⟨#[32]⟩ : ByteArray).size = 1 from rfl, show (⟨#[41]⟩ : ByteArray).size = 1 from rfl]
  omega
theorem varT_size (s : ByteArray) : (varT s).size = s.size + 2 := by
  unfold varT
  simp only [ByteArray.size_append, show (⟨#[60]⟩ : ByteArray).size = 1 from rfl, show (⟨#[62]⟩ : ByteArray).size = 1 from rfl]
  omega
theorem sgnK_size (k : Int) : (sgnK k).size ≤ 1 := by
  unfold sgnK
  repeat' split
  all_goals decide
/-- What fits: names of at most 60 bytes. -/
def litI (x : Itm) : Prop := x.val.s.size ≤ 60 ∧ x.var.size ≤ 60
theorem p_rsgn (k : Int) : Pure Tryd.prog 46 [.v (.int .u8 k)] (.v (.string (sgnK k))) := by
  refine enterW Tryd.func46 rfl rfl rfl rfl (fun σ => ?_)
  repeat' (first|(first|(refine jl ?_;first|refine j1 ?_|refine j4 ?_)|(refine jc ?_;first|refine c1 ?_|refine c2 ?_|refine c5 ?_|refine c6 ?_|refine c7 ?_)|refine n1 ?_|refine n2 ?_|refine n6 ?_|refine n10 ?_|refine n11 ?_)|(refine c9 (fun h=>?_) (fun h=>?_)<;>((try simp only [Bool.or_eq_true, Bool.and_eq_true, Bool.or_eq_false_iff, Bool.and_eq_false_iff, Bool.not_eq_true', Bool.not_eq_false', decide_eq_true_eq, decide_eq_false_iff_not, Bool.false_eq_true, Bool.true_eq_false, reduceCtorEq] at h) <;> (try simp (disch := omega) only [sb_bt, w64, Int.reduceAdd, Int.reduceToNat, Int.toNat_natCast, not_true_eq_false, false_or] at h) <;> (try (exfalso; omega)))))
  all_goals
    refine gives (St.le_refl _) (fin_one (.wk (Wk.of_eq ?_)))
    unfold sgnK
    repeat first | rw [if_pos (by assumption)] | rw [if_neg (by assumption)]
theorem p_sgn (k : Int) : Pure Tryd.prog 43 [.v (.int .u8 k)] (.v (.string (sgnK k))) := by
  refine enterW Tryd.func43 rfl rfl rfl rfl (fun σ => ?_)
  repeat' (first|(first|(refine jl ?_;first|refine j1 ?_|refine j4 ?_)|(refine jc ?_;first|refine c1 ?_|refine c2 ?_|refine c5 ?_|refine c6 ?_|refine c7 ?_)|refine n1 ?_|refine n2 ?_|refine n6 ?_|refine n10 ?_|refine n11 ?_)|(refine c9 (fun h=>?_) (fun h=>?_)<;>((try simp only [Bool.or_eq_true, Bool.and_eq_true, Bool.or_eq_false_iff, Bool.and_eq_false_iff, Bool.not_eq_true', Bool.not_eq_false', decide_eq_true_eq, decide_eq_false_iff_not, Bool.false_eq_true, Bool.true_eq_false, reduceCtorEq] at h) <;> (try simp (disch := omega) only [sb_bt, w64, Int.reduceAdd, Int.reduceToNat, Int.toNat_natCast, not_true_eq_false, false_or] at h) <;> (try (exfalso; omega)))))
  all_goals
    refine gives (St.le_refl _) (fin_one (.wk (Wk.of_eq ?_)))
    unfold sgnK
    repeat first | rw [if_pos (by assumption)] | rw [if_neg (by assumption)]
theorem p_var (s : ByteArray) (hz : s.size ≤ 1000000) : Pure Tryd.prog 42 [.v (.string s)] (.v (.string (varT s))) := by
  refine enterW Tryd.func42 rfl rfl rfl rfl (fun σ => ?_)
  repeat' (first|(first|(refine jl ?_;first|refine j1 ?_|refine j4 ?_|refine j25 ?_)|(refine jc ?_;first|refine c1 ?_|refine c2 ?_|refine c7 ?_)|refine n11 ?_))
  exact gives (St.le_refl _) (Fin.refl _ _ _)
set_option maxHeartbeats 2000000 in
theorem p_rexpr (nl : Option Bool) (full : Bool) (l : List Itm) (hl : l.length ≤ 1000) (hz : ∀ x ∈ l, litI x) : Pure Tryd.prog 20 [.sl nl full 5 (l.map itc)] (.tup [.v (.string (exprR l).1), .v (.bool (exprR l).2)]) := by
  refine enterW Tryd.func20 rfl rfl rfl rfl (fun σ => ?_)
  have hn : (l.map itc).length = l.length := List.length_map ..
  repeat (first|(refine jl ?_;first|refine j1 ?_|refine j4 ?_)|(refine jc ?_;first|refine c1 ?_|refine c2 ?_|refine c5 ?_))
  refine cj_ghost (ghost_nil (t := 4) 1 9 rfl (fun w0 hw0 => ?_))
  refine cj_for (fun s : Nat × Nat × List ByteArray => s.1 ≤ l.length ∧ σ s.2.1 = none ∧ s.2.2.length ≤ s.1 ∧ szP s.2.2 ≤ 100 * s.1 ∧ runE s.2.2 (l.drop s.1) = runE [] l) (fun s => [(5, .v (.int .i64 s.1)), (4, .osl s.2.1 1 0 s.2.2.length)]) (fun s => σ.set s.2.1 (.row 1 9 (s.2.2.map str1))) (fun s => l.length - s.1) (0, w0, []) ⟨Nat.zero_le _, hw0, Nat.zero_le _, Nat.zero_le _, rfl⟩ ⟨⟨_, rfl, fun _ _ h => h⟩, ⟨_, rfl, fun _ _ h => h⟩, trivial⟩ (St.le_refl _) (fun s hs => ?_)
  obtain ⟨i, w, pile⟩ := s
  obtain ⟨hi, hw, h1, h2, h3⟩ := hs
  dsimp only at hi hw h1 h2 h3 ⊢
  have hpl : (pile.map str1).length = pile.length := List.length_map ..
  rcases hd : l.drop i with _ | ⟨x, r⟩
  · have h0 := dropn hd
    rw [hd] at h3
    have hR : exprR l = oneE (some pile) := by unfold exprR; rw [← h3]; rfl
    by_cases hp1 : pile.length = 1
    · obtain ⟨a, rfl⟩ : ∃ a, pile = [a] := by
        match pile, hp1 with
        | [a], _ => exact ⟨a, rfl⟩
      repeat' (first|(first|(refine jl ?_;first|refine j1 ?_|refine j4 ?_|refine j14 ?_|refine ji4 ?_)|(refine jc ?_;first|refine c1 ?_|refine c2 ?_|refine c6 ?_|refine c7 ?_|refine c8 ?_)|refine n1 ?_|refine n3 ?_|refine n7 ?_|refine n8 ?_|refine n11 ?_)|(refine c9 (fun h=>?_) (fun h=>?_)<;>((try simp only [Bool.or_eq_true, Bool.and_eq_true, Bool.or_eq_false_iff, Bool.and_eq_false_iff, Bool.not_eq_true', Bool.not_eq_false', decide_eq_true_eq, decide_eq_false_iff_not, Bool.false_eq_true, Bool.true_eq_false, reduceCtorEq] at h) <;> (try simp (disch := omega) only [sb_bt, w64, Int.reduceAdd, Int.reduceToNat, Int.toNat_natCast, not_true_eq_false, false_or] at h) <;> (try (exfalso; omega)))))
      rw [hR]
      exact gives (St.le_any (St.le_refl _) hw) (Fin.refl _ _ _)
    · repeat' (first|(first|(refine jl ?_;first|refine j1 ?_|refine j4 ?_)|(refine jc ?_;first|refine c1 ?_|refine c2 ?_|refine c7 ?_|refine c8 ?_)|refine n1 ?_|refine n2 ?_|refine n3 ?_|refine n7 ?_|refine n8 ?_|refine n11 ?_)|(refine c9 (fun h=>?_) (fun h=>?_)<;>((try simp only [Bool.or_eq_true, Bool.and_eq_true, Bool.or_eq_false_iff, Bool.and_eq_false_iff, Bool.not_eq_true', Bool.not_eq_false', decide_eq_true_eq, decide_eq_false_iff_not, Bool.false_eq_true, Bool.true_eq_false, reduceCtorEq] at h) <;> (try simp (disch := omega) only [sb_bt, w64, Int.reduceAdd, Int.reduceToNat, Int.toNat_natCast, not_true_eq_false, false_or] at h) <;> (try (exfalso; omega)))))
      rw [hR, oneE_ne hp1]
      exact gives (St.le_any (St.le_refl _) hw) (Fin.refl _ _ _)
  · obtain ⟨g1, g2, g3⟩ := dropc hd
    have g4 := get_map itc g3
    obtain ⟨hx1, hx2⟩ := hz x (List.mem_of_getElem? g3)
    have ht := textV_sz x.val.k x.val.n x.val.s
    have hv := varT_size x.var
    rw [hd, runE] at h3
    by_cases k0 : x.k = 0
    · rw [stepE, if_pos k0, Option.bind_some] at h3
      repeat' (first|(first|(refine jl ?_;first|refine jbl ?_|refine j1 ?_|refine j4 ?_|refine ji1 ?_|refine jp (p_rtextv x.val.k x.val.n x.val.s (by omega)) ?_|refine jlit ?_)|(refine jc ?_;first|refine c1 ?_|refine c2 ?_|refine c5 ?_|refine c6 ?_)|refine n1 ?_)|(refine c9 (fun h=>?_) (fun h=>?_)<;>((try simp only [Bool.or_eq_true, Bool.and_eq_true, Bool.or_eq_false_iff, Bool.and_eq_false_iff, Bool.not_eq_true', Bool.not_eq_false', decide_eq_true_eq, decide_eq_false_iff_not, Bool.false_eq_true, Bool.true_eq_false, reduceCtorEq] at h) <;> (try simp (disch := omega) only [sb_bt, w64, Int.reduceAdd, Int.reduceToNat, Int.toNat_natCast, not_true_eq_false, false_or] at h) <;> (try (exfalso; omega)))))
      refine japo (id := w) (els := pile.map str1) (n := pile.length) (m := pile.length + 1) (news := [str1 (textV x.val.k x.val.n x.val.s)]) (all := (pile ++ [textV x.val.k x.val.n x.val.s]).map str1) (fun w' hw' => ?_) (by rw [List.take_of_length_le (by omega), List.map_append]; rfl) rfl (hb := by dsimp only [List.length]; omega)
      rw [St.del_set hw]
      repeat' (first|(first|(refine jl ?_;first|refine j1 ?_|refine j6 ?_)|(refine jc ?_;first|refine c2 ?_)|refine n1 ?_|refine n10 ?_))
      exact nx_forS (i + 1, w', pile ++ [textV x.val.k x.val.n x.val.s]) ⟨by dsimp only; omega, St.ns1 hw', by dsimp only; rw [List.length_append, List.length_singleton]; omega, by dsimp only; rw [szP_app, szP_one]; omega, by dsimp only; rw [g2]; exact h3⟩ (by dsimp only; omega) ⟨⟨_, rfl, wk1 (by omega)⟩, ⟨_, rfl, Wk.of_eq (by dsimp only; rw [List.length_append]; rfl)⟩, trivial⟩ (St.le_refl _)
    · by_cases k1 : x.k = 1
      · rw [stepE, if_neg k0, if_pos k1, Option.bind_some] at h3
        repeat' (first|(first|(refine jl ?_;first|refine jbl ?_|refine j1 ?_|refine j4 ?_|refine j25 ?_|refine ji1 ?_|refine jlit ?_)|(refine jc ?_;first|refine c1 ?_|refine c2 ?_|refine c5 ?_|refine c6 ?_)|refine n1 ?_)|(refine c9 (fun h=>?_) (fun h=>?_)<;>((try simp only [Bool.or_eq_true, Bool.and_eq_true, Bool.or_eq_false_iff, Bool.and_eq_false_iff, Bool.not_eq_true', Bool.not_eq_false', decide_eq_true_eq, decide_eq_false_iff_not, Bool.false_eq_true, Bool.true_eq_false, reduceCtorEq] at h) <;> (try simp (disch := omega) only [sb_bt, w64, Int.reduceAdd, Int.reduceToNat, Int.toNat_natCast, not_true_eq_false, false_or] at h) <;> (try (exfalso; omega)))))
        refine japo (id := w) (els := pile.map str1) (n := pile.length) (m := pile.length + 1) (news := [str1 (varT x.var)]) (all := (pile ++ [varT x.var]).map str1) (fun w' hw' => ?_) (by rw [List.take_of_length_le (by omega), List.map_append]; rfl) rfl (hb := by dsimp only [List.length]; omega)
        rw [St.del_set hw]
        repeat' (first|(first|(refine jl ?_;first|refine j1 ?_|refine j6 ?_)|(refine jc ?_;first|refine c2 ?_)|refine n1 ?_|refine n10 ?_))
        exact nx_forS (i + 1, w', pile ++ [varT x.var]) ⟨by dsimp only; omega, St.ns1 hw', by dsimp only; rw [List.length_append, List.length_singleton]; omega, by dsimp only; rw [szP_app, szP_one]; omega, by dsimp only; rw [g2]; exact h3⟩ (by dsimp only; omega) ⟨⟨_, rfl, wk1 (by omega)⟩, ⟨_, rfl, Wk.of_eq (by dsimp only; rw [List.length_append]; rfl)⟩, trivial⟩ (St.le_refl _)
      · have hS := sgnK_size x.k
        by_cases k2 : sgnK x.k = ⟨#[]⟩ ∨ pile.length < 2
        · rw [stepE, if_neg k0, if_neg k1, if_pos k2] at h3
          have hR : exprR l = (⟨#[]⟩, false) := by unfold exprR; rw [← h3]; rfl
          rw [hR]
          repeat' (first|(first|(refine jl ?_;first|refine j7 ?_|refine jbl ?_|refine j1 ?_|refine j4 ?_|refine j9 ?_|refine ji1 ?_|refine jp (p_rsgn x.k) ?_)|(refine dl ?_;first|refine d1 ?_|refine d25 ?_|refine di4 ?_)|(refine jc ?_;first|refine c1 ?_|refine c2 ?_|refine c5 ?_|refine c6 ?_|refine c7 ?_|refine cq ?_)|refine n1 ?_|refine n2 ?_|refine n5 ?_|refine n6 ?_|refine n11 ?_)|(refine c9 (fun h=>?_) (fun h=>?_)<;>((try simp only [Bool.or_eq_true, Bool.and_eq_true, Bool.or_eq_false_iff, Bool.and_eq_false_iff, Bool.not_eq_true', Bool.not_eq_false', decide_eq_true_eq, decide_eq_false_iff_not, Bool.false_eq_true, Bool.true_eq_false, reduceCtorEq] at h) <;> (try simp (disch := omega) only [sb_bt, w64, Int.reduceAdd, Int.reduceToNat, Int.toNat_natCast, not_true_eq_false, false_or] at h) <;> (try (exfalso; omega)))))
          · exact gives (St.le_any (St.le_refl _) hw) (Fin.refl _ _ _)
          · exfalso
            rcases k2 with k2 | k2
            · exact h.1 k2
            · omega
        · obtain ⟨q, a, b, rfl, _⟩ := pile_two (p := pile) (by omega)
          obtain ⟨p1, p2, p3, p4, p5, p6⟩ := pile_get q a b
          rw [stepE, if_neg k0, if_neg k1, if_neg k2, Option.bind_some, p1, show q.length + 2 - 2 = q.length by omega, show q.length + 2 - 1 = q.length + 1 by omega, p2, p3, p4] at h3
          rw [p1] at hpl h1 k2 ⊢
          have hsz : szP (q ++ [a, b]) = szP q + (a.size + b.size) := by rw [szP_app]; simp [szP]
          rw [hsz] at h2
          have w2 : IntKind.i64.wrap (((q.length + 2 : Nat) : Int) - 2) = (q.length : Int) := by rw [w64 (by omega) (by omega)]; omega
          have w3 : IntKind.i64.wrap (((q.length + 2 : Nat) : Int) - 1) = ((q.length + 1 : Nat) : Int) := by rw [w64 (by omega) (by omega)]; omega
          have ea : ((q ++ [a, b]).map str1)[0 + (IntKind.i64.wrap (((q.length + 2 : Nat) : Int) - 2)).toNat]? = some (str1 a) := by rw [w2, Nat.zero_add]; exact get_map str1 p5
          have eb : ((q ++ [a, b]).map str1)[0 + (IntKind.i64.wrap (((q.length + 2 : Nat) : Int) - 1)).toNat]? = some (str1 b) := by rw [w3, Nat.zero_add]; exact get_map str1 p6
          repeat' (first|(first|(refine jl ?_;first|refine j7 ?_|refine jbl ?_|refine j1 ?_|refine j4 ?_|refine j9 ?_|refine ji1 ?_|refine jp (p_rsgn x.k) ?_)|(refine dl ?_;first|refine d1 ?_|refine d4 ?_|refine d25 ?_|refine di4 ?_|refine d14 (he := ea) (he' := ea) ?_|refine d14 (he := eb) (he' := eb) ?_)|(refine jc ?_;first|refine c1 ?_|refine c2 ?_|refine c5 ?_|refine c6 ?_|refine c7 ?_|refine cq ?_)|refine n1 ?_|refine n2 ?_|refine n5 ?_|refine n6 ?_|refine n11 ?_)|(refine c9 (fun h=>?_) (fun h=>?_)<;>((try simp only [Bool.or_eq_true, Bool.and_eq_true, Bool.or_eq_false_iff, Bool.and_eq_false_iff, Bool.not_eq_true', Bool.not_eq_false', decide_eq_true_eq, decide_eq_false_iff_not, Bool.false_eq_true, Bool.true_eq_false, reduceCtorEq] at h) <;> (try simp (disch := omega) only [sb_bt, w64, Int.reduceAdd, Int.reduceToNat, Int.toNat_natCast, not_true_eq_false, false_or] at h) <;> (try (exfalso; omega)))))
          · exfalso
            rcases h with h | h
            · exact k2 (.inl h)
            · omega
          · refine jlito (fun id hid => ?_)
            repeat' (first|(first|(refine jl ?_;first|refine j1 ?_)))
            refine jco (o2 := 0) (n2 := q.length) ?_
            repeat' (first|fail)
            refine japo (id := id) (els := []) (n := 0) (m := q.length) (news := q.map str1) (all := q.map str1) (fun w1 hw1 => ?_) rfl (by rw [List.length_map, Nat.zero_add]) (hs := ?_) (hn := Nat.le_refl _) (hb := by rw [List.length_map]; omega)
            · rw [St.del_set hid]
              have hw1' : (σ.set w (.row 1 9 ((q ++ [a, b]).map str1))) w1 = none := St.ns1 hw1
              repeat' (first|(first|(refine jl ?_;first|refine j1 ?_|refine jlit ?_)))
              refine japo (id := w1) (els := q.map str1) (n := q.length) (m := q.length + 1) (news := [str1 (opT (sgnK x.k) a b)]) (all := (q ++ [opT (sgnK x.k) a b]).map str1) (fun w2 hw2 => ?_) (by rw [List.take_of_length_le (by rw [List.length_map]; exact Nat.le_refl _), List.map_append]; rfl) rfl (hn := by rw [List.length_map]; exact Nat.le_refl _) (hb := by dsimp only [List.length]; omega)
              rw [St.del_set hw1']
              have hw2' : (σ.set w (.row 1 9 ((q ++ [a, b]).map str1))) w2 = none := St.ns1 hw2
              repeat' (first|(first|(refine jl ?_;first|refine j1 ?_|refine j6 ?_)|(refine jc ?_;first|refine c2 ?_)|refine n1 ?_|refine n10 ?_))
              exact nx_forS (i + 1, w2, q ++ [opT (sgnK x.k) a b]) ⟨by dsimp only; omega, St.ns1 hw2', by dsimp only; rw [List.length_append, List.length_singleton]; omega, by dsimp only; rw [szP_app, szP_one, opT_size]; omega, by dsimp only; rw [g2]; exact h3⟩ (by dsimp only; omega) ⟨⟨_, rfl, wk1 (by omega)⟩, ⟨_, rfl, Wk.of_eq (by dsimp only; rw [List.length_append]; rfl)⟩, trivial⟩ (St.le_setk (St.le_any (St.le_any (St.le_refl _) hw) (St.ns1 hw2')) (St.set_same _ _ _))
            · simp only [srcOf]
              rw [St.set_ne _ _ _ (St.ne_some hid (St.set_same _ _ _)).symm, St.set_same]
              simp
end Go.Proofs.YtfaaokekgljnbaaDoor.Ab

/- Expressions' texts: the program's own. -/
set_option linter.unusedVariables false
set_option linter.unusedSimpArgs false
set_option maxRecDepth 20000
namespace Go.Proofs.YtfaaokekgljnbaaDoor.Ab
open Go
attribute [local irreducible] thn inb endR CJ LJ OpJ DJ DA DB AllocK
set_option maxHeartbeats 2000000 in
theorem p_expr0 (nl : Option Bool) (full : Bool) (l : List Itm) (hl : l.length ≤ 1000) (hz : ∀ x ∈ l, litI x) : Pure Tryd.prog 19 [.sl nl full 5 (l.map itc)] (.tup [.v (.string (exprR l).1), .v (.bool (exprR l).2)]) := by
  refine enterW Tryd.func19 rfl rfl rfl rfl (fun σ => ?_)
  have hn : (l.map itc).length = l.length := List.length_map ..
  repeat (first|(refine jl ?_;first|refine j1 ?_|refine j4 ?_)|(refine jc ?_;first|refine c1 ?_|refine c2 ?_|refine c5 ?_))
  refine cj_ghost (ghost_nil (t := 4) 1 9 rfl (fun w0 hw0 => ?_))
  refine cj_for (fun s : Nat × Nat × List ByteArray × List ByteArray => s.1 ≤ l.length ∧ σ s.2.1 = none ∧ s.2.2.1.length ≤ s.1 ∧ szP s.2.2.1 ≤ 100 * s.1 ∧ runE s.2.2.1 (l.drop s.1) = runE [] l) (fun s => [(11, .v (.int .i64 s.1)), (4, .osl s.2.1 1 0 s.2.2.1.length)]) (fun s => σ.set s.2.1 (.row 1 9 ((s.2.2.1 ++ s.2.2.2).map str1))) (fun s => l.length - s.1) (0, w0, [], []) ⟨Nat.zero_le _, hw0, Nat.zero_le _, Nat.zero_le _, rfl⟩ ⟨⟨_, rfl, fun _ _ h => h⟩, ⟨_, rfl, fun _ _ h => h⟩, trivial⟩ (St.le_refl _) (fun s hs => ?_)
  obtain ⟨i, w, pile, z⟩ := s
  obtain ⟨hi, hw, h1, h2, h3⟩ := hs
  dsimp only at hi hw h1 h2 h3 ⊢
  have hpl : ((pile ++ z).map str1).length = pile.length + z.length := by rw [List.length_map, List.length_append]
  have htk : ((pile ++ z).map str1).take pile.length = pile.map str1 := by rw [← List.map_take, List.take_left]
  rcases hd : l.drop i with _ | ⟨x, r⟩
  · have h0 := dropn hd
    rw [hd] at h3
    have hR : exprR l = oneE (some pile) := by unfold exprR; rw [← h3]; rfl
    by_cases hp1 : pile.length = 1
    · obtain ⟨a, rfl⟩ : ∃ a, pile = [a] := by
        match pile, hp1 with
        | [a], _ => exact ⟨a, rfl⟩
      repeat' (first|(first|(refine jl ?_;first|refine j1 ?_|refine j4 ?_|refine j14 ?_|refine ji4 ?_)|(refine jc ?_;first|refine c1 ?_|refine c2 ?_|refine c6 ?_|refine c7 ?_|refine c8 ?_)|refine n1 ?_|refine n3 ?_|refine n7 ?_|refine n8 ?_|refine n11 ?_)|(refine c9 (fun h=>?_) (fun h=>?_)<;>((try simp only [Bool.or_eq_true, Bool.and_eq_true, Bool.or_eq_false_iff, Bool.and_eq_false_iff, Bool.not_eq_true', Bool.not_eq_false', decide_eq_true_eq, decide_eq_false_iff_not, Bool.false_eq_true, Bool.true_eq_false, reduceCtorEq] at h) <;> (try simp (disch := omega) only [sb_bt, w64, Int.reduceAdd, Int.reduceToNat, Int.toNat_natCast, not_true_eq_false, false_or] at h) <;> (try (exfalso; omega)))))
      rw [hR]
      exact gives (St.le_any (St.le_refl _) hw) (Fin.refl _ _ _)
    · repeat' (first|(first|(refine jl ?_;first|refine j1 ?_|refine j4 ?_)|(refine jc ?_;first|refine c1 ?_|refine c2 ?_|refine c7 ?_|refine c8 ?_)|refine n1 ?_|refine n2 ?_|refine n3 ?_|refine n7 ?_|refine n8 ?_|refine n11 ?_)|(refine c9 (fun h=>?_) (fun h=>?_)<;>((try simp only [Bool.or_eq_true, Bool.and_eq_true, Bool.or_eq_false_iff, Bool.and_eq_false_iff, Bool.not_eq_true', Bool.not_eq_false', decide_eq_true_eq, decide_eq_false_iff_not, Bool.false_eq_true, Bool.true_eq_false, reduceCtorEq] at h) <;> (try simp (disch := omega) only [sb_bt, w64, Int.reduceAdd, Int.reduceToNat, Int.toNat_natCast, not_true_eq_false, false_or] at h) <;> (try (exfalso; omega)))))
      rw [hR, oneE_ne hp1]
      exact gives (St.le_any (St.le_refl _) hw) (Fin.refl _ _ _)
  · obtain ⟨g1, g2, g3⟩ := dropc hd
    have g4 := get_map itc g3
    obtain ⟨hx1, hx2⟩ := hz x (List.mem_of_getElem? g3)
    have ht := textV_sz x.val.k x.val.n x.val.s
    have hv := varT_size x.var
    rw [hd, runE] at h3
    by_cases k0 : x.k = 0
    · rw [stepE, if_pos k0, Option.bind_some] at h3
      repeat' (first|(first|(refine jl ?_;first|refine jbl ?_|refine j1 ?_|refine j4 ?_|refine j13 (fun id hid=>?_)|refine j14 ?_|refine j17t ?_|refine ji1 ?_|refine jp (p_textv x.val.k x.val.n x.val.s) ?_|refine jlit ?_)|(refine jc ?_;first|refine c1 ?_|refine c2 ?_|refine c5 ?_|refine c6 ?_)|refine n1 ?_)|(refine c9 (fun h=>?_) (fun h=>?_)<;>((try simp only [Bool.or_eq_true, Bool.and_eq_true, Bool.or_eq_false_iff, Bool.and_eq_false_iff, Bool.not_eq_true', Bool.not_eq_false', decide_eq_true_eq, decide_eq_false_iff_not, Bool.false_eq_true, Bool.true_eq_false, reduceCtorEq] at h) <;> (try simp (disch := omega) only [sb_bt, w64, Int.reduceAdd, Int.reduceToNat, Int.toNat_natCast, not_true_eq_false, false_or] at h) <;> (try (exfalso; omega)))))
      refine japo (id := w) (els := (pile ++ z).map str1) (n := pile.length) (m := pile.length + 1) (news := [str1 (textV x.val.k x.val.n x.val.s)]) (all := (pile ++ [textV x.val.k x.val.n x.val.s]).map str1) (fun w' hw' => ?_) (by rw [htk, List.map_append]; rfl) rfl (hb := by dsimp only [List.length]; omega)
      repeat' (first|(first|(refine jl ?_;first|refine j1 ?_|refine j4 ?_|refine j6 ?_)|(refine jc ?_;first|refine c2 ?_|refine c8 ?_)|refine n1 ?_|refine n3 ?_|refine n8 ?_|refine n9 ?_))
      exact nx_forS (i + 1, w', pile ++ [textV x.val.k x.val.n x.val.s], []) ⟨by dsimp only; omega, St.ns2 hw', by dsimp only; rw [List.length_append, List.length_singleton]; omega, by dsimp only; rw [szP_app, szP_one]; omega, by dsimp only; rw [g2]; exact h3⟩ (by dsimp only; omega) ⟨⟨_, rfl, wk1 (by omega)⟩, ⟨_, rfl, Wk.of_eq (by dsimp only; rw [List.length_append]; rfl)⟩, trivial⟩ (by dsimp only; rw [List.append_nil]; exact St.le_setk (St.le_any (St.le_del (St.le_any (St.le_any (St.le_refl _) hw) (St.ns1 hid)) hw) (St.ns2 hw')) (St.set_same _ _ _))
    · by_cases k1 : x.k = 1
      · rw [stepE, if_neg k0, if_pos k1, Option.bind_some] at h3
        repeat' (first|(first|(refine jl ?_;first|refine jbl ?_|refine j1 ?_|refine j4 ?_|refine j13 (fun id hid=>?_)|refine j14 ?_|refine j17t ?_|refine ji1 ?_|refine jp (p_var x.var (by omega)) ?_|refine jlit ?_)|(refine jc ?_;first|refine c1 ?_|refine c2 ?_|refine c5 ?_|refine c6 ?_)|refine n1 ?_)|(refine c9 (fun h=>?_) (fun h=>?_)<;>((try simp only [Bool.or_eq_true, Bool.and_eq_true, Bool.or_eq_false_iff, Bool.and_eq_false_iff, Bool.not_eq_true', Bool.not_eq_false', decide_eq_true_eq, decide_eq_false_iff_not, Bool.false_eq_true, Bool.true_eq_false, reduceCtorEq] at h) <;> (try simp (disch := omega) only [sb_bt, w64, Int.reduceAdd, Int.reduceToNat, Int.toNat_natCast, not_true_eq_false, false_or] at h) <;> (try (exfalso; omega)))))
        refine japo (id := w) (els := (pile ++ z).map str1) (n := pile.length) (m := pile.length + 1) (news := [str1 (varT x.var)]) (all := (pile ++ [varT x.var]).map str1) (fun w' hw' => ?_) (by rw [htk, List.map_append]; rfl) rfl (hb := by dsimp only [List.length]; omega)
        repeat' (first|(first|(refine jl ?_;first|refine j1 ?_|refine j4 ?_|refine j6 ?_)|(refine jc ?_;first|refine c2 ?_|refine c8 ?_)|refine n1 ?_|refine n3 ?_|refine n8 ?_|refine n9 ?_))
        exact nx_forS (i + 1, w', pile ++ [varT x.var], []) ⟨by dsimp only; omega, St.ns2 hw', by dsimp only; rw [List.length_append, List.length_singleton]; omega, by dsimp only; rw [szP_app, szP_one]; omega, by dsimp only; rw [g2]; exact h3⟩ (by dsimp only; omega) ⟨⟨_, rfl, wk1 (by omega)⟩, ⟨_, rfl, Wk.of_eq (by dsimp only; rw [List.length_append]; rfl)⟩, trivial⟩ (by dsimp only; rw [List.append_nil]; exact St.le_setk (St.le_any (St.le_del (St.le_any (St.le_any (St.le_refl _) hw) (St.ns1 hid)) hw) (St.ns2 hw')) (St.set_same _ _ _))
      · have hS := sgnK_size x.k
        by_cases k2 : sgnK x.k = ⟨#[]⟩ ∨ pile.length < 2
        · rw [stepE, if_neg k0, if_neg k1, if_pos k2] at h3
          have hR : exprR l = (⟨#[]⟩, false) := by unfold exprR; rw [← h3]; rfl
          rw [hR]
          repeat' (first|(first|(refine jl ?_;first|refine j7 ?_|refine jbl ?_|refine j1 ?_|refine j4 ?_|refine j9 ?_|refine j13 (fun id hid=>?_)|refine j14 ?_|refine j17t ?_|refine ji1 ?_|refine jp (p_sgn x.k) ?_)|(refine al ?_;first|refine a1 ?_|refine ai4 ?_)|(refine jc ?_;first|refine c1 ?_|refine c2 ?_|refine c5 ?_|refine c6 ?_|refine c7 ?_|refine cqa ?_)|refine n1 ?_|refine n2 ?_|refine n5 ?_|refine n6 ?_|refine n10 ?_|refine n11 ?_)|(refine c9 (fun h=>?_) (fun h=>?_)<;>((try simp only [Bool.or_eq_true, Bool.and_eq_true, Bool.or_eq_false_iff, Bool.and_eq_false_iff, Bool.not_eq_true', Bool.not_eq_false', decide_eq_true_eq, decide_eq_false_iff_not, Bool.false_eq_true, Bool.true_eq_false, reduceCtorEq] at h) <;> (try simp (disch := omega) only [sb_bt, w64, Int.reduceAdd, Int.reduceToNat, Int.toNat_natCast, not_true_eq_false, false_or] at h) <;> (try (exfalso; omega)))))
          · exact gives (St.le_any (St.le_any (St.le_refl _) hw) (St.ns1 hid)) (Fin.refl _ _ _)
          · exfalso
            rcases k2 with k2 | k2
            · exact h.1 k2
            · omega
        · obtain ⟨q, a, b, rfl, _⟩ := pile_two (p := pile) (by omega)
          obtain ⟨p1, p2, p3, p4, p5, p6⟩ := pile_get q a b
          rw [stepE, if_neg k0, if_neg k1, if_neg k2, Option.bind_some, p1, show q.length + 2 - 2 = q.length by omega, show q.length + 2 - 1 = q.length + 1 by omega, p2, p3, p4] at h3
          rw [p1] at hpl h1 k2 ⊢
          have hsz : szP (q ++ [a, b]) = szP q + (a.size + b.size) := by rw [szP_app]; simp [szP]
          rw [hsz] at h2
          have w2 : IntKind.i64.wrap (((q.length + 2 : Nat) : Int) - 2) = (q.length : Int) := by rw [w64 (by omega) (by omega)]; omega
          have w3 : IntKind.i64.wrap (IntKind.i64.wrap (((q.length + 2 : Nat) : Int) - 2) + 1) = ((q.length + 1 : Nat) : Int) := by rw [w2, w64 (by omega) (by omega)]; omega
          have p5' : (q ++ [a, b] ++ z)[q.length]? = some a := by rw [List.getElem?_append_left (by omega)]; exact p5
          have p6' : (q ++ [a, b] ++ z)[q.length + 1]? = some b := by rw [List.getElem?_append_left (by omega)]; exact p6
          have ea : ((q ++ [a, b] ++ z).map str1)[0 + (IntKind.i64.wrap (((q.length + 2 : Nat) : Int) - 2)).toNat]? = some (str1 a) := by rw [w2, Nat.zero_add]; exact get_map str1 p5'
          have eb : ((q ++ [a, b] ++ z).map str1)[0 + (IntKind.i64.wrap (IntKind.i64.wrap (((q.length + 2 : Nat) : Int) - 2) + 1)).toNat]? = some (str1 b) := by rw [w3, Nat.zero_add]; exact get_map str1 p6'
          have hj := p_join3 (some false) true (sgnK x.k) a b ⟨#[32]⟩ (by show _ + 2 * 1 ≤ _; omega)
          repeat' (first|(first|(refine jl ?_;first|refine j7 ?_|refine jbl ?_|refine j1 ?_|refine j4 ?_|refine j9 ?_|refine j13 (fun id hid=>?_)|refine j14 ?_|refine j17t ?_|refine ji1 ?_|refine jp (p_sgn x.k) ?_)|(refine al ?_;first|refine da_nil ?_|refine a1 ?_|refine a25 ?_|refine ai4 ?_|refine alit ?_|refine ap (hj) ?_|refine a14 (he := ea) ?_|refine a14 (he := eb) ?_)|refine al_nil ?_|(refine jc ?_;first|refine c1 ?_|refine c2 ?_|refine c5 ?_|refine c6 ?_|refine c7 ?_|refine cqa ?_)|refine n1 ?_|refine n2 ?_|refine n5 ?_|refine n6 ?_|refine n10 ?_|refine n11 ?_)|(refine c9 (fun h=>?_) (fun h=>?_)<;>((try simp only [Bool.or_eq_true, Bool.and_eq_true, Bool.or_eq_false_iff, Bool.and_eq_false_iff, Bool.not_eq_true', Bool.not_eq_false', decide_eq_true_eq, decide_eq_false_iff_not, Bool.false_eq_true, Bool.true_eq_false, reduceCtorEq] at h) <;> (try simp (disch := omega) only [sb_bt, w64, Int.reduceAdd, Int.reduceToNat, Int.toNat_natCast, not_true_eq_false, false_or] at h) <;> (try (exfalso; omega)))))
          · exfalso
            rcases h with h | h
            · exact k2 (.inl h)
            · omega
          · have hX : (⟨#[40]⟩ ++ (sgnK x.k ++ ⟨#[32]⟩ ++ a ++ ⟨#[32]⟩ ++ b) ++ ⟨#[41]⟩ : ByteArray) = opT (sgnK x.k) a b := by
              unfold opT
              simp only [ByteArray.append_assoc]
            have hset : ((q ++ [a, b] ++ z).map str1).set (0 + (IntKind.i64.wrap (((q.length + 2 : Nat) : Int) - 2)).toNat) (str1 (⟨#[40]⟩ ++ (sgnK x.k ++ ⟨#[32]⟩ ++ a ++ ⟨#[32]⟩ ++ b) ++ ⟨#[41]⟩)) = (q ++ [opT (sgnK x.k) a b] ++ (b :: z)).map str1 := by
              rw [hX, w2, Nat.zero_add, Int.toNat_natCast, ← List.map_set, List.append_assoc, List.set_append_right _ _ (by omega), Nat.sub_self, List.append_assoc]
              rfl
            refine b17 (he := ea) (hn2 := hset) ?_
            repeat' (first|(first|(refine jl ?_;first|refine j1 ?_|refine j6 ?_|refine jco (o2 := 0) (n2 := q.length + 1) ?_)|(refine bl ?_;first|refine db_nil ?_)|(refine jc ?_;first|refine c2 ?_)|refine n1 ?_|refine n10 ?_))
            exact nx_forS (i + 1, w, q ++ [opT (sgnK x.k) a b], b :: z) ⟨by dsimp only; omega, hw, by dsimp only; rw [List.length_append, List.length_singleton]; omega, by dsimp only; rw [szP_app, szP_one, opT_size]; omega, by dsimp only; rw [g2]; exact h3⟩ (by dsimp only; omega) ⟨⟨_, rfl, wk1 (by omega)⟩, ⟨_, rfl, Wk.of_eq (by dsimp only; rw [List.length_append]; rfl)⟩, trivial⟩ (St.le_setk (St.le_any (St.le_any (St.le_any (St.le_refl _) hw) (St.ns1 hid)) hw) (St.set_same _ _ _))
end Go.Proofs.YtfaaokekgljnbaaDoor.Ab

/- Texts of a list, each with a blank ahead. -/
set_option linter.unusedVariables false
set_option linter.unusedSimpArgs false
set_option maxRecDepth 20000
namespace Go.Proofs.YtfaaokekgljnbaaDoor.Ab
open Go
attribute [local irreducible] thn inb endR CJ LJ OpJ DJ DA DB AllocK
def eachB {α : Type} (tx : α → ByteArray) : List α → ByteArray
  | [] => ⟨#[]⟩
  | x :: l => ⟨#[32]⟩ ++ tx x ++ eachB tx l
theorem app_nil (a : ByteArray) : a ++ ⟨#[]⟩ = a := by
  apply ByteArray.ext
  rw [ByteArray.data_append]
  simp
theorem nil_app (a : ByteArray) : (⟨#[]⟩ : ByteArray) ++ a = a := by
  apply ByteArray.ext
  rw [ByteArray.data_append]
  simp
theorem eachB_app {α : Type} (tx : α → ByteArray) : ∀ (a b : List α), eachB tx (a ++ b) = eachB tx a ++ eachB tx b
  | [], b => (nil_app _).symm
  | x :: a, b => by rw [List.cons_append, eachB, eachB, eachB_app tx a b]; simp only [ByteArray.append_assoc]
theorem eachB_size {α : Type} (tx : α → ByteArray) (m : Nat) : ∀ (l : List α), (∀ x ∈ l, (tx x).size ≤ m) → (eachB tx l).size ≤ l.length * (m + 1)
  | [], _ => Nat.zero_le _
  | x :: l, h => by
    have h1 := h x (List.mem_cons_self ..)
    have h2 := eachB_size tx m l (fun y hy => h y (List.mem_cons_of_mem _ hy))
    rw [eachB, ByteArray.size_append, ByteArray.size_append, List.length_cons, Nat.succ_mul]
    have : (⟨#[32]⟩ : ByteArray).size = 1 := rfl
    omega
set_option maxHeartbeats 2000000 in
theorem p_eachCnd {f : FuncId} (tx : Cnd → ByteArray) (nl : Option Bool) (full : Bool) (l : List Cnd) (hl : l.length ≤ 1000000) (hz : (eachB tx l).size ≤ 1000000000) (hent : entered Tryd.prog f = true) (hp : ∀ x ∈ l, Pure Tryd.prog f [.agg (dc x)] (.v (.string (tx x)))) : Pure Tryd.prog 48 [.sl nl full 3 (l.map dc), .fn f []] (.v (.string (eachB tx l))) := by
  refine enterW Tryd.func48 rfl rfl rfl rfl (fun σ => ?_)
  have hn : (l.map dc).length = l.length := List.length_map ..
  by_cases h0 : l = []
  · subst h0
    have hn1 : ([] : List Cnd).length = 0 := rfl
    repeat (first|(refine jl ?_;first|refine j1 ?_|refine j4 ?_|refine j13 (fun id hid=>?_))|(refine jc ?_;first|refine c1 ?_|refine c2 ?_|refine c5 ?_))
    refine cj_for (fun i : Nat => i = 0) (fun i => [(10, .v (.int .i64 i))]) (fun _ => σ.set id (.row 2 101 [[.v (.pointer none), .sl (some true) true 1 []]])) (fun i => 0) 0 rfl ⟨⟨_, rfl, fun _ _ h => h⟩, trivial⟩ (St.le_refl _) (fun i hi => ?_)
    subst hi
    repeat' (first|(first|(refine jl ?_;first|refine j1 ?_|refine j4 ?_|refine lj_to rfl rfl rfl (q_bstr0 (St.set_same _ _ _)) ?_)|(refine jc ?_;first|refine c1 ?_|refine c2 ?_|refine c7 ?_|refine c8 ?_)|refine n1 ?_|refine n3 ?_|refine n7 ?_|refine n8 ?_|refine n11 ?_)|(refine c9 (fun h=>?_) (fun h=>?_)<;>((try simp only [Bool.or_eq_true, Bool.and_eq_true, Bool.or_eq_false_iff, Bool.and_eq_false_iff, Bool.not_eq_true', Bool.not_eq_false', decide_eq_true_eq, decide_eq_false_iff_not, Bool.false_eq_true, Bool.true_eq_false, reduceCtorEq] at h) <;> (try simp (disch := omega) only [sb_bt, w64, Int.reduceAdd, Int.reduceToNat, Int.toNat_natCast, not_true_eq_false, false_or] at h) <;> (try (exfalso; omega)))))
    exact gives (St.le_any (St.le_refl _) hid) (Fin.refl _ _ _)
  · have hpos : 0 < l.length := List.length_pos_iff.2 h0
    repeat (first|(refine jl ?_;first|refine j1 ?_|refine j4 ?_|refine j13 (fun id hid=>?_))|(refine jc ?_;first|refine c1 ?_|refine c2 ?_|refine c5 ?_))
    have hid0 := hid
    refine cj_bld 5 (fun τ w σ1 hb hw hle hk hbase hB => ?_)
    have hστ : σ.le τ := hbase σ hid0 (St.le_any (St.le_refl _) hid0)
    refine cj_for (fun s : Nat × ByteArray × Nat × Bool => (s.1 ≤ l.length ∧ s.2.1 ++ eachB tx (l.drop s.1) = eachB tx l ∧ (0 < s.1 → 0 < s.2.1.size)) ∧ τ s.2.2.1 = none ∧ s.2.2.1 ≠ id) (fun s => [(10, .v (.int .i64 s.1))]) (fun s => bldS τ id s.2.2.1 s.2.1 s.2.2.2) (fun s => l.length - s.1) (0, noB, w, false) ⟨⟨Nat.zero_le _, nil_app _, fun h => absurd h (Nat.lt_irrefl _)⟩, hw, hB.2.2⟩ ⟨⟨_, rfl, fun _ _ h => h⟩, trivial⟩ (bldS_le hle hB) (fun s hs => ?_)
    clear hle hB hw w
    obtain ⟨i, acc, w, u⟩ := s
    obtain ⟨⟨hi, h1, h2⟩, hw, hne⟩ := hs
    dsimp only at hi h1 h2 hw hne ⊢
    refine cj_name (fun σ3 hσ3 => ?_)
    have hB : Bld σ3 id w acc.data.toList u := hσ3 ▸ bldS_bld hne
    have hle : τ.le σ3 := hσ3 ▸ bldS_keep hb hw
    clear hσ3
    have hsz := congrArg ByteArray.size h1
    rw [ByteArray.size_append] at hsz
    rcases hd : l.drop i with _ | ⟨x, r⟩
    · have hi0 := dropn hd
      have h3 := h2 (by omega)
      rw [hd, eachB, app_nil] at h1
      repeat' (first|(first|(refine jl ?_;first|refine j1 ?_|refine j4 ?_|refine lj_to rfl rfl rfl (q_bstr hB (by omega) (by omega)) ?_)|(refine jc ?_;first|refine c1 ?_|refine c2 ?_|refine c7 ?_|refine c8 ?_)|refine n1 ?_|refine n3 ?_|refine n7 ?_|refine n8 ?_|refine n11 ?_)|(refine c9 (fun h=>?_) (fun h=>?_)<;>((try simp only [Bool.or_eq_true, Bool.and_eq_true, Bool.or_eq_false_iff, Bool.and_eq_false_iff, Bool.not_eq_true', Bool.not_eq_false', decide_eq_true_eq, decide_eq_false_iff_not, Bool.false_eq_true, Bool.true_eq_false, reduceCtorEq] at h) <;> (try simp (disch := omega) only [sb_bt, w64, Int.reduceAdd, Int.reduceToNat, Int.toNat_natCast, not_true_eq_false, false_or] at h) <;> (try (exfalso; omega)))))
      rw [← h1]
      exact gv (Wk.refl _) (St.le_del (St.le_trans hστ hle) (St.none_le hστ hw))
    · obtain ⟨g1, g2, g3⟩ := dropc hd
      have g4 := get_map dc g3
      have hx := hp x (List.mem_of_getElem? g3)
      rw [hd, eachB, ByteArray.size_append, ByteArray.size_append] at hsz
      have hs1 : (⟨#[32]⟩ : ByteArray).size = 1 := rfl
      repeat' (first|(first|(refine jl ?_;first|refine jbl ?_|refine j1 ?_|refine j4 ?_|refine j13 (fun id hid=>?_)|refine j14 ?_|refine j17t ?_|refine j25 ?_|refine ji1 ?_|refine jcl (hent := hent) hx ?_)|(refine jc ?_;first|refine c1 ?_|refine c2 ?_|refine c5 ?_|refine c6 ?_)|refine n1 ?_)|(refine c9 (fun h=>?_) (fun h=>?_)<;>((try simp only [Bool.or_eq_true, Bool.and_eq_true, Bool.or_eq_false_iff, Bool.and_eq_false_iff, Bool.not_eq_true', Bool.not_eq_false', decide_eq_true_eq, decide_eq_false_iff_not, Bool.false_eq_true, Bool.true_eq_false, reduceCtorEq] at h) <;> (try simp (disch := omega) only [sb_bt, w64, Int.reduceAdd, Int.reduceToNat, Int.toNat_natCast, not_true_eq_false, false_or] at h) <;> (try (exfalso; omega)))))
      refine lj_calls rfl rfl rfl (q_wstr (τ := τ) (St.le_any hle (St.none_le hle hid)) hb hw (hB.set (hB.neb hid) (hB.new hid)) (⟨#[32]⟩ ++ tx x) (by rw [ByteArray.size_append]; omega)) (fun r σ4 hr => ?_) (fun x σ' h => by cases h.1)
      obtain ⟨hr, w', hw', hB', hle'⟩ := hr
      cases hr
      repeat' (first|(first|(refine jl ?_;first|refine j1 ?_|refine j6 ?_)|(refine jc ?_;first|refine c2 ?_)|refine n1 ?_|refine n10 ?_))
      exact nx_forS (i + 1, acc ++ (⟨#[32]⟩ ++ tx x), w', true) ⟨⟨by dsimp only; omega, by dsimp only; rw [g2, ← h1, hd, eachB, ByteArray.append_assoc], fun _ => by dsimp only; rw [ByteArray.size_append, ByteArray.size_append]; omega⟩, hw', hB'.2.2⟩ (by dsimp only; omega) ⟨⟨_, rfl, wk1 (by omega)⟩, trivial⟩ (bldS_le hle' hB')
set_option maxHeartbeats 2000000 in
theorem p_eachAcn {f : FuncId} (tx : Acn → ByteArray) (nl : Option Bool) (full : Bool) (l : List Acn) (hl : l.length ≤ 1000000) (hz : (eachB tx l).size ≤ 1000000000) (hent : entered Tryd.prog f = true) (hp : ∀ x ∈ l, Pure Tryd.prog f [.agg (anc x)] (.v (.string (tx x)))) : Pure Tryd.prog 49 [.sl nl full 6 (l.map anc), .fn f []] (.v (.string (eachB tx l))) := by
  refine enterW Tryd.func49 rfl rfl rfl rfl (fun σ => ?_)
  have hn : (l.map anc).length = l.length := List.length_map ..
  by_cases h0 : l = []
  · subst h0
    have hn1 : ([] : List Acn).length = 0 := rfl
    repeat (first|(refine jl ?_;first|refine j1 ?_|refine j4 ?_|refine j13 (fun id hid=>?_))|(refine jc ?_;first|refine c1 ?_|refine c2 ?_|refine c5 ?_))
    refine cj_for (fun i : Nat => i = 0) (fun i => [(10, .v (.int .i64 i))]) (fun _ => σ.set id (.row 2 101 [[.v (.pointer none), .sl (some true) true 1 []]])) (fun i => 0) 0 rfl ⟨⟨_, rfl, fun _ _ h => h⟩, trivial⟩ (St.le_refl _) (fun i hi => ?_)
    subst hi
    repeat' (first|(first|(refine jl ?_;first|refine j1 ?_|refine j4 ?_|refine lj_to rfl rfl rfl (q_bstr0 (St.set_same _ _ _)) ?_)|(refine jc ?_;first|refine c1 ?_|refine c2 ?_|refine c7 ?_|refine c8 ?_)|refine n1 ?_|refine n3 ?_|refine n7 ?_|refine n8 ?_|refine n11 ?_)|(refine c9 (fun h=>?_) (fun h=>?_)<;>((try simp only [Bool.or_eq_true, Bool.and_eq_true, Bool.or_eq_false_iff, Bool.and_eq_false_iff, Bool.not_eq_true', Bool.not_eq_false', decide_eq_true_eq, decide_eq_false_iff_not, Bool.false_eq_true, Bool.true_eq_false, reduceCtorEq] at h) <;> (try simp (disch := omega) only [sb_bt, w64, Int.reduceAdd, Int.reduceToNat, Int.toNat_natCast, not_true_eq_false, false_or] at h) <;> (try (exfalso; omega)))))
    exact gives (St.le_any (St.le_refl _) hid) (Fin.refl _ _ _)
  · have hpos : 0 < l.length := List.length_pos_iff.2 h0
    repeat (first|(refine jl ?_;first|refine j1 ?_|refine j4 ?_|refine j13 (fun id hid=>?_))|(refine jc ?_;first|refine c1 ?_|refine c2 ?_|refine c5 ?_))
    have hid0 := hid
    refine cj_bld 5 (fun τ w σ1 hb hw hle hk hbase hB => ?_)
    have hστ : σ.le τ := hbase σ hid0 (St.le_any (St.le_refl _) hid0)
    refine cj_for (fun s : Nat × ByteArray × Nat × Bool => (s.1 ≤ l.length ∧ s.2.1 ++ eachB tx (l.drop s.1) = eachB tx l ∧ (0 < s.1 → 0 < s.2.1.size)) ∧ τ s.2.2.1 = none ∧ s.2.2.1 ≠ id) (fun s => [(10, .v (.int .i64 s.1))]) (fun s => bldS τ id s.2.2.1 s.2.1 s.2.2.2) (fun s => l.length - s.1) (0, noB, w, false) ⟨⟨Nat.zero_le _, nil_app _, fun h => absurd h (Nat.lt_irrefl _)⟩, hw, hB.2.2⟩ ⟨⟨_, rfl, fun _ _ h => h⟩, trivial⟩ (bldS_le hle hB) (fun s hs => ?_)
    clear hle hB hw w
    obtain ⟨i, acc, w, u⟩ := s
    obtain ⟨⟨hi, h1, h2⟩, hw, hne⟩ := hs
    dsimp only at hi h1 h2 hw hne ⊢
    refine cj_name (fun σ3 hσ3 => ?_)
    have hB : Bld σ3 id w acc.data.toList u := hσ3 ▸ bldS_bld hne
    have hle : τ.le σ3 := hσ3 ▸ bldS_keep hb hw
    clear hσ3
    have hsz := congrArg ByteArray.size h1
    rw [ByteArray.size_append] at hsz
    rcases hd : l.drop i with _ | ⟨x, r⟩
    · have hi0 := dropn hd
      have h3 := h2 (by omega)
      rw [hd, eachB, app_nil] at h1
      repeat' (first|(first|(refine jl ?_;first|refine j1 ?_|refine j4 ?_|refine lj_to rfl rfl rfl (q_bstr hB (by omega) (by omega)) ?_)|(refine jc ?_;first|refine c1 ?_|refine c2 ?_|refine c7 ?_|refine c8 ?_)|refine n1 ?_|refine n3 ?_|refine n7 ?_|refine n8 ?_|refine n11 ?_)|(refine c9 (fun h=>?_) (fun h=>?_)<;>((try simp only [Bool.or_eq_true, Bool.and_eq_true, Bool.or_eq_false_iff, Bool.and_eq_false_iff, Bool.not_eq_true', Bool.not_eq_false', decide_eq_true_eq, decide_eq_false_iff_not, Bool.false_eq_true, Bool.true_eq_false, reduceCtorEq] at h) <;> (try simp (disch := omega) only [sb_bt, w64, Int.reduceAdd, Int.reduceToNat, Int.toNat_natCast, not_true_eq_false, false_or] at h) <;> (try (exfalso; omega)))))
      rw [← h1]
      exact gv (Wk.refl _) (St.le_del (St.le_trans hστ hle) (St.none_le hστ hw))
    · obtain ⟨g1, g2, g3⟩ := dropc hd
      have g4 := get_map anc g3
      have hx := hp x (List.mem_of_getElem? g3)
      rw [hd, eachB, ByteArray.size_append, ByteArray.size_append] at hsz
      have hs1 : (⟨#[32]⟩ : ByteArray).size = 1 := rfl
      repeat' (first|(first|(refine jl ?_;first|refine jbl ?_|refine j1 ?_|refine j4 ?_|refine j13 (fun id hid=>?_)|refine j14 ?_|refine j17t ?_|refine j25 ?_|refine ji1 ?_|refine jcl (hent := hent) hx ?_)|(refine jc ?_;first|refine c1 ?_|refine c2 ?_|refine c5 ?_|refine c6 ?_)|refine n1 ?_)|(refine c9 (fun h=>?_) (fun h=>?_)<;>((try simp only [Bool.or_eq_true, Bool.and_eq_true, Bool.or_eq_false_iff, Bool.and_eq_false_iff, Bool.not_eq_true', Bool.not_eq_false', decide_eq_true_eq, decide_eq_false_iff_not, Bool.false_eq_true, Bool.true_eq_false, reduceCtorEq] at h) <;> (try simp (disch := omega) only [sb_bt, w64, Int.reduceAdd, Int.reduceToNat, Int.toNat_natCast, not_true_eq_false, false_or] at h) <;> (try (exfalso; omega)))))
      refine lj_calls rfl rfl rfl (q_wstr (τ := τ) (St.le_any hle (St.none_le hle hid)) hb hw (hB.set (hB.neb hid) (hB.new hid)) (⟨#[32]⟩ ++ tx x) (by rw [ByteArray.size_append]; omega)) (fun r σ4 hr => ?_) (fun x σ' h => by cases h.1)
      obtain ⟨hr, w', hw', hB', hle'⟩ := hr
      cases hr
      repeat' (first|(first|(refine jl ?_;first|refine j1 ?_|refine j6 ?_)|(refine jc ?_;first|refine c2 ?_)|refine n1 ?_|refine n10 ?_))
      exact nx_forS (i + 1, acc ++ (⟨#[32]⟩ ++ tx x), w', true) ⟨⟨by dsimp only; omega, by dsimp only; rw [g2, ← h1, hd, eachB, ByteArray.append_assoc], fun _ => by dsimp only; rw [ByteArray.size_append, ByteArray.size_append]; omega⟩, hw', hB'.2.2⟩ (by dsimp only; omega) ⟨⟨_, rfl, wk1 (by omega)⟩, trivial⟩ (bldS_le hle' hB')
set_option maxHeartbeats 2000000 in
theorem p_eachAtr {f : FuncId} (tx : Atr → ByteArray) (nl : Option Bool) (full : Bool) (l : List Atr) (hl : l.length ≤ 1000000) (hz : (eachB tx l).size ≤ 1000000000) (hent : entered Tryd.prog f = true) (hp : ∀ x ∈ l, Pure Tryd.prog f [.agg (ac x)] (.v (.string (tx x)))) : Pure Tryd.prog 50 [.sl nl full 3 (l.map ac), .fn f []] (.v (.string (eachB tx l))) := by
  refine enterW Tryd.func50 rfl rfl rfl rfl (fun σ => ?_)
  have hn : (l.map ac).length = l.length := List.length_map ..
  by_cases h0 : l = []
  · subst h0
    have hn1 : ([] : List Atr).length = 0 := rfl
    repeat (first|(refine jl ?_;first|refine j1 ?_|refine j4 ?_|refine j13 (fun id hid=>?_))|(refine jc ?_;first|refine c1 ?_|refine c2 ?_|refine c5 ?_))
    refine cj_for (fun i : Nat => i = 0) (fun i => [(10, .v (.int .i64 i))]) (fun _ => σ.set id (.row 2 101 [[.v (.pointer none), .sl (some true) true 1 []]])) (fun i => 0) 0 rfl ⟨⟨_, rfl, fun _ _ h => h⟩, trivial⟩ (St.le_refl _) (fun i hi => ?_)
    subst hi
    repeat' (first|(first|(refine jl ?_;first|refine j1 ?_|refine j4 ?_|refine lj_to rfl rfl rfl (q_bstr0 (St.set_same _ _ _)) ?_)|(refine jc ?_;first|refine c1 ?_|refine c2 ?_|refine c7 ?_|refine c8 ?_)|refine n1 ?_|refine n3 ?_|refine n7 ?_|refine n8 ?_|refine n11 ?_)|(refine c9 (fun h=>?_) (fun h=>?_)<;>((try simp only [Bool.or_eq_true, Bool.and_eq_true, Bool.or_eq_false_iff, Bool.and_eq_false_iff, Bool.not_eq_true', Bool.not_eq_false', decide_eq_true_eq, decide_eq_false_iff_not, Bool.false_eq_true, Bool.true_eq_false, reduceCtorEq] at h) <;> (try simp (disch := omega) only [sb_bt, w64, Int.reduceAdd, Int.reduceToNat, Int.toNat_natCast, not_true_eq_false, false_or] at h) <;> (try (exfalso; omega)))))
    exact gives (St.le_any (St.le_refl _) hid) (Fin.refl _ _ _)
  · have hpos : 0 < l.length := List.length_pos_iff.2 h0
    repeat (first|(refine jl ?_;first|refine j1 ?_|refine j4 ?_|refine j13 (fun id hid=>?_))|(refine jc ?_;first|refine c1 ?_|refine c2 ?_|refine c5 ?_))
    have hid0 := hid
    refine cj_bld 5 (fun τ w σ1 hb hw hle hk hbase hB => ?_)
    have hστ : σ.le τ := hbase σ hid0 (St.le_any (St.le_refl _) hid0)
    refine cj_for (fun s : Nat × ByteArray × Nat × Bool => (s.1 ≤ l.length ∧ s.2.1 ++ eachB tx (l.drop s.1) = eachB tx l ∧ (0 < s.1 → 0 < s.2.1.size)) ∧ τ s.2.2.1 = none ∧ s.2.2.1 ≠ id) (fun s => [(10, .v (.int .i64 s.1))]) (fun s => bldS τ id s.2.2.1 s.2.1 s.2.2.2) (fun s => l.length - s.1) (0, noB, w, false) ⟨⟨Nat.zero_le _, nil_app _, fun h => absurd h (Nat.lt_irrefl _)⟩, hw, hB.2.2⟩ ⟨⟨_, rfl, fun _ _ h => h⟩, trivial⟩ (bldS_le hle hB) (fun s hs => ?_)
    clear hle hB hw w
    obtain ⟨i, acc, w, u⟩ := s
    obtain ⟨⟨hi, h1, h2⟩, hw, hne⟩ := hs
    dsimp only at hi h1 h2 hw hne ⊢
    refine cj_name (fun σ3 hσ3 => ?_)
    have hB : Bld σ3 id w acc.data.toList u := hσ3 ▸ bldS_bld hne
    have hle : τ.le σ3 := hσ3 ▸ bldS_keep hb hw
    clear hσ3
    have hsz := congrArg ByteArray.size h1
    rw [ByteArray.size_append] at hsz
    rcases hd : l.drop i with _ | ⟨x, r⟩
    · have hi0 := dropn hd
      have h3 := h2 (by omega)
      rw [hd, eachB, app_nil] at h1
      repeat' (first|(first|(refine jl ?_;first|refine j1 ?_|refine j4 ?_|refine lj_to rfl rfl rfl (q_bstr hB (by omega) (by omega)) ?_)|(refine jc ?_;first|refine c1 ?_|refine c2 ?_|refine c7 ?_|refine c8 ?_)|refine n1 ?_|refine n3 ?_|refine n7 ?_|refine n8 ?_|refine n11 ?_)|(refine c9 (fun h=>?_) (fun h=>?_)<;>((try simp only [Bool.or_eq_true, Bool.and_eq_true, Bool.or_eq_false_iff, Bool.and_eq_false_iff, Bool.not_eq_true', Bool.not_eq_false', decide_eq_true_eq, decide_eq_false_iff_not, Bool.false_eq_true, Bool.true_eq_false, reduceCtorEq] at h) <;> (try simp (disch := omega) only [sb_bt, w64, Int.reduceAdd, Int.reduceToNat, Int.toNat_natCast, not_true_eq_false, false_or] at h) <;> (try (exfalso; omega)))))
      rw [← h1]
      exact gv (Wk.refl _) (St.le_del (St.le_trans hστ hle) (St.none_le hστ hw))
    · obtain ⟨g1, g2, g3⟩ := dropc hd
      have g4 := get_map ac g3
      have hx := hp x (List.mem_of_getElem? g3)
      rw [hd, eachB, ByteArray.size_append, ByteArray.size_append] at hsz
      have hs1 : (⟨#[32]⟩ : ByteArray).size = 1 := rfl
      repeat' (first|(first|(refine jl ?_;first|refine jbl ?_|refine j1 ?_|refine j4 ?_|refine j13 (fun id hid=>?_)|refine j14 ?_|refine j17t ?_|refine j25 ?_|refine ji1 ?_|refine jcl (hent := hent) hx ?_)|(refine jc ?_;first|refine c1 ?_|refine c2 ?_|refine c5 ?_|refine c6 ?_)|refine n1 ?_)|(refine c9 (fun h=>?_) (fun h=>?_)<;>((try simp only [Bool.or_eq_true, Bool.and_eq_true, Bool.or_eq_false_iff, Bool.and_eq_false_iff, Bool.not_eq_true', Bool.not_eq_false', decide_eq_true_eq, decide_eq_false_iff_not, Bool.false_eq_true, Bool.true_eq_false, reduceCtorEq] at h) <;> (try simp (disch := omega) only [sb_bt, w64, Int.reduceAdd, Int.reduceToNat, Int.toNat_natCast, not_true_eq_false, false_or] at h) <;> (try (exfalso; omega)))))
      refine lj_calls rfl rfl rfl (q_wstr (τ := τ) (St.le_any hle (St.none_le hle hid)) hb hw (hB.set (hB.neb hid) (hB.new hid)) (⟨#[32]⟩ ++ tx x) (by rw [ByteArray.size_append]; omega)) (fun r σ4 hr => ?_) (fun x σ' h => by cases h.1)
      obtain ⟨hr, w', hw', hB', hle'⟩ := hr
      cases hr
      repeat' (first|(first|(refine jl ?_;first|refine j1 ?_|refine j6 ?_)|(refine jc ?_;first|refine c2 ?_)|refine n1 ?_|refine n10 ?_))
      exact nx_forS (i + 1, acc ++ (⟨#[32]⟩ ++ tx x), w', true) ⟨⟨by dsimp only; omega, by dsimp only; rw [g2, ← h1, hd, eachB, ByteArray.append_assoc], fun _ => by dsimp only; rw [ByteArray.size_append, ByteArray.size_append]; omega⟩, hw', hB'.2.2⟩ (by dsimp only; omega) ⟨⟨_, rfl, wk1 (by omega)⟩, trivial⟩ (bldS_le hle' hB')
set_option maxHeartbeats 2000000 in
theorem p_eachVl {f : FuncId} (tx : Vl → ByteArray) (nl : Option Bool) (full : Bool) (l : List Vl) (hl : l.length ≤ 1000000) (hz : (eachB tx l).size ≤ 1000000000) (hent : entered Tryd.prog f = true) (hp : ∀ x ∈ l, Pure Tryd.prog f [.agg (vc x)] (.v (.string (tx x)))) : Pure Tryd.prog 51 [.sl nl full 3 (l.map vc), .fn f []] (.v (.string (eachB tx l))) := by
  refine enterW Tryd.func51 rfl rfl rfl rfl (fun σ => ?_)
  have hn : (l.map vc).length = l.length := List.length_map ..
  by_cases h0 : l = []
  · subst h0
    have hn1 : ([] : List Vl).length = 0 := rfl
    repeat (first|(refine jl ?_;first|refine j1 ?_|refine j4 ?_|refine j13 (fun id hid=>?_))|(refine jc ?_;first|refine c1 ?_|refine c2 ?_|refine c5 ?_))
    refine cj_for (fun i : Nat => i = 0) (fun i => [(10, .v (.int .i64 i))]) (fun _ => σ.set id (.row 2 101 [[.v (.pointer none), .sl (some true) true 1 []]])) (fun i => 0) 0 rfl ⟨⟨_, rfl, fun _ _ h => h⟩, trivial⟩ (St.le_refl _) (fun i hi => ?_)
    subst hi
    repeat' (first|(first|(refine jl ?_;first|refine j1 ?_|refine j4 ?_|refine lj_to rfl rfl rfl (q_bstr0 (St.set_same _ _ _)) ?_)|(refine jc ?_;first|refine c1 ?_|refine c2 ?_|refine c7 ?_|refine c8 ?_)|refine n1 ?_|refine n3 ?_|refine n7 ?_|refine n8 ?_|refine n11 ?_)|(refine c9 (fun h=>?_) (fun h=>?_)<;>((try simp only [Bool.or_eq_true, Bool.and_eq_true, Bool.or_eq_false_iff, Bool.and_eq_false_iff, Bool.not_eq_true', Bool.not_eq_false', decide_eq_true_eq, decide_eq_false_iff_not, Bool.false_eq_true, Bool.true_eq_false, reduceCtorEq] at h) <;> (try simp (disch := omega) only [sb_bt, w64, Int.reduceAdd, Int.reduceToNat, Int.toNat_natCast, not_true_eq_false, false_or] at h) <;> (try (exfalso; omega)))))
    exact gives (St.le_any (St.le_refl _) hid) (Fin.refl _ _ _)
  · have hpos : 0 < l.length := List.length_pos_iff.2 h0
    repeat (first|(refine jl ?_;first|refine j1 ?_|refine j4 ?_|refine j13 (fun id hid=>?_))|(refine jc ?_;first|refine c1 ?_|refine c2 ?_|refine c5 ?_))
    have hid0 := hid
    refine cj_bld 5 (fun τ w σ1 hb hw hle hk hbase hB => ?_)
    have hστ : σ.le τ := hbase σ hid0 (St.le_any (St.le_refl _) hid0)
    refine cj_for (fun s : Nat × ByteArray × Nat × Bool => (s.1 ≤ l.length ∧ s.2.1 ++ eachB tx (l.drop s.1) = eachB tx l ∧ (0 < s.1 → 0 < s.2.1.size)) ∧ τ s.2.2.1 = none ∧ s.2.2.1 ≠ id) (fun s => [(10, .v (.int .i64 s.1))]) (fun s => bldS τ id s.2.2.1 s.2.1 s.2.2.2) (fun s => l.length - s.1) (0, noB, w, false) ⟨⟨Nat.zero_le _, nil_app _, fun h => absurd h (Nat.lt_irrefl _)⟩, hw, hB.2.2⟩ ⟨⟨_, rfl, fun _ _ h => h⟩, trivial⟩ (bldS_le hle hB) (fun s hs => ?_)
    clear hle hB hw w
    obtain ⟨i, acc, w, u⟩ := s
    obtain ⟨⟨hi, h1, h2⟩, hw, hne⟩ := hs
    dsimp only at hi h1 h2 hw hne ⊢
    refine cj_name (fun σ3 hσ3 => ?_)
    have hB : Bld σ3 id w acc.data.toList u := hσ3 ▸ bldS_bld hne
    have hle : τ.le σ3 := hσ3 ▸ bldS_keep hb hw
    clear hσ3
    have hsz := congrArg ByteArray.size h1
    rw [ByteArray.size_append] at hsz
    rcases hd : l.drop i with _ | ⟨x, r⟩
    · have hi0 := dropn hd
      have h3 := h2 (by omega)
      rw [hd, eachB, app_nil] at h1
      repeat' (first|(first|(refine jl ?_;first|refine j1 ?_|refine j4 ?_|refine lj_to rfl rfl rfl (q_bstr hB (by omega) (by omega)) ?_)|(refine jc ?_;first|refine c1 ?_|refine c2 ?_|refine c7 ?_|refine c8 ?_)|refine n1 ?_|refine n3 ?_|refine n7 ?_|refine n8 ?_|refine n11 ?_)|(refine c9 (fun h=>?_) (fun h=>?_)<;>((try simp only [Bool.or_eq_true, Bool.and_eq_true, Bool.or_eq_false_iff, Bool.and_eq_false_iff, Bool.not_eq_true', Bool.not_eq_false', decide_eq_true_eq, decide_eq_false_iff_not, Bool.false_eq_true, Bool.true_eq_false, reduceCtorEq] at h) <;> (try simp (disch := omega) only [sb_bt, w64, Int.reduceAdd, Int.reduceToNat, Int.toNat_natCast, not_true_eq_false, false_or] at h) <;> (try (exfalso; omega)))))
      rw [← h1]
      exact gv (Wk.refl _) (St.le_del (St.le_trans hστ hle) (St.none_le hστ hw))
    · obtain ⟨g1, g2, g3⟩ := dropc hd
      have g4 := get_map vc g3
      have hx := hp x (List.mem_of_getElem? g3)
      rw [hd, eachB, ByteArray.size_append, ByteArray.size_append] at hsz
      have hs1 : (⟨#[32]⟩ : ByteArray).size = 1 := rfl
      repeat' (first|(first|(refine jl ?_;first|refine jbl ?_|refine j1 ?_|refine j4 ?_|refine j13 (fun id hid=>?_)|refine j14 ?_|refine j17t ?_|refine j25 ?_|refine ji1 ?_|refine jcl (hent := hent) hx ?_)|(refine jc ?_;first|refine c1 ?_|refine c2 ?_|refine c5 ?_|refine c6 ?_)|refine n1 ?_)|(refine c9 (fun h=>?_) (fun h=>?_)<;>((try simp only [Bool.or_eq_true, Bool.and_eq_true, Bool.or_eq_false_iff, Bool.and_eq_false_iff, Bool.not_eq_true', Bool.not_eq_false', decide_eq_true_eq, decide_eq_false_iff_not, Bool.false_eq_true, Bool.true_eq_false, reduceCtorEq] at h) <;> (try simp (disch := omega) only [sb_bt, w64, Int.reduceAdd, Int.reduceToNat, Int.toNat_natCast, not_true_eq_false, false_or] at h) <;> (try (exfalso; omega)))))
      refine lj_calls rfl rfl rfl (q_wstr (τ := τ) (St.le_any hle (St.none_le hle hid)) hb hw (hB.set (hB.neb hid) (hB.new hid)) (⟨#[32]⟩ ++ tx x) (by rw [ByteArray.size_append]; omega)) (fun r σ4 hr => ?_) (fun x σ' h => by cases h.1)
      obtain ⟨hr, w', hw', hB', hle'⟩ := hr
      cases hr
      repeat' (first|(first|(refine jl ?_;first|refine j1 ?_|refine j6 ?_)|(refine jc ?_;first|refine c2 ?_)|refine n1 ?_|refine n10 ?_))
      exact nx_forS (i + 1, acc ++ (⟨#[32]⟩ ++ tx x), w', true) ⟨⟨by dsimp only; omega, by dsimp only; rw [g2, ← h1, hd, eachB, ByteArray.append_assoc], fun _ => by dsimp only; rw [ByteArray.size_append, ByteArray.size_append]; omega⟩, hw', hB'.2.2⟩ (by dsimp only; omega) ⟨⟨_, rfl, wk1 (by omega)⟩, trivial⟩ (bldS_le hle' hB')
set_option maxHeartbeats 2000000 in
theorem p_eachTst {f : FuncId} (tx : Tst → ByteArray) (nl : Option Bool) (full : Bool) (l : List Tst) (hl : l.length ≤ 1000000) (hz : (eachB tx l).size ≤ 1000000000) (hent : entered Tryd.prog f = true) (hp : ∀ x ∈ l, Pure Tryd.prog f [.agg (tc x)] (.v (.string (tx x)))) : Pure Tryd.prog 52 [.sl nl full 5 (l.map tc), .fn f []] (.v (.string (eachB tx l))) := by
  refine enterW Tryd.func52 rfl rfl rfl rfl (fun σ => ?_)
  have hn : (l.map tc).length = l.length := List.length_map ..
  by_cases h0 : l = []
  · subst h0
    have hn1 : ([] : List Tst).length = 0 := rfl
    repeat (first|(refine jl ?_;first|refine j1 ?_|refine j4 ?_|refine j13 (fun id hid=>?_))|(refine jc ?_;first|refine c1 ?_|refine c2 ?_|refine c5 ?_))
    refine cj_for (fun i : Nat => i = 0) (fun i => [(10, .v (.int .i64 i))]) (fun _ => σ.set id (.row 2 101 [[.v (.pointer none), .sl (some true) true 1 []]])) (fun i => 0) 0 rfl ⟨⟨_, rfl, fun _ _ h => h⟩, trivial⟩ (St.le_refl _) (fun i hi => ?_)
    subst hi
    repeat' (first|(first|(refine jl ?_;first|refine j1 ?_|refine j4 ?_|refine lj_to rfl rfl rfl (q_bstr0 (St.set_same _ _ _)) ?_)|(refine jc ?_;first|refine c1 ?_|refine c2 ?_|refine c7 ?_|refine c8 ?_)|refine n1 ?_|refine n3 ?_|refine n7 ?_|refine n8 ?_|refine n11 ?_)|(refine c9 (fun h=>?_) (fun h=>?_)<;>((try simp only [Bool.or_eq_true, Bool.and_eq_true, Bool.or_eq_false_iff, Bool.and_eq_false_iff, Bool.not_eq_true', Bool.not_eq_false', decide_eq_true_eq, decide_eq_false_iff_not, Bool.false_eq_true, Bool.true_eq_false, reduceCtorEq] at h) <;> (try simp (disch := omega) only [sb_bt, w64, Int.reduceAdd, Int.reduceToNat, Int.toNat_natCast, not_true_eq_false, false_or] at h) <;> (try (exfalso; omega)))))
    exact gives (St.le_any (St.le_refl _) hid) (Fin.refl _ _ _)
  · have hpos : 0 < l.length := List.length_pos_iff.2 h0
    repeat (first|(refine jl ?_;first|refine j1 ?_|refine j4 ?_|refine j13 (fun id hid=>?_))|(refine jc ?_;first|refine c1 ?_|refine c2 ?_|refine c5 ?_))
    have hid0 := hid
    refine cj_bld 5 (fun τ w σ1 hb hw hle hk hbase hB => ?_)
    have hστ : σ.le τ := hbase σ hid0 (St.le_any (St.le_refl _) hid0)
    refine cj_for (fun s : Nat × ByteArray × Nat × Bool => (s.1 ≤ l.length ∧ s.2.1 ++ eachB tx (l.drop s.1) = eachB tx l ∧ (0 < s.1 → 0 < s.2.1.size)) ∧ τ s.2.2.1 = none ∧ s.2.2.1 ≠ id) (fun s => [(10, .v (.int .i64 s.1))]) (fun s => bldS τ id s.2.2.1 s.2.1 s.2.2.2) (fun s => l.length - s.1) (0, noB, w, false) ⟨⟨Nat.zero_le _, nil_app _, fun h => absurd h (Nat.lt_irrefl _)⟩, hw, hB.2.2⟩ ⟨⟨_, rfl, fun _ _ h => h⟩, trivial⟩ (bldS_le hle hB) (fun s hs => ?_)
    clear hle hB hw w
    obtain ⟨i, acc, w, u⟩ := s
    obtain ⟨⟨hi, h1, h2⟩, hw, hne⟩ := hs
    dsimp only at hi h1 h2 hw hne ⊢
    refine cj_name (fun σ3 hσ3 => ?_)
    have hB : Bld σ3 id w acc.data.toList u := hσ3 ▸ bldS_bld hne
    have hle : τ.le σ3 := hσ3 ▸ bldS_keep hb hw
    clear hσ3
    have hsz := congrArg ByteArray.size h1
    rw [ByteArray.size_append] at hsz
    rcases hd : l.drop i with _ | ⟨x, r⟩
    · have hi0 := dropn hd
      have h3 := h2 (by omega)
      rw [hd, eachB, app_nil] at h1
      repeat' (first|(first|(refine jl ?_;first|refine j1 ?_|refine j4 ?_|refine lj_to rfl rfl rfl (q_bstr hB (by omega) (by omega)) ?_)|(refine jc ?_;first|refine c1 ?_|refine c2 ?_|refine c7 ?_|refine c8 ?_)|refine n1 ?_|refine n3 ?_|refine n7 ?_|refine n8 ?_|refine n11 ?_)|(refine c9 (fun h=>?_) (fun h=>?_)<;>((try simp only [Bool.or_eq_true, Bool.and_eq_true, Bool.or_eq_false_iff, Bool.and_eq_false_iff, Bool.not_eq_true', Bool.not_eq_false', decide_eq_true_eq, decide_eq_false_iff_not, Bool.false_eq_true, Bool.true_eq_false, reduceCtorEq] at h) <;> (try simp (disch := omega) only [sb_bt, w64, Int.reduceAdd, Int.reduceToNat, Int.toNat_natCast, not_true_eq_false, false_or] at h) <;> (try (exfalso; omega)))))
      rw [← h1]
      exact gv (Wk.refl _) (St.le_del (St.le_trans hστ hle) (St.none_le hστ hw))
    · obtain ⟨g1, g2, g3⟩ := dropc hd
      have g4 := get_map tc g3
      have hx := hp x (List.mem_of_getElem? g3)
      rw [hd, eachB, ByteArray.size_append, ByteArray.size_append] at hsz
      have hs1 : (⟨#[32]⟩ : ByteArray).size = 1 := rfl
      repeat' (first|(first|(refine jl ?_;first|refine jbl ?_|refine j1 ?_|refine j4 ?_|refine j13 (fun id hid=>?_)|refine j14 ?_|refine j17t ?_|refine j25 ?_|refine ji1 ?_|refine jcl (hent := hent) hx ?_)|(refine jc ?_;first|refine c1 ?_|refine c2 ?_|refine c5 ?_|refine c6 ?_)|refine n1 ?_)|(refine c9 (fun h=>?_) (fun h=>?_)<;>((try simp only [Bool.or_eq_true, Bool.and_eq_true, Bool.or_eq_false_iff, Bool.and_eq_false_iff, Bool.not_eq_true', Bool.not_eq_false', decide_eq_true_eq, decide_eq_false_iff_not, Bool.false_eq_true, Bool.true_eq_false, reduceCtorEq] at h) <;> (try simp (disch := omega) only [sb_bt, w64, Int.reduceAdd, Int.reduceToNat, Int.toNat_natCast, not_true_eq_false, false_or] at h) <;> (try (exfalso; omega)))))
      refine lj_calls rfl rfl rfl (q_wstr (τ := τ) (St.le_any hle (St.none_le hle hid)) hb hw (hB.set (hB.neb hid) (hB.new hid)) (⟨#[32]⟩ ++ tx x) (by rw [ByteArray.size_append]; omega)) (fun r σ4 hr => ?_) (fun x σ' h => by cases h.1)
      obtain ⟨hr, w', hw', hB', hle'⟩ := hr
      cases hr
      repeat' (first|(first|(refine jl ?_;first|refine j1 ?_|refine j6 ?_)|(refine jc ?_;first|refine c2 ?_)|refine n1 ?_|refine n10 ?_))
      exact nx_forS (i + 1, acc ++ (⟨#[32]⟩ ++ tx x), w', true) ⟨⟨by dsimp only; omega, by dsimp only; rw [g2, ← h1, hd, eachB, ByteArray.append_assoc], fun _ => by dsimp only; rw [ByteArray.size_append, ByteArray.size_append]; omega⟩, hw', hB'.2.2⟩ (by dsimp only; omega) ⟨⟨_, rfl, wk1 (by omega)⟩, trivial⟩ (bldS_le hle' hB')
set_option maxHeartbeats 2000000 in
theorem p_eachSgl {f : FuncId} (tx : Sgl → ByteArray) (nl : Option Bool) (full : Bool) (l : List Sgl) (hl : l.length ≤ 1000000) (hz : (eachB tx l).size ≤ 1000000000) (hent : entered Tryd.prog f = true) (hp : ∀ x ∈ l, Pure Tryd.prog f [.agg (sgc x)] (.v (.string (tx x)))) : Pure Tryd.prog 56 [.sl nl full 2 (l.map sgc), .fn f []] (.v (.string (eachB tx l))) := by
  refine enterW Tryd.func56 rfl rfl rfl rfl (fun σ => ?_)
  have hn : (l.map sgc).length = l.length := List.length_map ..
  by_cases h0 : l = []
  · subst h0
    have hn1 : ([] : List Sgl).length = 0 := rfl
    repeat (first|(refine jl ?_;first|refine j1 ?_|refine j4 ?_|refine j13 (fun id hid=>?_))|(refine jc ?_;first|refine c1 ?_|refine c2 ?_|refine c5 ?_))
    refine cj_for (fun i : Nat => i = 0) (fun i => [(10, .v (.int .i64 i))]) (fun _ => σ.set id (.row 2 101 [[.v (.pointer none), .sl (some true) true 1 []]])) (fun i => 0) 0 rfl ⟨⟨_, rfl, fun _ _ h => h⟩, trivial⟩ (St.le_refl _) (fun i hi => ?_)
    subst hi
    repeat' (first|(first|(refine jl ?_;first|refine j1 ?_|refine j4 ?_|refine lj_to rfl rfl rfl (q_bstr0 (St.set_same _ _ _)) ?_)|(refine jc ?_;first|refine c1 ?_|refine c2 ?_|refine c7 ?_|refine c8 ?_)|refine n1 ?_|refine n3 ?_|refine n7 ?_|refine n8 ?_|refine n11 ?_)|(refine c9 (fun h=>?_) (fun h=>?_)<;>((try simp only [Bool.or_eq_true, Bool.and_eq_true, Bool.or_eq_false_iff, Bool.and_eq_false_iff, Bool.not_eq_true', Bool.not_eq_false', decide_eq_true_eq, decide_eq_false_iff_not, Bool.false_eq_true, Bool.true_eq_false, reduceCtorEq] at h) <;> (try simp (disch := omega) only [sb_bt, w64, Int.reduceAdd, Int.reduceToNat, Int.toNat_natCast, not_true_eq_false, false_or] at h) <;> (try (exfalso; omega)))))
    exact gives (St.le_any (St.le_refl _) hid) (Fin.refl _ _ _)
  · have hpos : 0 < l.length := List.length_pos_iff.2 h0
    repeat (first|(refine jl ?_;first|refine j1 ?_|refine j4 ?_|refine j13 (fun id hid=>?_))|(refine jc ?_;first|refine c1 ?_|refine c2 ?_|refine c5 ?_))
    have hid0 := hid
    refine cj_bld 5 (fun τ w σ1 hb hw hle hk hbase hB => ?_)
    have hστ : σ.le τ := hbase σ hid0 (St.le_any (St.le_refl _) hid0)
    refine cj_for (fun s : Nat × ByteArray × Nat × Bool => (s.1 ≤ l.length ∧ s.2.1 ++ eachB tx (l.drop s.1) = eachB tx l ∧ (0 < s.1 → 0 < s.2.1.size)) ∧ τ s.2.2.1 = none ∧ s.2.2.1 ≠ id) (fun s => [(10, .v (.int .i64 s.1))]) (fun s => bldS τ id s.2.2.1 s.2.1 s.2.2.2) (fun s => l.length - s.1) (0, noB, w, false) ⟨⟨Nat.zero_le _, nil_app _, fun h => absurd h (Nat.lt_irrefl _)⟩, hw, hB.2.2⟩ ⟨⟨_, rfl, fun _ _ h => h⟩, trivial⟩ (bldS_le hle hB) (fun s hs => ?_)
    clear hle hB hw w
    obtain ⟨i, acc, w, u⟩ := s
    obtain ⟨⟨hi, h1, h2⟩, hw, hne⟩ := hs
    dsimp only at hi h1 h2 hw hne ⊢
    refine cj_name (fun σ3 hσ3 => ?_)
    have hB : Bld σ3 id w acc.data.toList u := hσ3 ▸ bldS_bld hne
    have hle : τ.le σ3 := hσ3 ▸ bldS_keep hb hw
    clear hσ3
    have hsz := congrArg ByteArray.size h1
    rw [ByteArray.size_append] at hsz
    rcases hd : l.drop i with _ | ⟨x, r⟩
    · have hi0 := dropn hd
      have h3 := h2 (by omega)
      rw [hd, eachB, app_nil] at h1
      repeat' (first|(first|(refine jl ?_;first|refine j1 ?_|refine j4 ?_|refine lj_to rfl rfl rfl (q_bstr hB (by omega) (by omega)) ?_)|(refine jc ?_;first|refine c1 ?_|refine c2 ?_|refine c7 ?_|refine c8 ?_)|refine n1 ?_|refine n3 ?_|refine n7 ?_|refine n8 ?_|refine n11 ?_)|(refine c9 (fun h=>?_) (fun h=>?_)<;>((try simp only [Bool.or_eq_true, Bool.and_eq_true, Bool.or_eq_false_iff, Bool.and_eq_false_iff, Bool.not_eq_true', Bool.not_eq_false', decide_eq_true_eq, decide_eq_false_iff_not, Bool.false_eq_true, Bool.true_eq_false, reduceCtorEq] at h) <;> (try simp (disch := omega) only [sb_bt, w64, Int.reduceAdd, Int.reduceToNat, Int.toNat_natCast, not_true_eq_false, false_or] at h) <;> (try (exfalso; omega)))))
      rw [← h1]
      exact gv (Wk.refl _) (St.le_del (St.le_trans hστ hle) (St.none_le hστ hw))
    · obtain ⟨g1, g2, g3⟩ := dropc hd
      have g4 := get_map sgc g3
      have hx := hp x (List.mem_of_getElem? g3)
      rw [hd, eachB, ByteArray.size_append, ByteArray.size_append] at hsz
      have hs1 : (⟨#[32]⟩ : ByteArray).size = 1 := rfl
      repeat' (first|(first|(refine jl ?_;first|refine jbl ?_|refine j1 ?_|refine j4 ?_|refine j13 (fun id hid=>?_)|refine j14 ?_|refine j17t ?_|refine j25 ?_|refine ji1 ?_|refine jcl (hent := hent) hx ?_)|(refine jc ?_;first|refine c1 ?_|refine c2 ?_|refine c5 ?_|refine c6 ?_)|refine n1 ?_)|(refine c9 (fun h=>?_) (fun h=>?_)<;>((try simp only [Bool.or_eq_true, Bool.and_eq_true, Bool.or_eq_false_iff, Bool.and_eq_false_iff, Bool.not_eq_true', Bool.not_eq_false', decide_eq_true_eq, decide_eq_false_iff_not, Bool.false_eq_true, Bool.true_eq_false, reduceCtorEq] at h) <;> (try simp (disch := omega) only [sb_bt, w64, Int.reduceAdd, Int.reduceToNat, Int.toNat_natCast, not_true_eq_false, false_or] at h) <;> (try (exfalso; omega)))))
      refine lj_calls rfl rfl rfl (q_wstr (τ := τ) (St.le_any hle (St.none_le hle hid)) hb hw (hB.set (hB.neb hid) (hB.new hid)) (⟨#[32]⟩ ++ tx x) (by rw [ByteArray.size_append]; omega)) (fun r σ4 hr => ?_) (fun x σ' h => by cases h.1)
      obtain ⟨hr, w', hw', hB', hle'⟩ := hr
      cases hr
      repeat' (first|(first|(refine jl ?_;first|refine j1 ?_|refine j6 ?_)|(refine jc ?_;first|refine c2 ?_)|refine n1 ?_|refine n10 ?_))
      exact nx_forS (i + 1, acc ++ (⟨#[32]⟩ ++ tx x), w', true) ⟨⟨by dsimp only; omega, by dsimp only; rw [g2, ← h1, hd, eachB, ByteArray.append_assoc], fun _ => by dsimp only; rw [ByteArray.size_append, ByteArray.size_append]; omega⟩, hw', hB'.2.2⟩ (by dsimp only; omega) ⟨⟨_, rfl, wk1 (by omega)⟩, trivial⟩ (bldS_le hle' hB')
set_option maxHeartbeats 2000000 in
theorem p_eachItl {f : FuncId} (tx : (List Itm) → ByteArray) (nl : Option Bool) (full : Bool) (l : List (List Itm)) (hl : l.length ≤ 1000000) (hz : (eachB tx l).size ≤ 1000000000) (hent : entered Tryd.prog f = true) (hp : ∀ x ∈ l, Pure Tryd.prog f [.sl none false 5 (x.map itc)] (.v (.string (tx x)))) : Pure Tryd.prog 58 [.sl nl full 1 (l.map itl), .fn f []] (.v (.string (eachB tx l))) := by
  refine enterW Tryd.func58 rfl rfl rfl rfl (fun σ => ?_)
  have hn : (l.map itl).length = l.length := List.length_map ..
  by_cases h0 : l = []
  · subst h0
    have hn1 : ([] : List (List Itm)).length = 0 := rfl
    repeat (first|(refine jl ?_;first|refine j1 ?_|refine j4 ?_|refine j13 (fun id hid=>?_))|(refine jc ?_;first|refine c1 ?_|refine c2 ?_|refine c5 ?_))
    refine cj_for (fun i : Nat => i = 0) (fun i => [(10, .v (.int .i64 i))]) (fun _ => σ.set id (.row 2 101 [[.v (.pointer none), .sl (some true) true 1 []]])) (fun i => 0) 0 rfl ⟨⟨_, rfl, fun _ _ h => h⟩, trivial⟩ (St.le_refl _) (fun i hi => ?_)
    subst hi
    repeat' (first|(first|(refine jl ?_;first|refine j1 ?_|refine j4 ?_|refine lj_to rfl rfl rfl (q_bstr0 (St.set_same _ _ _)) ?_)|(refine jc ?_;first|refine c1 ?_|refine c2 ?_|refine c7 ?_|refine c8 ?_)|refine n1 ?_|refine n3 ?_|refine n7 ?_|refine n8 ?_|refine n11 ?_)|(refine c9 (fun h=>?_) (fun h=>?_)<;>((try simp only [Bool.or_eq_true, Bool.and_eq_true, Bool.or_eq_false_iff, Bool.and_eq_false_iff, Bool.not_eq_true', Bool.not_eq_false', decide_eq_true_eq, decide_eq_false_iff_not, Bool.false_eq_true, Bool.true_eq_false, reduceCtorEq] at h) <;> (try simp (disch := omega) only [sb_bt, w64, Int.reduceAdd, Int.reduceToNat, Int.toNat_natCast, not_true_eq_false, false_or] at h) <;> (try (exfalso; omega)))))
    exact gives (St.le_any (St.le_refl _) hid) (Fin.refl _ _ _)
  · have hpos : 0 < l.length := List.length_pos_iff.2 h0
    repeat (first|(refine jl ?_;first|refine j1 ?_|refine j4 ?_|refine j13 (fun id hid=>?_))|(refine jc ?_;first|refine c1 ?_|refine c2 ?_|refine c5 ?_))
    have hid0 := hid
    refine cj_bld 5 (fun τ w σ1 hb hw hle hk hbase hB => ?_)
    have hστ : σ.le τ := hbase σ hid0 (St.le_any (St.le_refl _) hid0)
    refine cj_for (fun s : Nat × ByteArray × Nat × Bool => (s.1 ≤ l.length ∧ s.2.1 ++ eachB tx (l.drop s.1) = eachB tx l ∧ (0 < s.1 → 0 < s.2.1.size)) ∧ τ s.2.2.1 = none ∧ s.2.2.1 ≠ id) (fun s => [(10, .v (.int .i64 s.1))]) (fun s => bldS τ id s.2.2.1 s.2.1 s.2.2.2) (fun s => l.length - s.1) (0, noB, w, false) ⟨⟨Nat.zero_le _, nil_app _, fun h => absurd h (Nat.lt_irrefl _)⟩, hw, hB.2.2⟩ ⟨⟨_, rfl, fun _ _ h => h⟩, trivial⟩ (bldS_le hle hB) (fun s hs => ?_)
    clear hle hB hw w
    obtain ⟨i, acc, w, u⟩ := s
    obtain ⟨⟨hi, h1, h2⟩, hw, hne⟩ := hs
    dsimp only at hi h1 h2 hw hne ⊢
    refine cj_name (fun σ3 hσ3 => ?_)
    have hB : Bld σ3 id w acc.data.toList u := hσ3 ▸ bldS_bld hne
    have hle : τ.le σ3 := hσ3 ▸ bldS_keep hb hw
    clear hσ3
    have hsz := congrArg ByteArray.size h1
    rw [ByteArray.size_append] at hsz
    rcases hd : l.drop i with _ | ⟨x, r⟩
    · have hi0 := dropn hd
      have h3 := h2 (by omega)
      rw [hd, eachB, app_nil] at h1
      repeat' (first|(first|(refine jl ?_;first|refine j1 ?_|refine j4 ?_|refine lj_to rfl rfl rfl (q_bstr hB (by omega) (by omega)) ?_)|(refine jc ?_;first|refine c1 ?_|refine c2 ?_|refine c7 ?_|refine c8 ?_)|refine n1 ?_|refine n3 ?_|refine n7 ?_|refine n8 ?_|refine n11 ?_)|(refine c9 (fun h=>?_) (fun h=>?_)<;>((try simp only [Bool.or_eq_true, Bool.and_eq_true, Bool.or_eq_false_iff, Bool.and_eq_false_iff, Bool.not_eq_true', Bool.not_eq_false', decide_eq_true_eq, decide_eq_false_iff_not, Bool.false_eq_true, Bool.true_eq_false, reduceCtorEq] at h) <;> (try simp (disch := omega) only [sb_bt, w64, Int.reduceAdd, Int.reduceToNat, Int.toNat_natCast, not_true_eq_false, false_or] at h) <;> (try (exfalso; omega)))))
      rw [← h1]
      exact gv (Wk.refl _) (St.le_del (St.le_trans hστ hle) (St.none_le hστ hw))
    · obtain ⟨g1, g2, g3⟩ := dropc hd
      have g4 := get_map itl g3
      have hx := hp x (List.mem_of_getElem? g3)
      rw [hd, eachB, ByteArray.size_append, ByteArray.size_append] at hsz
      have hs1 : (⟨#[32]⟩ : ByteArray).size = 1 := rfl
      repeat' (first|(first|(refine jl ?_;first|refine jbl ?_|refine j1 ?_|refine j4 ?_|refine j25 ?_|refine ji1 ?_|refine jcl (hent := hent) hx ?_)|(refine jc ?_;first|refine c1 ?_|refine c2 ?_|refine c5 ?_|refine c6 ?_)|refine n1 ?_)|(refine c9 (fun h=>?_) (fun h=>?_)<;>((try simp only [Bool.or_eq_true, Bool.and_eq_true, Bool.or_eq_false_iff, Bool.and_eq_false_iff, Bool.not_eq_true', Bool.not_eq_false', decide_eq_true_eq, decide_eq_false_iff_not, Bool.false_eq_true, Bool.true_eq_false, reduceCtorEq] at h) <;> (try simp (disch := omega) only [sb_bt, w64, Int.reduceAdd, Int.reduceToNat, Int.toNat_natCast, not_true_eq_false, false_or] at h) <;> (try (exfalso; omega)))))
      refine lj_calls rfl rfl rfl (q_wstr (τ := τ) hle hb hw hB (⟨#[32]⟩ ++ tx x) (by rw [ByteArray.size_append]; omega)) (fun r σ4 hr => ?_) (fun x σ' h => by cases h.1)
      obtain ⟨hr, w', hw', hB', hle'⟩ := hr
      cases hr
      repeat' (first|(first|(refine jl ?_;first|refine j1 ?_|refine j6 ?_)|(refine jc ?_;first|refine c2 ?_)|refine n1 ?_|refine n10 ?_))
      exact nx_forS (i + 1, acc ++ (⟨#[32]⟩ ++ tx x), w', true) ⟨⟨by dsimp only; omega, by dsimp only; rw [g2, ← h1, hd, eachB, ByteArray.append_assoc], fun _ => by dsimp only; rw [ByteArray.size_append, ByteArray.size_append]; omega⟩, hw', hB'.2.2⟩ (by dsimp only; omega) ⟨⟨_, rfl, wk1 (by omega)⟩, trivial⟩ (bldS_le hle' hB')
set_option maxHeartbeats 2000000 in
theorem p_eachStr {f : FuncId} (tx : ByteArray → ByteArray) (nl : Option Bool) (full : Bool) (l : List ByteArray) (hl : l.length ≤ 1000000) (hz : (eachB tx l).size ≤ 1000000000) (hent : entered Tryd.prog f = true) (hp : ∀ x ∈ l, Pure Tryd.prog f [.v (.string x)] (.v (.string (tx x)))) : Pure Tryd.prog 62 [.sl nl full 1 (l.map str1), .fn f []] (.v (.string (eachB tx l))) := by
  refine enterW Tryd.func62 rfl rfl rfl rfl (fun σ => ?_)
  have hn : (l.map str1).length = l.length := List.length_map ..
  by_cases h0 : l = []
  · subst h0
    have hn1 : ([] : List ByteArray).length = 0 := rfl
    repeat (first|(refine jl ?_;first|refine j1 ?_|refine j4 ?_|refine j13 (fun id hid=>?_))|(refine jc ?_;first|refine c1 ?_|refine c2 ?_|refine c5 ?_))
    refine cj_for (fun i : Nat => i = 0) (fun i => [(10, .v (.int .i64 i))]) (fun _ => σ.set id (.row 2 101 [[.v (.pointer none), .sl (some true) true 1 []]])) (fun i => 0) 0 rfl ⟨⟨_, rfl, fun _ _ h => h⟩, trivial⟩ (St.le_refl _) (fun i hi => ?_)
    subst hi
    repeat' (first|(first|(refine jl ?_;first|refine j1 ?_|refine j4 ?_|refine lj_to rfl rfl rfl (q_bstr0 (St.set_same _ _ _)) ?_)|(refine jc ?_;first|refine c1 ?_|refine c2 ?_|refine c7 ?_|refine c8 ?_)|refine n1 ?_|refine n3 ?_|refine n7 ?_|refine n8 ?_|refine n11 ?_)|(refine c9 (fun h=>?_) (fun h=>?_)<;>((try simp only [Bool.or_eq_true, Bool.and_eq_true, Bool.or_eq_false_iff, Bool.and_eq_false_iff, Bool.not_eq_true', Bool.not_eq_false', decide_eq_true_eq, decide_eq_false_iff_not, Bool.false_eq_true, Bool.true_eq_false, reduceCtorEq] at h) <;> (try simp (disch := omega) only [sb_bt, w64, Int.reduceAdd, Int.reduceToNat, Int.toNat_natCast, not_true_eq_false, false_or] at h) <;> (try (exfalso; omega)))))
    exact gives (St.le_any (St.le_refl _) hid) (Fin.refl _ _ _)
  · have hpos : 0 < l.length := List.length_pos_iff.2 h0
    repeat (first|(refine jl ?_;first|refine j1 ?_|refine j4 ?_|refine j13 (fun id hid=>?_))|(refine jc ?_;first|refine c1 ?_|refine c2 ?_|refine c5 ?_))
    have hid0 := hid
    refine cj_bld 5 (fun τ w σ1 hb hw hle hk hbase hB => ?_)
    have hστ : σ.le τ := hbase σ hid0 (St.le_any (St.le_refl _) hid0)
    refine cj_for (fun s : Nat × ByteArray × Nat × Bool => (s.1 ≤ l.length ∧ s.2.1 ++ eachB tx (l.drop s.1) = eachB tx l ∧ (0 < s.1 → 0 < s.2.1.size)) ∧ τ s.2.2.1 = none ∧ s.2.2.1 ≠ id) (fun s => [(10, .v (.int .i64 s.1))]) (fun s => bldS τ id s.2.2.1 s.2.1 s.2.2.2) (fun s => l.length - s.1) (0, noB, w, false) ⟨⟨Nat.zero_le _, nil_app _, fun h => absurd h (Nat.lt_irrefl _)⟩, hw, hB.2.2⟩ ⟨⟨_, rfl, fun _ _ h => h⟩, trivial⟩ (bldS_le hle hB) (fun s hs => ?_)
    clear hle hB hw w
    obtain ⟨i, acc, w, u⟩ := s
    obtain ⟨⟨hi, h1, h2⟩, hw, hne⟩ := hs
    dsimp only at hi h1 h2 hw hne ⊢
    refine cj_name (fun σ3 hσ3 => ?_)
    have hB : Bld σ3 id w acc.data.toList u := hσ3 ▸ bldS_bld hne
    have hle : τ.le σ3 := hσ3 ▸ bldS_keep hb hw
    clear hσ3
    have hsz := congrArg ByteArray.size h1
    rw [ByteArray.size_append] at hsz
    rcases hd : l.drop i with _ | ⟨x, r⟩
    · have hi0 := dropn hd
      have h3 := h2 (by omega)
      rw [hd, eachB, app_nil] at h1
      repeat' (first|(first|(refine jl ?_;first|refine j1 ?_|refine j4 ?_|refine lj_to rfl rfl rfl (q_bstr hB (by omega) (by omega)) ?_)|(refine jc ?_;first|refine c1 ?_|refine c2 ?_|refine c7 ?_|refine c8 ?_)|refine n1 ?_|refine n3 ?_|refine n7 ?_|refine n8 ?_|refine n11 ?_)|(refine c9 (fun h=>?_) (fun h=>?_)<;>((try simp only [Bool.or_eq_true, Bool.and_eq_true, Bool.or_eq_false_iff, Bool.and_eq_false_iff, Bool.not_eq_true', Bool.not_eq_false', decide_eq_true_eq, decide_eq_false_iff_not, Bool.false_eq_true, Bool.true_eq_false, reduceCtorEq] at h) <;> (try simp (disch := omega) only [sb_bt, w64, Int.reduceAdd, Int.reduceToNat, Int.toNat_natCast, not_true_eq_false, false_or] at h) <;> (try (exfalso; omega)))))
      rw [← h1]
      exact gv (Wk.refl _) (St.le_del (St.le_trans hστ hle) (St.none_le hστ hw))
    · obtain ⟨g1, g2, g3⟩ := dropc hd
      have g4 := get_map str1 g3
      have hx := hp x (List.mem_of_getElem? g3)
      rw [hd, eachB, ByteArray.size_append, ByteArray.size_append] at hsz
      have hs1 : (⟨#[32]⟩ : ByteArray).size = 1 := rfl
      repeat' (first|(first|(refine jl ?_;first|refine jbl ?_|refine j1 ?_|refine j4 ?_|refine j25 ?_|refine ji1 ?_|refine jcl (hent := hent) hx ?_)|(refine jc ?_;first|refine c1 ?_|refine c2 ?_|refine c5 ?_|refine c6 ?_)|refine n1 ?_)|(refine c9 (fun h=>?_) (fun h=>?_)<;>((try simp only [Bool.or_eq_true, Bool.and_eq_true, Bool.or_eq_false_iff, Bool.and_eq_false_iff, Bool.not_eq_true', Bool.not_eq_false', decide_eq_true_eq, decide_eq_false_iff_not, Bool.false_eq_true, Bool.true_eq_false, reduceCtorEq] at h) <;> (try simp (disch := omega) only [sb_bt, w64, Int.reduceAdd, Int.reduceToNat, Int.toNat_natCast, not_true_eq_false, false_or] at h) <;> (try (exfalso; omega)))))
      refine lj_calls rfl rfl rfl (q_wstr (τ := τ) hle hb hw hB (⟨#[32]⟩ ++ tx x) (by rw [ByteArray.size_append]; omega)) (fun r σ4 hr => ?_) (fun x σ' h => by cases h.1)
      obtain ⟨hr, w', hw', hB', hle'⟩ := hr
      cases hr
      repeat' (first|(first|(refine jl ?_;first|refine j1 ?_|refine j6 ?_)|(refine jc ?_;first|refine c2 ?_)|refine n1 ?_|refine n10 ?_))
      exact nx_forS (i + 1, acc ++ (⟨#[32]⟩ ++ tx x), w', true) ⟨⟨by dsimp only; omega, by dsimp only; rw [g2, ← h1, hd, eachB, ByteArray.append_assoc], fun _ => by dsimp only; rw [ByteArray.size_append, ByteArray.size_append]; omega⟩, hw', hB'.2.2⟩ (by dsimp only; omega) ⟨⟨_, rfl, wk1 (by omega)⟩, trivial⟩ (bldS_le hle' hB')
end Go.Proofs.YtfaaokekgljnbaaDoor.Ab

/- Texts of tests, conditions, expressions: the program's own. -/
set_option linter.unusedVariables false
set_option linter.unusedSimpArgs false
set_option maxRecDepth 20000
namespace Go.Proofs.YtfaaokekgljnbaaDoor.Ab
open Go
attribute [local irreducible] thn inb endR CJ LJ OpJ DJ DA DB AllocK
/-! ### What is small enough -/
def ltV (v : Vl) : Prop := v.s.size ≤ 60
def ltT (t : Tst) : Prop := t.v.size ≤ 60 ∧ t.val.s.size ≤ 60
def wfT (t : Tst) : Prop := 0 ≤ t.p ∧ t.p < 256
def ltA (a : Atr) : Prop := a.attr.size ≤ 60 ∧ a.ones.length ≤ 12 ∧ a.tests.length ≤ 12 ∧ (∀ v ∈ a.ones, ltV v) ∧ (∀ t ∈ a.tests, ltT t)
def wfA (a : Atr) : Prop := ∀ t ∈ a.tests, wfT t
def ltC (c : Cnd) : Prop := c.attrs.length ≤ 10 ∧ c.cls.size ≤ 60 ∧ ∀ a ∈ c.attrs, ltA a
def wfC (c : Cnd) : Prop := ∀ a ∈ c.attrs, wfA a
def ltE (l : List Itm) : Prop := l.length ≤ 40 ∧ ∀ x ∈ l, litI x
def ltS (s : Sgl) : Prop := s.attr.size ≤ 60 ∧ ltE s.expr
/-! ### Texts -/
def oneT (t : Tst) : ByteArray := (if t.p = 0 then ⟨#[]⟩ else signS t.p ++ ⟨#[32]⟩) ++ (if t.v = ⟨#[]⟩ then textV t.val.k t.val.n t.val.s else varT t.v)
def valT (v : Vl) : ByteArray := textV v.k v.n v.s
def testT (a : Atr) : ByteArray := ⟨#[94]⟩ ++ a.attr ++ (if 0 < a.ones.length then ⟨#[32, 60, 60]⟩ ++ eachB valT a.ones ++ ⟨#[32, 62, 62]⟩ else if a.tests.length = 1 then eachB oneT a.tests else ⟨#[32, 123]⟩ ++ eachB oneT a.tests ++ ⟨#[32, 125]⟩)
def condT (c : Cnd) : ByteArray := (if c.neg then ⟨#[45]⟩ else ⟨#[]⟩) ++ (⟨#[40]⟩ ++ c.cls ++ eachB testT c.attrs ++ ⟨#[41]⟩)
def exprT (l : List Itm) : ByteArray := (exprR l).1
def setT (s : Sgl) : ByteArray := ⟨#[94]⟩ ++ s.attr ++ ⟨#[32]⟩ ++ exprT s.expr
/-! ### How long they are -/
theorem b1z (x : UInt8) : (⟨#[x]⟩ : ByteArray).size = 1 := rfl
theorem b2z (x y : UInt8) : (⟨#[x, y]⟩ : ByteArray).size = 2 := rfl
theorem b3z (x y z : UInt8) : (⟨#[x, y, z]⟩ : ByteArray).size = 3 := rfl
theorem b0z : (⟨#[]⟩ : ByteArray).size = 0 := rfl
theorem signS_sz (p : Int) : (signS p).size ≤ 2 := by
  unfold signS
  repeat' split
  all_goals decide
theorem oneT_sz {t : Tst} (h : ltT t) : (oneT t).size ≤ 70 := by
  have h1 := signS_sz t.p
  have h2 := textV_sz t.val.k t.val.n t.val.s
  have h3 := varT_size t.v
  have h4 := h.1
  unfold oneT
  rw [ByteArray.size_append]
  split <;> split <;> simp only [ByteArray.size_append, b1z, b0z] <;> omega
theorem valT_sz (v : Vl) : (valT v).size ≤ 24 := textV_sz ..
theorem testT_sz {a : Atr} (h : ltA a) : (testT a).size ≤ 1000 := by
  obtain ⟨h1, h2, h3, h4, h5⟩ := h
  have h6 := eachB_size valT 24 a.ones (fun v _ => valT_sz v)
  have h7 := eachB_size oneT 70 a.tests (fun t ht => oneT_sz (h5 t ht))
  unfold testT
  rw [ByteArray.size_append]
  split
  · simp only [ByteArray.size_append, b1z, b3z]; omega
  · split <;> simp only [ByteArray.size_append, b1z, b2z] <;> omega
theorem condT_sz {c : Cnd} (h : ltC c) : (condT c).size ≤ 10200 := by
  obtain ⟨h1, h2, h3⟩ := h
  have h6 := eachB_size testT 1000 c.attrs (fun v hv => testT_sz (h3 v hv))
  unfold condT
  rw [ByteArray.size_append]
  split <;> simp only [ByteArray.size_append, b1z, b0z] <;> omega
theorem stepE_sz {p q : List ByteArray} {x : Itm} (hx : litI x) (h : stepE p x = some q) : szP q ≤ szP p + 100 := by
  have h2 := textV_sz x.val.k x.val.n x.val.s
  have h3 := varT_size x.var
  have h4 := hx.2
  unfold stepE at h
  split at h
  · cases h; rw [szP_app, szP_one]; omega
  · split at h
    · cases h; rw [szP_app, szP_one]; omega
    · split at h
      · cases h
      · rename_i hk
        cases h
        obtain ⟨r, a, b, rfl, _⟩ := pile_two (p := p) (by omega)
        obtain ⟨p1, p2, p3, p4, _⟩ := pile_get r a b
        have h5 := sgnK_size x.k
        rw [p1, show r.length + 2 - 2 = r.length by omega, show r.length + 2 - 1 = r.length + 1 by omega, p2, p3, p4, szP_app, szP_app, szP_one, opT_size]
        have : szP [a, b] = a.size + b.size := by simp [szP]
        omega
theorem runE_sz : ∀ (l : List Itm) (p q : List ByteArray), (∀ x ∈ l, litI x) → runE p l = some q → szP q ≤ szP p + 100 * l.length
  | [], p, q, _, h => by cases h; omega
  | x :: l, p, q, hx, h => by
    rw [runE] at h
    cases hs : stepE p x with
    | none => rw [hs] at h; cases h
    | some r =>
      rw [hs, Option.bind_some] at h
      have h1 := stepE_sz (hx x (List.mem_cons_self ..)) hs
      have h2 := runE_sz l r q (fun y hy => hx y (List.mem_cons_of_mem _ hy)) h
      rw [List.length_cons]
      omega
theorem exprT_sz {l : List Itm} (h : ltE l) : (exprT l).size ≤ 4000 := by
  obtain ⟨h1, h2⟩ := h
  unfold exprT exprR
  cases hr : runE [] l with
  | none => exact Nat.zero_le _
  | some q =>
    have h3 := runE_sz l [] q h2 hr
    have h4 : szP [] = 0 := rfl
    match q, h3 with
    | [], _ => exact Nat.zero_le _
    | [a], h3 =>
      rw [szP_one] at h3
      show a.size ≤ 4000
      omega
    | a :: b :: c, _ => exact Nat.zero_le _
theorem setT_sz {s : Sgl} (h : ltS s) : (setT s).size ≤ 4100 := by
  have h1 := h.1
  have h2 := exprT_sz h.2
  unfold setT
  simp only [ByteArray.size_append, b1z]
  omega
/-! ### The program's own -/
theorem p_valT (v : Vl) : Pure Tryd.prog 41 [.agg (vc v)] (.v (.string (valT v))) := p_textv v.k v.n v.s
theorem p_single (t : Tst) (h : ltT t) (hw : wfT t) : Pure Tryd.prog 53 [.agg (tc t)] (.v (.string (oneT t))) := by
  refine enterW Tryd.func53 rfl rfl rfl rfl (fun σ => ?_)
  obtain ⟨tp, tv, ⟨vk, vn, vs⟩⟩ := t
  obtain ⟨h1, h2⟩ := h
  dsimp only at h1 h2
  have s1 := signS_sz tp
  have s2 := textV_sz vk vn vs
  have s3 := varT_size tv
  repeat' (first|(first|(refine jl ?_;first|refine j1 ?_|refine j4 ?_|refine j12 (fun id hid=>?_)|refine j14 ?_|refine j25 ?_|refine jp (p_textv vk vn vs) ?_|refine jp (p_var tv (by omega)) ?_|refine jp (p_signv tp hw.1 hw.2) ?_)|(refine jc ?_;first|refine c1 ?_|refine c2 ?_|refine c6 ?_|refine c7 ?_)|refine n1 ?_|refine n2 ?_|refine n11 ?_)|(refine c9 (fun h=>?_) (fun h=>?_)<;>((try simp only [Bool.or_eq_true, Bool.and_eq_true, Bool.or_eq_false_iff, Bool.and_eq_false_iff, Bool.not_eq_true', Bool.not_eq_false', decide_eq_true_eq, decide_eq_false_iff_not, Bool.false_eq_true, Bool.true_eq_false, reduceCtorEq] at h) <;> (try simp (disch := omega) only [sb_bt, w64, Int.reduceAdd, Int.reduceToNat, Int.toNat_natCast, not_true_eq_false, false_or] at h) <;> (try (exfalso; omega)))))
  all_goals
    refine gives (by repeat' (first | exact St.le_refl _ | refine St.le_any ?_)) (fin_one (.wk (Wk.of_eq ?_)))
    simp_all [oneT, nil_app]
theorem p_test (a : Atr) (h : ltA a) (hw : wfA a) : Pure Tryd.prog 27 [.agg (ac a)] (.v (.string (testT a))) := by
  refine enterW Tryd.func27 rfl rfl rfl rfl (fun σ => ?_)
  obtain ⟨an, ao, at_⟩ := a
  obtain ⟨h1, h2, h3, h4, h5⟩ := h
  dsimp only at h1 h2 h3 h4 h5
  have z1 := eachB_size valT 24 ao (fun v _ => valT_sz v)
  have z2 := eachB_size oneT 70 at_ (fun t ht => oneT_sz (h5 t ht))
  have e1 := p_eachVl (f := 41) valT none false ao (by omega) (by omega) (by kernel_rfl) (fun v _ => p_valT v)
  have e2 := p_eachTst (f := 53) oneT none false at_ (by omega) (by omega) (by kernel_rfl) (fun t ht => p_single t (h5 t ht) (hw t ht))
  have hl1 : (ao.map vc).length = ao.length := List.length_map ..
  have hl2 : (at_.map tc).length = at_.length := List.length_map ..
  repeat' (first|(first|(refine jl ?_;first|refine j1 ?_|refine j4 ?_|refine j12 (fun id hid=>?_)|refine j14 ?_|refine j25 ?_|refine jp (e1) ?_|refine jp (e2) ?_)|(refine jc ?_;first|refine c1 ?_|refine c2 ?_|refine c5 ?_|refine c6 ?_|refine c7 ?_)|refine n1 ?_|refine n2 ?_|refine n6 ?_|refine n10 ?_|refine n11 ?_)|(refine c9 (fun h=>?_) (fun h=>?_)<;>((try simp only [Bool.or_eq_true, Bool.and_eq_true, Bool.or_eq_false_iff, Bool.and_eq_false_iff, Bool.not_eq_true', Bool.not_eq_false', decide_eq_true_eq, decide_eq_false_iff_not, Bool.false_eq_true, Bool.true_eq_false, reduceCtorEq] at h) <;> (try simp (disch := omega) only [sb_bt, w64, Int.reduceAdd, Int.reduceToNat, Int.toNat_natCast, not_true_eq_false, false_or] at h) <;> (try (exfalso; omega)))))
  all_goals
    refine gives (by repeat' (first | exact St.le_refl _ | refine St.le_any ?_)) (fin_one (.wk (Wk.of_eq ?_)))
    unfold testT
    simp only [ofLeaf]
  · rw [if_pos (by omega)]
    simp only [ByteArray.append_assoc]
  · rw [if_neg (by omega), if_pos (by omega)]
  · rw [if_neg (by omega), if_neg (by omega)]
    simp only [ByteArray.append_assoc]
theorem p_cond (c : Cnd) (h : ltC c) (hw : wfC c) : Pure Tryd.prog 25 [.agg (dc c)] (.v (.string (condT c))) := by
  refine enterW Tryd.func25 rfl rfl rfl rfl (fun σ => ?_)
  obtain ⟨cn, cc, ca⟩ := c
  obtain ⟨h1, h2, h3⟩ := h
  dsimp only at h1 h2 h3
  have z1 := eachB_size testT 1000 ca (fun v hv => testT_sz (h3 v hv))
  have e1 := p_eachAtr (f := 27) testT none false ca (by omega) (by omega) (by kernel_rfl) (fun v hv => p_test v (h3 v hv) (hw v hv))
  cases cn
  all_goals
    repeat' (first|(first|(refine jl ?_;first|refine j1 ?_|refine j4 ?_|refine j12 (fun id hid=>?_)|refine j14 ?_|refine j25 ?_)|(refine dl ?_;first|refine d1 ?_|refine d4 ?_|refine d14 ?_|refine d25 ?_|refine dp (e1) ?_)|(refine jc ?_;first|refine c1 ?_|refine c2 ?_|refine c3 ?_|refine c4 ?_|refine c6 ?_|refine c7 ?_|refine cq ?_)|refine n1 ?_|refine n2 ?_|refine n11 ?_))
    refine gives (by repeat' (first | exact St.le_refl _ | refine St.le_any ?_)) (fin_one (.wk (Wk.of_eq ?_)))
    simp [condT, nil_app, ofLeaf]
theorem p_expr (l : List Itm) (h : ltE l) : Pure Tryd.prog 59 [.sl none false 5 (l.map itc)] (.v (.string (exprT l))) := by
  refine enterW Tryd.func59 rfl rfl rfl rfl (fun σ => ?_)
  have h1 := h.1
  repeat' (first|(first|(refine jl ?_;first|refine j1 ?_|refine j4 ?_|refine jp (p_expr0 none false l (by omega) h.2) ?_)|(refine jc ?_;first|refine c1 ?_|refine c2 ?_|refine c7 ?_)|refine n11 ?_))
  exact gives (St.le_refl _) (Fin.refl _ _ _)
theorem p_set (s : Sgl) (h : ltS s) : Pure Tryd.prog 57 [.agg (sgc s)] (.v (.string (setT s))) := by
  refine enterW Tryd.func57 rfl rfl rfl rfl (fun σ => ?_)
  obtain ⟨sa, se⟩ := s
  have z1 := exprT_sz h.2
  have h1 := h.1
  dsimp only at h1 z1
  repeat' (first|(first|(refine jl ?_;first|refine j1 ?_|refine j4 ?_|refine j12 (fun id hid=>?_))|(refine dl ?_;first|refine d1 ?_|refine d4 ?_|refine d14 ?_|refine d25 ?_|refine dp (p_expr se h.2) ?_)|(refine jc ?_;first|refine c1 ?_|refine c2 ?_|refine c7 ?_|refine cq ?_)|refine n1 ?_|refine n11 ?_))
  exact gives (by repeat' (first | exact St.le_refl _ | refine St.le_any ?_)) (Fin.refl _ _ _)
end Go.Proofs.YtfaaokekgljnbaaDoor.Ab

/- Texts of acts and rules: the program's own. -/
set_option linter.unusedVariables false
set_option linter.unusedSimpArgs false
set_option maxRecDepth 20000
namespace Go.Proofs.YtfaaokekgljnbaaDoor.Ab
open Go
attribute [local irreducible] thn inb endR CJ LJ OpJ DJ DA DB AllocK
theorem toldS_neg (N : Nat) (h : 0 < N) : toldS (-(N : Int)) = ⟨(45 :: dec N).toArray⟩ := by
  unfold toldS
  rw [if_pos (by omega), Int.neg_neg, Int.toNat_natCast]
theorem toldS_nat (N : Nat) : toldS (N : Int) = ⟨(dec N).toArray⟩ := by
  unfold toldS
  rw [if_neg (by omega), Int.toNat_natCast]
theorem dch_mod (N : Nat) : dch (N % 10) = dch N := by unfold dch; rw [Nat.mod_mod]
theorem told_step (N : Nat) (h : 10 ≤ N) (h2 : N ≤ 1099511627776) : toldS (-(N : Int)) = toldS (-((N / 10 : Nat) : Int)) ++ toldS ((N % 10 : Nat) : Int) ∧ toldS (N : Int) = toldS ((N / 10 : Nat) : Int) ++ ⟨#[dch N]⟩ := by
  rw [toldS_neg N (by omega), toldS_neg (N / 10) (by omega), toldS_nat, toldS_nat, toldS_nat, dec_small (N % 10) (by omega), dch_mod, dec_step N h (by omega)]
  exact ⟨by rw [bconcat, List.cons_append], by rw [show (⟨#[dch N]⟩ : ByteArray) = ⟨[dch N].toArray⟩ from rfl, bconcat]⟩
set_option maxHeartbeats 1000000 in
theorem p_sdigits : ∀ (m : Nat) (n : Int), 2 * n.natAbs + (if n < 0 then 1 else 0) ≤ m → n.natAbs ≤ 1099511627776 → Pure Tryd.prog 55 [.v (.int .i64 n)] (.v (.string (toldS n))) := by
  intro m
  induction m using Nat.strongRecOn with
  | _ m ih =>
    intro n hm hn
    have call : ∀ k : Int, 2 * k.natAbs + (if k < 0 then 1 else 0) < m → k.natAbs ≤ 1099511627776 → Pure Tryd.prog 55 [.v (.int .i64 k)] (.v (.string (toldS k))) := fun k hk hk2 => ih _ hk k (Nat.le_refl _) hk2
    have hz := toldS_size
    refine enterW Tryd.func55 rfl rfl rfl rfl (fun σ => ?_)
    by_cases h1 : n ≤ -10
    · obtain ⟨N, rfl⟩ : ∃ N : Nat, n = -(N : Int) := ⟨n.natAbs, by omega⟩
      rw [if_pos (by omega)] at hm
      have hq : IntKind.i64.wrap ((-(N : Int)).tdiv 10) = -((N / 10 : Nat) : Int) := by
        rw [Int.neg_tdiv, Int.tdiv_eq_ediv_of_nonneg (by omega), w64 (by omega) (by omega)]; rfl
      have hr : IntKind.i64.wrap (0 - (-(N : Int)).tmod 10) = ((N % 10 : Nat) : Int) := by
        rw [Int.neg_tmod, Int.tmod_eq_emod_of_nonneg (by omega), w64 (by omega) (by omega)]; omega
      have e1 := call (IntKind.i64.wrap ((-(N : Int)).tdiv 10)) (by rw [hq, if_pos (by omega)]; omega) (by rw [hq]; omega)
      have e2 := call (IntKind.i64.wrap (0 - (-(N : Int)).tmod 10)) (by rw [hr, if_neg (by omega)]; omega) (by rw [hr]; omega)
      have z1 := hz (IntKind.i64.wrap ((-(N : Int)).tdiv 10))
      have z2 := hz (IntKind.i64.wrap (0 - (-(N : Int)).tmod 10))
      repeat' (first|(first|(refine jl ?_;first|refine j1 ?_|refine j4 ?_|refine j25 ?_|refine jp (e1) ?_|refine jp (e2) ?_)|(refine jc ?_;first|refine c1 ?_|refine c2 ?_|refine c7 ?_)|refine n2 ?_|refine n11 ?_)|(refine c9 (fun h=>?_) (fun h=>?_)<;>((try simp only [Bool.or_eq_true, Bool.and_eq_true, Bool.or_eq_false_iff, Bool.and_eq_false_iff, Bool.not_eq_true', Bool.not_eq_false', decide_eq_true_eq, decide_eq_false_iff_not, Bool.false_eq_true, Bool.true_eq_false, reduceCtorEq] at h) <;> (try simp (disch := omega) only [sb_bt, w64, Int.reduceAdd, Int.reduceToNat, Int.toNat_natCast, not_true_eq_false, false_or] at h) <;> (try (exfalso; omega)))))
      refine gives (St.le_refl _) (fin_one (.wk (Wk.of_eq ?_)))
      rw [hq, hr, ← (told_step N (by omega) (by omega)).1]
    · by_cases h2 : n < 0
      · rw [if_pos h2] at hm
        obtain ⟨N, rfl⟩ : ∃ N : Nat, n = -(N : Int) := ⟨n.natAbs, by omega⟩
        have hq : IntKind.i64.wrap (0 - -(N : Int)) = (N : Int) := by rw [w64 (by omega) (by omega)]; omega
        have e1 := call (IntKind.i64.wrap (0 - -(N : Int))) (by rw [hq, if_neg (by omega)]; omega) (by rw [hq]; omega)
        have z1 := hz (IntKind.i64.wrap (0 - -(N : Int)))
        repeat' (first|(first|(refine jl ?_;first|refine j1 ?_|refine j4 ?_|refine j25 ?_|refine jp (e1) ?_)|(refine jc ?_;first|refine c1 ?_|refine c2 ?_|refine c6 ?_|refine c7 ?_)|refine n1 ?_|refine n2 ?_|refine n11 ?_)|(refine c9 (fun h=>?_) (fun h=>?_)<;>((try simp only [Bool.or_eq_true, Bool.and_eq_true, Bool.or_eq_false_iff, Bool.and_eq_false_iff, Bool.not_eq_true', Bool.not_eq_false', decide_eq_true_eq, decide_eq_false_iff_not, Bool.false_eq_true, Bool.true_eq_false, reduceCtorEq] at h) <;> (try simp (disch := omega) only [sb_bt, w64, Int.reduceAdd, Int.reduceToNat, Int.toNat_natCast, not_true_eq_false, false_or] at h) <;> (try (exfalso; omega)))))
        refine gives (St.le_refl _) (fin_one (.wk (Wk.of_eq ?_)))
        rw [hq, toldS_neg N (by omega), toldS_nat, show (⟨#[45]⟩ : ByteArray) = ⟨[45].toArray⟩ from rfl, bconcat]
        rfl
      · obtain ⟨N, rfl⟩ : ∃ N : Nat, n = (N : Int) := ⟨n.natAbs, by omega⟩
        by_cases h3 : (N : Int) < 10
        · repeat' (first|(first|(refine jl ?_;first|refine j1 ?_|refine j4 ?_|refine jlit ?_)|(refine jc ?_;first|refine c1 ?_|refine c2 ?_|refine c6 ?_)|refine n1 ?_)|(refine c9 (fun h=>?_) (fun h=>?_)<;>((try simp only [Bool.or_eq_true, Bool.and_eq_true, Bool.or_eq_false_iff, Bool.and_eq_false_iff, Bool.not_eq_true', Bool.not_eq_false', decide_eq_true_eq, decide_eq_false_iff_not, Bool.false_eq_true, Bool.true_eq_false, reduceCtorEq] at h) <;> (try simp (disch := omega) only [sb_bt, w64, Int.reduceAdd, Int.reduceToNat, Int.toNat_natCast, not_true_eq_false, false_or] at h) <;> (try (exfalso; omega)))))
          rw [u8_add]
          refine j26 (l := [dch N]) ?_
          repeat' (first|(first|(refine jl ?_;first|refine j1 ?_|refine j4 ?_)|(refine jc ?_;first|refine c1 ?_|refine c2 ?_|refine c7 ?_)|refine n2 ?_|refine n11 ?_)|(refine c9 (fun h=>?_) (fun h=>?_)<;>((try simp only [Bool.or_eq_true, Bool.and_eq_true, Bool.or_eq_false_iff, Bool.and_eq_false_iff, Bool.not_eq_true', Bool.not_eq_false', decide_eq_true_eq, decide_eq_false_iff_not, Bool.false_eq_true, Bool.true_eq_false, reduceCtorEq] at h) <;> (try simp (disch := omega) only [sb_bt, w64, Int.reduceAdd, Int.reduceToNat, Int.toNat_natCast, not_true_eq_false, false_or] at h) <;> (try (exfalso; omega)))))
          refine gives (St.le_refl _) (fin_one (.wk (Wk.of_eq ?_)))
          rw [toldS_nat, dec_small N (by omega)]
        · have hq : IntKind.i64.wrap ((N : Int).tdiv 10) = ((N / 10 : Nat) : Int) := by
            rw [Int.tdiv_eq_ediv_of_nonneg (by omega), w64 (by omega) (by omega)]; rfl
          rw [if_neg h2] at hm
          have e1 := call (IntKind.i64.wrap ((N : Int).tdiv 10)) (by rw [hq, if_neg (by omega)]; omega) (by rw [hq]; omega)
          have z1 := hz (IntKind.i64.wrap ((N : Int).tdiv 10))
          have z2 : (⟨[dch N].toArray⟩ : ByteArray).size = 1 := rfl
          repeat' (first|(first|(refine jl ?_;first|refine j1 ?_|refine j4 ?_|refine jlit ?_)|(refine jc ?_;first|refine c1 ?_|refine c2 ?_|refine c6 ?_)|refine n1 ?_)|(refine c9 (fun h=>?_) (fun h=>?_)<;>((try simp only [Bool.or_eq_true, Bool.and_eq_true, Bool.or_eq_false_iff, Bool.and_eq_false_iff, Bool.not_eq_true', Bool.not_eq_false', decide_eq_true_eq, decide_eq_false_iff_not, Bool.false_eq_true, Bool.true_eq_false, reduceCtorEq] at h) <;> (try simp (disch := omega) only [sb_bt, w64, Int.reduceAdd, Int.reduceToNat, Int.toNat_natCast, not_true_eq_false, false_or] at h) <;> (try (exfalso; omega)))))
          rw [u8_add]
          refine j26 (l := [dch N]) ?_
          repeat' (first|(first|(refine jl ?_;first|refine j1 ?_|refine j4 ?_|refine j25 ?_|refine jp (e1) ?_)|(refine jc ?_;first|refine c1 ?_|refine c2 ?_|refine c6 ?_|refine c7 ?_)|refine n1 ?_|refine n11 ?_)|(refine c9 (fun h=>?_) (fun h=>?_)<;>((try simp only [Bool.or_eq_true, Bool.and_eq_true, Bool.or_eq_false_iff, Bool.and_eq_false_iff, Bool.not_eq_true', Bool.not_eq_false', decide_eq_true_eq, decide_eq_false_iff_not, Bool.false_eq_true, Bool.true_eq_false, reduceCtorEq] at h) <;> (try simp (disch := omega) only [sb_bt, w64, Int.reduceAdd, Int.reduceToNat, Int.toNat_natCast, not_true_eq_false, false_or] at h) <;> (try (exfalso; omega)))))
          refine gives (St.le_refl _) (fin_one (.wk (Wk.of_eq ?_)))
          rw [hq, (told_step N (by omega) (by omega)).2]
def ltN (a : Acn) : Prop := a.sets.length ≤ 10 ∧ a.exprs.length ≤ 12 ∧ a.cls.size ≤ 60 ∧ a.var.size ≤ 60 ∧ (∀ s ∈ a.sets, ltS s) ∧ (∀ e ∈ a.exprs, ltE e)
def plN (a : Acn) : Prop := -1099511627776 ≤ a.n ∧ a.n ≤ 1099511627776
def ltR (r : Rul) : Prop := r.conds.length ≤ 8 ∧ r.acts.length ≤ 12 ∧ r.name.size ≤ 60 ∧ (∀ c ∈ r.conds, ltC c) ∧ (∀ a ∈ r.acts, ltN a)
def wfR (r : Rul) : Prop := ∀ c ∈ r.conds, wfC c
def plR (r : Rul) : Prop := ∀ a ∈ r.acts, plN a
def sMake : ByteArray := ⟨#[40, 109, 97, 107, 101, 32]⟩
def sModify : ByteArray := ⟨#[40, 109, 111, 100, 105, 102, 121, 32]⟩
def sRemove : ByteArray := ⟨#[40, 114, 101, 109, 111, 118, 101, 32]⟩
def sBind : ByteArray := ⟨#[40, 98, 105, 110, 100, 32]⟩
def sWrite : ByteArray := ⟨#[40, 119, 114, 105, 116, 101]⟩
def sHalt : ByteArray := ⟨#[40, 104, 97, 108, 116, 41]⟩
def actT (a : Acn) : ByteArray :=
  if a.k = 0 then sMake ++ a.cls ++ eachB setT a.sets ++ ⟨#[41]⟩ else if a.k = 1 then sModify ++ toldS a.n ++ eachB setT a.sets ++ ⟨#[41]⟩
  else if a.k = 2 then sRemove ++ toldS a.n ++ ⟨#[41]⟩ else if a.k = 3 then sBind ++ varT a.var ++ eachB exprT a.exprs ++ ⟨#[41]⟩
  else if a.k = 4 then sWrite ++ eachB exprT a.exprs ++ ⟨#[41]⟩ else if a.k = 5 then sHalt else ⟨#[]⟩
def ruleT (r : Rul) : ByteArray := ⟨#[40, 112, 32]⟩ ++ r.name ++ eachB condT r.conds ++ ⟨#[32, 45, 45, 62]⟩ ++ eachB actT r.acts ++ ⟨#[41]⟩
theorem actT_sz {a : Acn} (h : ltN a) : (actT a).size ≤ 60000 := by
  obtain ⟨h1, h2, h3, h4, h5, h6⟩ := h
  have z1 := eachB_size setT 4100 a.sets (fun x hx => setT_sz (h5 x hx))
  have z2 := eachB_size exprT 4000 a.exprs (fun x hx => exprT_sz (h6 x hx))
  have z3 := toldS_size a.n
  have z4 := varT_size a.var
  unfold actT
  repeat' split
  all_goals simp only [ByteArray.size_append, b1z, b0z, show sMake.size = 6 from rfl, show sModify.size = 8 from rfl, show sRemove.size = 8 from rfl, show sBind.size = 6 from rfl, show sWrite.size = 6 from rfl, show sHalt.size = 6 from rfl]
  all_goals omega
theorem ruleT_sz {r : Rul} (h : ltR r) : (ruleT r).size ≤ 1000000 := by
  obtain ⟨h1, h2, h3, h4, h5⟩ := h
  have z1 := eachB_size condT 10200 r.conds (fun x hx => condT_sz (h4 x hx))
  have z2 := eachB_size actT 60000 r.acts (fun x hx => actT_sz (h5 x hx))
  unfold ruleT
  simp only [ByteArray.size_append, b1z, b3z, show (⟨#[32, 45, 45, 62]⟩ : ByteArray).size = 4 from rfl]
  omega
theorem p_act (a : Acn) (h : ltN a) (hp : plN a) : Pure Tryd.prog 29 [.agg (anc a)] (.v (.string (actT a))) := by
  refine enterW Tryd.func29 rfl rfl rfl rfl (fun σ => ?_)
  obtain ⟨ak, ac, an, av, as_, ae⟩ := a
  obtain ⟨h1, h2, h3, h4, h5, h6⟩ := h
  dsimp only at h1 h2 h3 h4 h5 h6
  have z1 := eachB_size setT 4100 as_ (fun x hx => setT_sz (h5 x hx))
  have z2 := eachB_size exprT 4000 ae (fun x hx => exprT_sz (h6 x hx))
  have z3 := toldS_size an
  have z4 := varT_size av
  have e0 := p_sdigits _ an (Nat.le_refl _) (by have := hp.1; have := hp.2; dsimp only at *; omega)
  have e1 := p_eachSgl (f := 57) setT none false as_ (by omega) (by omega) (by kernel_rfl) (fun x hx => p_set x (h5 x hx))
  have e2 := p_eachItl (f := 59) exprT none false ae (by omega) (by omega) (by kernel_rfl) (fun x hx => p_expr x (h6 x hx))
  have e3 := p_var av (by omega)
  repeat' (first|(first|(refine jl ?_;first|refine j1 ?_|refine j4 ?_|refine j12 (fun id hid=>?_)|refine j14 ?_|refine j25 ?_|refine jp (e0) ?_|refine jp (e1) ?_|refine jp (e2) ?_)|(refine dl ?_;first|refine d1 ?_|refine d4 ?_|refine d14 ?_|refine d25 ?_|refine dp (e1) ?_|refine dp (e2) ?_|refine dp (e3) ?_)|(refine jc ?_;first|refine c1 ?_|refine c2 ?_|refine c5 ?_|refine c6 ?_|refine c7 ?_|refine cq ?_)|refine n1 ?_|refine n2 ?_|refine n6 ?_|refine n10 ?_|refine n11 ?_)|(refine c9 (fun h=>?_) (fun h=>?_)<;>((try simp only [Bool.or_eq_true, Bool.and_eq_true, Bool.or_eq_false_iff, Bool.and_eq_false_iff, Bool.not_eq_true', Bool.not_eq_false', decide_eq_true_eq, decide_eq_false_iff_not, Bool.false_eq_true, Bool.true_eq_false, reduceCtorEq] at h) <;> (try simp (disch := omega) only [sb_bt, w64, Int.reduceAdd, Int.reduceToNat, Int.toNat_natCast, not_true_eq_false, false_or] at h) <;> (try (exfalso; omega)))))
  all_goals
    refine gives (by repeat' (first | exact St.le_refl _ | refine St.le_any ?_)) (fin_one (.wk (Wk.of_eq ?_)))
    unfold actT
    dsimp only
    repeat first | rw [if_pos (by assumption)] | rw [if_neg (by assumption)]
    try rfl
theorem p_rule (r : Rul) (h : ltR r) (hw : wfR r) (hp : plR r) : Pure Tryd.prog 23 [.agg (ruc r)] (.v (.string (ruleT r))) := by
  refine enterW Tryd.func23 rfl rfl rfl rfl (fun σ => ?_)
  obtain ⟨rn, rc, ra⟩ := r
  obtain ⟨h1, h2, h3, h4, h5⟩ := h
  dsimp only at h1 h2 h3 h4 h5
  have z1 := eachB_size condT 10200 rc (fun x hx => condT_sz (h4 x hx))
  have z2 := eachB_size actT 60000 ra (fun x hx => actT_sz (h5 x hx))
  have e1 := p_eachCnd (f := 25) condT none false rc (by omega) (by omega) (by kernel_rfl) (fun x hx => p_cond x (h4 x hx) (hw x hx))
  have e2 := p_eachAcn (f := 29) actT none false ra (by omega) (by omega) (by kernel_rfl) (fun x hx => p_act x (h5 x hx) (hp x hx))
  repeat' (first|(first|(refine jl ?_;first|refine j1 ?_|refine j4 ?_|refine j12 (fun id hid=>?_))|(refine dl ?_;first|refine d1 ?_|refine d4 ?_|refine d14 ?_|refine d25 ?_|refine dp (e1) ?_|refine dp (e2) ?_)|(refine jc ?_;first|refine c1 ?_|refine c2 ?_|refine c7 ?_|refine cq ?_)|refine n1 ?_|refine n11 ?_))
  exact gives (by repeat' (first | exact St.le_refl _ | refine St.le_any ?_)) (Fin.refl _ _ _)
end Go.Proofs.YtfaaokekgljnbaaDoor.Ab

/- Law 16: awake, ShowExprs. -/
set_option linter.unusedVariables false
set_option linter.unusedSimpArgs false
set_option maxRecDepth 20000
namespace Go.Proofs.YtfaaokekgljnbaaDoor.Ab
open Go
attribute [local irreducible] thn inb endR CJ LJ OpJ DJ DA DB AllocK
def lit16e : List Itm := [⟨0, ⟨1, 1, ⟨#[]⟩⟩, ⟨#[]⟩⟩, ⟨1, ⟨0, 0, ⟨#[]⟩⟩, ⟨#[120]⟩⟩, ⟨2, ⟨0, 0, ⟨#[]⟩⟩, ⟨#[]⟩⟩]
def lit16t : Atr := ⟨⟨#[98]⟩, [], [⟨4, ⟨#[]⟩, ⟨1, 3, ⟨#[]⟩⟩⟩]⟩
def lit16r : Rul := ⟨⟨#[114]⟩, [], []⟩
theorem e16e : exprR lit16e = (⟨#[40, 43, 32, 49, 32, 60, 120, 62, 41]⟩, true) := by decide +kernel
theorem e16t : testT lit16t = ⟨#[94, 98, 32, 62, 32, 51]⟩ := by decide +kernel
theorem e16r : ruleT lit16r = ⟨#[40, 112, 32, 114, 32, 45, 45, 62, 41]⟩ := by decide +kernel
theorem l16e : ltE lit16e := by
  refine ⟨by decide, fun x hx => ?_⟩
  rcases List.mem_cons.1 hx with rfl | hx
  · exact ⟨by decide, by decide⟩
  · rcases List.mem_cons.1 hx with rfl | hx
    · exact ⟨by decide, by decide⟩
    · rcases List.mem_cons.1 hx with rfl | hx
      · exact ⟨by decide, by decide⟩
      · cases hx
theorem l16t : ltA lit16t ∧ wfA lit16t := by
  refine ⟨⟨by decide, by decide, by decide, fun x hx => (by cases hx), fun x hx => ?_⟩, fun x hx => ?_⟩
  · obtain rfl := List.mem_singleton.1 hx
    exact ⟨by decide, by decide⟩
  · obtain rfl := List.mem_singleton.1 hx
    exact ⟨by decide, by decide⟩
theorem l16r : ltR lit16r ∧ wfR lit16r ∧ plR lit16r := ⟨⟨by decide, by decide, by decide, fun x hx => (by cases hx), fun x hx => (by cases hx)⟩, fun x hx => (by cases hx), fun x hx => (by cases hx)⟩
theorem p_awake16 : Pure Tryd.prog 18 [] (.v (.bool true)) := by
  refine enterW Tryd.func18 rfl rfl rfl rfl (fun σ => ?_)
  have k1 := p_expr0 (some false) true lit16e (by decide) l16e.2
  rw [e16e] at k1
  dsimp only at k1
  have k2 : Pure Tryd.prog 27 [.agg [.v (.string ⟨#[98]⟩), .sl (some true) true 1 [], .sl (some false) true 5 [[.v (.int .u8 4), .v (.string ⟨#[]⟩), .v (.int .u8 1), .v (.int .i64 3), .v (.string ⟨#[]⟩)]]]] (.v (.string ⟨#[94, 98, 32, 62, 32, 51]⟩)) := by
    have := Pure.wka (bs := _) (p_test lit16t l16t.1 l16t.2) (show WkL [.agg [.v (.string ⟨#[98]⟩), .sl (some true) true 1 [], .sl (some false) true 5 [[.v (.int .u8 4), .v (.string ⟨#[]⟩), .v (.int .u8 1), .v (.int .i64 3), .v (.string ⟨#[]⟩)]]]] _ from ⟨Wk.agg ⟨Wk.refl _, Wk.nil _ _ _ _, Wk.sl _ _ _ _, trivial⟩, trivial⟩)
    rwa [e16t] at this
  have k3 : Pure Tryd.prog 23 [.agg [.v (.string ⟨#[114]⟩), .sl (some true) true 1 [], .sl (some true) true 1 []]] (.v (.string ⟨#[40, 112, 32, 114, 32, 45, 45, 62, 41]⟩)) := by
    have := Pure.wka (bs := _) (p_rule lit16r l16r.1 l16r.2.1 l16r.2.2) (show WkL [.agg [.v (.string ⟨#[114]⟩), .sl (some true) true 1 [], .sl (some true) true 1 []]] _ from ⟨Wk.agg ⟨Wk.refl _, Wk.nil _ _ _ _, Wk.nil _ _ _ _, trivial⟩, trivial⟩)
    rwa [e16r] at this
  repeat' (first|(first|(refine jl ?_;first|refine j8 ?_|refine jb ?_|refine j1 ?_|refine j4 ?_|refine j9 ?_|refine jp (k1) ?_|refine jp (k2) ?_|refine jcq (hp:=fun hc=>k3) ?_|refine jlit ?_)|(refine jc ?_;first|refine c1 ?_|refine c2 ?_|refine c7 ?_)|refine n11 ?_))
  refine ge (congrArg (fun b => AV.v (Value.bool b)) ?_)
  decide +kernel
set_option maxHeartbeats 1000000 in
theorem p_exprs16 (l : List Itm) : Pure Tryd.prog 6 [.sl none false 5 (l.map itc)] (.v (.bool true)) := by
  refine enterW Tryd.func6 rfl rfl rfl rfl (fun σ => ?_)
  have k0 := p_awake16
  have hn : (l.map itc).length = l.length := List.length_map ..
  by_cases hl : 40 < l.length
  · repeat' (first|(first|(refine jl ?_;first|refine j1 ?_|refine j4 ?_|refine jp (k0) ?_)|(refine jc ?_;first|refine c1 ?_|refine c2 ?_|refine c7 ?_)|refine n2 ?_|refine n11 ?_)|(refine c9 (fun h=>?_) (fun h=>?_)<;>((try simp only [Bool.or_eq_true, Bool.and_eq_true, Bool.or_eq_false_iff, Bool.and_eq_false_iff, Bool.not_eq_true', Bool.not_eq_false', decide_eq_true_eq, decide_eq_false_iff_not, Bool.false_eq_true, Bool.true_eq_false, reduceCtorEq] at h) <;> (try simp (disch := omega) only [sb_bt, w64, Int.reduceAdd, Int.reduceToNat, Int.toNat_natCast, not_true_eq_false, false_or] at h) <;> (try (exfalso; omega)))))
    exact gives (St.le_refl _) (Fin.refl _ _ _)
  · repeat' (first|(first|(refine jl ?_;first|refine j1 ?_|refine j4 ?_)|(refine jc ?_;first|refine c1 ?_|refine c2 ?_|refine c5 ?_|refine c6 ?_)|refine n1 ?_)|(refine c9 (fun h=>?_) (fun h=>?_)<;>((try simp only [Bool.or_eq_true, Bool.and_eq_true, Bool.or_eq_false_iff, Bool.and_eq_false_iff, Bool.not_eq_true', Bool.not_eq_false', decide_eq_true_eq, decide_eq_false_iff_not, Bool.false_eq_true, Bool.true_eq_false, reduceCtorEq] at h) <;> (try simp (disch := omega) only [sb_bt, w64, Int.reduceAdd, Int.reduceToNat, Int.toNat_natCast, not_true_eq_false, false_or] at h) <;> (try (exfalso; omega)))))
    refine cj_for (fun i : Nat => i ≤ l.length ∧ ∀ x ∈ l.take i, litI x) (fun i => [(3, .v (.int .i64 i))]) (fun _ => σ) (fun i => l.length - i) 0 ⟨Nat.zero_le _, fun x hx => (by cases hx)⟩ ⟨⟨_, rfl, fun _ _ h => h⟩, trivial⟩ (St.le_refl _) (fun i hi => ?_)
    obtain ⟨hi1, hi2⟩ := hi
    rcases hd : l.drop i with _ | ⟨x, r⟩
    · have h0 := dropn hd
      have hz : ∀ x ∈ l, litI x := by
        rw [List.take_of_length_le h0] at hi2
        exact hi2
      have k1 := p_expr0 none false l (by omega) hz
      have k2 := p_rexpr none false l (by omega) hz
      repeat' (first|(first|(refine jl ?_;first|refine j8 ?_|refine j1 ?_|refine j4 ?_|refine j9 ?_|refine jcq (hp:=fun hc=>k0) ?_|refine jp (k1) ?_|refine jp (k2) ?_)|(refine jc ?_;first|refine c1 ?_|refine c2 ?_|refine c7 ?_|refine c8 ?_)|refine n1 ?_|refine n3 ?_|refine n7 ?_|refine n8 ?_|refine n11 ?_)|(refine c9 (fun h=>?_) (fun h=>?_)<;>((try simp only [Bool.or_eq_true, Bool.and_eq_true, Bool.or_eq_false_iff, Bool.and_eq_false_iff, Bool.not_eq_true', Bool.not_eq_false', decide_eq_true_eq, decide_eq_false_iff_not, Bool.false_eq_true, Bool.true_eq_false, reduceCtorEq] at h) <;> (try simp (disch := omega) only [sb_bt, w64, Int.reduceAdd, Int.reduceToNat, Int.toNat_natCast, not_true_eq_false, false_or] at h) <;> (try (exfalso; omega)))))
      refine gives (St.le_refl _) (fin_one (.wk (Wk.of_eq ?_)))
      simp
    · obtain ⟨g1, g2, g3⟩ := dropc hd
      have g4 := get_map itc g3
      have hx : ∀ y ∈ l.take (i + 1), y ∈ l.take i ∨ y = x := fun y hy => by
        rw [List.take_add_one, g3] at hy
        rcases List.mem_append.1 hy with hy | hy
        · exact .inl hy
        · exact .inr (List.mem_singleton.1 hy)
      repeat' (first|(first|(refine jl ?_;first|refine j7 ?_|refine jbl ?_|refine j1 ?_|refine j4 ?_|refine j6 ?_|refine j9 ?_|refine ji1 ?_|refine ji3 ?_|refine jp (k0) ?_)|(refine jc ?_;first|refine c1 ?_|refine c2 ?_|refine c5 ?_|refine c6 ?_|refine c7 ?_)|refine n1 ?_|refine n2 ?_|refine n5 ?_|refine n6 ?_|refine n10 ?_|refine n11 ?_)|(refine c9 (fun h=>?_) (fun h=>?_)<;>((try simp only [Bool.or_eq_true, Bool.and_eq_true, Bool.or_eq_false_iff, Bool.and_eq_false_iff, Bool.not_eq_true', Bool.not_eq_false', decide_eq_true_eq, decide_eq_false_iff_not, Bool.false_eq_true, Bool.true_eq_false, reduceCtorEq] at h) <;> (try simp (disch := omega) only [sb_bt, w64, Int.reduceAdd, Int.reduceToNat, Int.toNat_natCast, not_true_eq_false, false_or] at h) <;> (try (exfalso; omega)))))
      · exact gives (St.le_refl _) (Fin.refl _ _ _)
      · exact nx_forS (i + 1) ⟨by omega, fun y hy => (hx y hy).elim (hi2 y) (fun e => e ▸ ⟨by omega, by omega⟩)⟩ (by omega) ⟨⟨_, rfl, wk1 (by omega)⟩, trivial⟩ (St.le_refl _)
end Go.Proofs.YtfaaokekgljnbaaDoor.Ab

/- Items, rules and programs that came in, opened. -/
set_option linter.unusedVariables false
set_option linter.unusedSimpArgs false
set_option maxRecDepth 20000
namespace Go.Proofs.YtfaaokekgljnbaaDoor.Ab
open Go Go.RowKit
theorem open_itm {n : Nat} {avs : List AV} (h : isAV Tryd.prog (n + 3) 36 avs) : ∃ x : Itm, avs = itc x ∧ True := by
  obtain ⟨a, r1, rfl, _, ⟨k, rfl, hk⟩, b, r2, rfl, _, hb, c, r3, rfl, _, ⟨s, rfl, _⟩, rfl⟩ := h
  obtain ⟨v, rfl, _, _⟩ := open_v hb
  exact ⟨⟨k, v, s⟩, rfl, trivial⟩
theorem open_itl {n : Nat} {avs : List AV} (h : isAV Tryd.prog (n + 4) 34 avs) : ∃ l : List Itm, avs = itl l ∧ True := by
  obtain ⟨l, rfl, _⟩ := open_list (e := 36) (sz := 5) itc (fun _ => True) (by kernel_rfl) (by kernel_rfl) h (fun el hel => open_itm hel)
  exact ⟨l, rfl, trivial⟩
theorem open_tstw {n : Nat} {avs : List AV} (h : isAV Tryd.prog (n + 3) 79 avs) : ∃ t : Tst, avs = tc t ∧ wfT t := by
  obtain ⟨a, r1, rfl, _, ⟨m, rfl, hm⟩, b, r2, rfl, _, ⟨s, rfl, _⟩, c, r3, rfl, _, hc, rfl⟩ := h
  obtain ⟨v, rfl, hk, _⟩ := open_v hc
  exact ⟨⟨m, s, v⟩, rfl, wf_u8 hm⟩
theorem open_atrw {n : Nat} {avs : List AV} (h : isAV Tryd.prog (n + 5) 58 avs) : ∃ a : Atr, avs = ac a ∧ wfA a := by
  obtain ⟨a, r1, rfl, _, ⟨s, rfl, _⟩, b, r2, rfl, _, hb, c, r3, rfl, _, hc, rfl⟩ := h
  obtain ⟨o, rfl, _⟩ := open_list (e := 29) (sz := 3) vc (fun v => True) (by kernel_rfl) (by kernel_rfl) hb (fun el hel => by obtain ⟨v, h, _⟩ := open_v hel; exact ⟨v, h, trivial⟩)
  obtain ⟨t, rfl, ht, _⟩ := open_list (e := 79) (sz := 5) tc wfT (by kernel_rfl) (by kernel_rfl) hc (fun el hel => open_tstw hel)
  exact ⟨⟨s, o, t⟩, rfl, ht⟩
theorem open_cndw {n : Nat} {avs : List AV} (h : isAV Tryd.prog (n + 7) 53 avs) : ∃ c : Cnd, avs = dc c ∧ wfC c := by
  obtain ⟨a, r1, rfl, _, ⟨b, rfl⟩, b, r2, rfl, _, ⟨s, rfl, _⟩, c, r3, rfl, _, hc, rfl⟩ := h
  obtain ⟨l, rfl, hl, _⟩ := open_list (e := 58) (sz := 3) ac wfA (by kernel_rfl) (by kernel_rfl) hc (fun el hel => open_atrw hel)
  exact ⟨⟨_, s, l⟩, rfl, hl⟩
theorem open_sgl {n : Nat} {avs : List AV} (h : isAV Tryd.prog (n + 5) 95 avs) : ∃ s : Sgl, avs = sgc s ∧ True := by
  obtain ⟨a, r1, rfl, _, ⟨s, rfl, _⟩, b, r2, rfl, _, hb, rfl⟩ := h
  obtain ⟨l, rfl, _⟩ := open_itl hb
  exact ⟨⟨s, l⟩, rfl, trivial⟩
theorem open_acn {n : Nat} {avs : List AV} (h : isAV Tryd.prog (n + 7) 63 avs) : ∃ a : Acn, avs = anc a ∧ True := by
  obtain ⟨a, r1, rfl, _, ⟨k, rfl, hk⟩, b, r2, rfl, _, ⟨s, rfl, _⟩, c, r3, rfl, _, ⟨m, rfl, hm⟩, d, r4, rfl, _, ⟨v, rfl, _⟩, e, r5, rfl, _, he, f, r6, rfl, _, hf, rfl⟩ := h
  obtain ⟨ss, rfl, _⟩ := open_list (e := 95) (sz := 2) sgc (fun _ => True) (by kernel_rfl) (by kernel_rfl) he (fun el hel => open_sgl hel)
  obtain ⟨es, rfl, _⟩ := open_list (e := 34) (sz := 1) itl (fun _ => True) (by kernel_rfl) (by kernel_rfl) hf (fun el hel => open_itl hel)
  exact ⟨⟨k, s, m, v, ss, es⟩, rfl, trivial⟩
theorem open_rul {n : Nat} {avs : List AV} (h : isAV Tryd.prog (n + 9) 48 avs) : ∃ r : Rul, avs = ruc r ∧ wfR r := by
  obtain ⟨a, r1, rfl, _, ⟨s, rfl, _⟩, b, r2, rfl, _, hb, c, r3, rfl, _, hc, rfl⟩ := h
  obtain ⟨cs, rfl, hcs, _⟩ := open_list (e := 53) (sz := 3) dc wfC (by kernel_rfl) (by kernel_rfl) hb (fun el hel => open_cndw hel)
  obtain ⟨ns, rfl, _⟩ := open_list (e := 63) (sz := 6) anc (fun _ => True) (by kernel_rfl) (by kernel_rfl) hc (fun el hel => open_acn hel)
  exact ⟨⟨s, cs, ns⟩, rfl, hcs⟩
theorem open_prg {n : Nat} {avs : List AV} (h : isAV Tryd.prog (n + 11) 43 avs) : ∃ p : Prg, avs = pgc p ∧ ∀ r ∈ p.rules, wfR r := by
  obtain ⟨a, r1, rfl, _, ha, b, r2, rfl, _, hb, rfl⟩ := h
  obtain ⟨cs, rfl, _⟩ := open_list (e := 84) (sz := 2) cc (fun _ => True) (by kernel_rfl) (by kernel_rfl) ha (fun el hel => open_c hel)
  obtain ⟨rs, rfl, hrs, _⟩ := open_list (e := 48) (sz := 3) ruc wfR (by kernel_rfl) (by kernel_rfl) hb (fun el hel => open_rul hel)
  exact ⟨⟨cs, rs⟩, rfl, hrs⟩
end Go.Proofs.YtfaaokekgljnbaaDoor.Ab

/- Texts of tests, conditions, acts and rules: the reference. -/
set_option linter.unusedVariables false
set_option linter.unusedSimpArgs false
set_option maxRecDepth 20000
namespace Go.Proofs.YtfaaokekgljnbaaDoor.Ab
open Go
attribute [local irreducible] thn inb endR CJ LJ OpJ DJ DA DB AllocK
theorem p_rsgl16 (t : Tst) (h : ltT t) : Pure Tryd.prog 54 [.agg (tc t)] (.v (.string (oneT t))) := by
  refine enterW Tryd.func54 rfl rfl rfl rfl (fun σ => ?_)
  obtain ⟨tp, tv, ⟨vk, vn, vs⟩⟩ := t
  obtain ⟨h1, h2⟩ := h
  dsimp only at h1 h2
  have s1 := signS_sz tp
  have s2 := textV_sz vk vn vs
  repeat' (first|(first|(refine jl ?_;first|refine j1 ?_|refine j4 ?_|refine j12 (fun id hid=>?_)|refine j14 ?_|refine j25 ?_|refine jp (p_rtextv vk vn vs (by omega)) ?_|refine jp (p_rsignv tp) ?_)|(refine jc ?_;first|refine c1 ?_|refine c2 ?_|refine c6 ?_|refine c7 ?_)|refine n1 ?_|refine n2 ?_|refine n11 ?_)|(refine c9 (fun h=>?_) (fun h=>?_)<;>((try simp only [Bool.or_eq_true, Bool.and_eq_true, Bool.or_eq_false_iff, Bool.and_eq_false_iff, Bool.not_eq_true', Bool.not_eq_false', decide_eq_true_eq, decide_eq_false_iff_not, Bool.false_eq_true, Bool.true_eq_false, reduceCtorEq] at h) <;> (try simp (disch := omega) only [sb_bt, w64, Int.reduceAdd, Int.reduceToNat, Int.toNat_natCast, not_true_eq_false, false_or] at h) <;> (try (exfalso; omega)))))
  all_goals
    refine gives (by repeat' (first | exact St.le_refl _ | refine St.le_any ?_)) (fin_one (.wk (Wk.of_eq ?_)))
    simp_all [oneT, nil_app, varT, ByteArray.append_assoc, ofLeaf]
/-- A loop that lays texts behind each other. -/
theorem each_size {α : Type} {tx : α → ByteArray} {acc hd : ByteArray} {x : α} {r l : List α} (h : acc ++ eachB tx (x :: r) = hd ++ eachB tx l) : acc.size + (1 + (tx x).size) ≤ hd.size + (eachB tx l).size := by
  have := congrArg ByteArray.size h
  rw [eachB] at this
  simp only [ByteArray.size_append, b1z] at this
  omega
theorem each_step {α : Type} {tx : α → ByteArray} {acc hd : ByteArray} {x : α} {r l : List α} (h : acc ++ eachB tx (x :: r) = hd ++ eachB tx l) : acc ++ ⟨#[32]⟩ ++ tx x ++ eachB tx r = hd ++ eachB tx l := by
  rw [← h, eachB]
  simp only [ByteArray.append_assoc]
set_option maxHeartbeats 1000000 in
theorem p_rtest (a : Atr) (h : ltA a) : Pure Tryd.prog 28 [.agg (ac a)] (.v (.string (testT a))) := by
  refine enterW Tryd.func28 rfl rfl rfl rfl (fun σ => ?_)
  obtain ⟨an, ao, at_⟩ := a
  obtain ⟨h1, h2, h3, h4, h5⟩ := h
  dsimp only at h1 h2 h3 h4 h5
  have z1 := eachB_size valT 24 ao (fun v _ => valT_sz v)
  have z2 := eachB_size oneT 70 at_ (fun t ht => oneT_sz (h5 t ht))
  have hl1 : (ao.map vc).length = ao.length := List.length_map ..
  have hl2 : (at_.map tc).length = at_.length := List.length_map ..
  have hb : (⟨#[94]⟩ ++ an ++ ⟨#[32, 60, 60]⟩ : ByteArray).size = an.size + 4 := by simp only [ByteArray.size_append, b1z, b3z]; omega
  have hc : (⟨#[94]⟩ ++ an ++ ⟨#[32, 123]⟩ : ByteArray).size = an.size + 3 := by simp only [ByteArray.size_append, b1z, b2z]; omega
  by_cases ho : 0 < ao.length
  · repeat' (first|(first|(refine jl ?_;first|refine j1 ?_|refine j4 ?_|refine j12 (fun id hid=>?_)|refine j14 ?_|refine j25 ?_)|(refine jc ?_;first|refine c1 ?_|refine c2 ?_|refine c5 ?_))|(refine c9 (fun h=>?_) (fun h=>?_)<;>((try simp only [Bool.or_eq_true, Bool.and_eq_true, Bool.or_eq_false_iff, Bool.and_eq_false_iff, Bool.not_eq_true', Bool.not_eq_false', decide_eq_true_eq, decide_eq_false_iff_not, Bool.false_eq_true, Bool.true_eq_false, reduceCtorEq] at h) <;> (try simp (disch := omega) only [sb_bt, w64, Int.reduceAdd, Int.reduceToNat, Int.toNat_natCast, not_true_eq_false, false_or] at h) <;> (try (exfalso; omega)))))
    refine cj_for (fun s : Nat × ByteArray => s.1 ≤ ao.length ∧ s.2 ++ eachB valT (ao.drop s.1) = (⟨#[94]⟩ ++ an ++ ⟨#[32, 60, 60]⟩) ++ eachB valT ao) (fun s => [(4, .v (.int .i64 s.1)), (3, .v (.string s.2))]) (fun _ => _) (fun s => ao.length - s.1) (0, ⟨#[94]⟩ ++ an ++ ⟨#[32, 60, 60]⟩) ⟨Nat.zero_le _, rfl⟩ ⟨⟨_, rfl, fun _ _ h => h⟩, ⟨_, rfl, fun _ _ h => h⟩, trivial⟩ (St.le_refl _) (fun s hs => ?_)
    obtain ⟨i, acc⟩ := s
    obtain ⟨hi, hs⟩ := hs
    dsimp only at hi hs ⊢
    rcases hd : ao.drop i with _ | ⟨x, r⟩
    · have h0 := dropn hd
      rw [hd, eachB, app_nil] at hs
      have hsz := congrArg ByteArray.size hs
      rw [ByteArray.size_append] at hsz
      repeat' (first|(first|(refine jl ?_;first|refine j1 ?_|refine j4 ?_|refine j14 ?_|refine j25 ?_)|(refine jc ?_;first|refine c1 ?_|refine c2 ?_|refine c7 ?_|refine c8 ?_)|refine n1 ?_|refine n2 ?_|refine n3 ?_|refine n6 ?_|refine n7 ?_|refine n8 ?_|refine n11 ?_)|(refine c9 (fun h=>?_) (fun h=>?_)<;>((try simp only [Bool.or_eq_true, Bool.and_eq_true, Bool.or_eq_false_iff, Bool.and_eq_false_iff, Bool.not_eq_true', Bool.not_eq_false', decide_eq_true_eq, decide_eq_false_iff_not, Bool.false_eq_true, Bool.true_eq_false, reduceCtorEq] at h) <;> (try simp (disch := omega) only [sb_bt, w64, Int.reduceAdd, Int.reduceToNat, Int.toNat_natCast, not_true_eq_false, false_or] at h) <;> (try (exfalso; omega)))))
      refine gives (by repeat' (first | exact St.le_refl _ | refine St.le_any ?_)) (fin_one (.wk (Wk.of_eq ?_)))
      unfold testT
      dsimp only
      rw [if_pos ho, hs]
      simp only [ByteArray.append_assoc]
    · obtain ⟨g1, g2, g3⟩ := dropc hd
      have g4 := get_map vc g3
      rw [hd] at hs
      have hsz := each_size hs
      have hx := h4 x (List.mem_of_getElem? g3)
      have k1 : Pure Tryd.prog 45 [.agg (vc x)] (.v (.string (valT x))) := p_rtextv x.k x.n x.s (by unfold ltV at hx; omega)
      repeat' (first|(first|(refine jl ?_;first|refine jbl ?_|refine j1 ?_|refine j4 ?_|refine j6 ?_|refine j14 ?_|refine j25 ?_|refine ji1 ?_|refine jp (k1) ?_)|(refine jc ?_;first|refine c1 ?_|refine c2 ?_|refine c5 ?_|refine c6 ?_)|refine n1 ?_|refine n10 ?_)|(refine c9 (fun h=>?_) (fun h=>?_)<;>((try simp only [Bool.or_eq_true, Bool.and_eq_true, Bool.or_eq_false_iff, Bool.and_eq_false_iff, Bool.not_eq_true', Bool.not_eq_false', decide_eq_true_eq, decide_eq_false_iff_not, Bool.false_eq_true, Bool.true_eq_false, reduceCtorEq] at h) <;> (try simp (disch := omega) only [sb_bt, w64, Int.reduceAdd, Int.reduceToNat, Int.toNat_natCast, not_true_eq_false, false_or] at h) <;> (try (exfalso; omega)))))
      exact nx_forS (i + 1, acc ++ (⟨#[32]⟩ : ByteArray) ++ valT x) ⟨by dsimp only; omega, by dsimp only; rw [g2]; exact each_step hs⟩ (by dsimp only; omega) ⟨⟨_, rfl, wk1 (by omega)⟩, ⟨_, rfl, Wk.refl _⟩, trivial⟩ (St.le_refl _)
  · by_cases ht : at_.length = 1
    · obtain ⟨t, rfl⟩ : ∃ t, at_ = [t] := by
        match at_, ht with
        | [t], _ => exact ⟨t, rfl⟩
      have k1 := p_rsgl16 t (h5 t (List.mem_singleton.2 rfl))
      have hz := oneT_sz (h5 t (List.mem_singleton.2 rfl))
      repeat' (first|(first|(refine jl ?_;first|refine jbl ?_|refine j1 ?_|refine j4 ?_|refine j12 (fun id hid=>?_)|refine j14 ?_|refine j25 ?_|refine ji1 ?_|refine jp (k1) ?_)|(refine jc ?_;first|refine c1 ?_|refine c2 ?_|refine c5 ?_|refine c7 ?_)|refine n2 ?_|refine n6 ?_|refine n11 ?_)|(refine c9 (fun h=>?_) (fun h=>?_)<;>((try simp only [Bool.or_eq_true, Bool.and_eq_true, Bool.or_eq_false_iff, Bool.and_eq_false_iff, Bool.not_eq_true', Bool.not_eq_false', decide_eq_true_eq, decide_eq_false_iff_not, Bool.false_eq_true, Bool.true_eq_false, reduceCtorEq] at h) <;> (try simp (disch := omega) only [sb_bt, w64, Int.reduceAdd, Int.reduceToNat, Int.toNat_natCast, not_true_eq_false, false_or] at h) <;> (try (exfalso; omega)))))
      refine gives (by repeat' (first | exact St.le_refl _ | refine St.le_any ?_)) (fin_one (.wk (Wk.of_eq ?_)))
      unfold testT
      dsimp only
      rw [if_neg ho, if_pos (show [t].length = 1 from rfl), eachB, eachB, app_nil]
      simp only [ByteArray.append_assoc]
    · repeat' (first|(first|(refine jl ?_;first|refine j1 ?_|refine j4 ?_|refine j12 (fun id hid=>?_)|refine j14 ?_|refine j25 ?_)|(refine jc ?_;first|refine c1 ?_|refine c2 ?_|refine c5 ?_|refine c6 ?_)|refine n1 ?_|refine n10 ?_)|(refine c9 (fun h=>?_) (fun h=>?_)<;>((try simp only [Bool.or_eq_true, Bool.and_eq_true, Bool.or_eq_false_iff, Bool.and_eq_false_iff, Bool.not_eq_true', Bool.not_eq_false', decide_eq_true_eq, decide_eq_false_iff_not, Bool.false_eq_true, Bool.true_eq_false, reduceCtorEq] at h) <;> (try simp (disch := omega) only [sb_bt, w64, Int.reduceAdd, Int.reduceToNat, Int.toNat_natCast, not_true_eq_false, false_or] at h) <;> (try (exfalso; omega)))))
      refine cj_for (fun s : Nat × ByteArray => s.1 ≤ at_.length ∧ s.2 ++ eachB oneT (at_.drop s.1) = (⟨#[94]⟩ ++ an ++ ⟨#[32, 123]⟩) ++ eachB oneT at_) (fun s => [(5, .v (.int .i64 s.1)), (3, .v (.string s.2))]) (fun _ => _) (fun s => at_.length - s.1) (0, ⟨#[94]⟩ ++ an ++ ⟨#[32, 123]⟩) ⟨Nat.zero_le _, rfl⟩ ⟨⟨_, rfl, fun _ _ h => h⟩, ⟨_, rfl, fun _ _ h => h⟩, trivial⟩ (St.le_refl _) (fun s hs => ?_)
      obtain ⟨i, acc⟩ := s
      obtain ⟨hi, hs⟩ := hs
      dsimp only at hi hs ⊢
      rcases hd : at_.drop i with _ | ⟨x, r⟩
      · have h0 := dropn hd
        rw [hd, eachB, app_nil] at hs
        have hsz := congrArg ByteArray.size hs
        rw [ByteArray.size_append] at hsz
        repeat' (first|(first|(refine jl ?_;first|refine j1 ?_|refine j4 ?_|refine j14 ?_|refine j25 ?_)|(refine jc ?_;first|refine c1 ?_|refine c2 ?_|refine c7 ?_|refine c8 ?_)|refine n1 ?_|refine n3 ?_|refine n7 ?_|refine n8 ?_|refine n11 ?_)|(refine c9 (fun h=>?_) (fun h=>?_)<;>((try simp only [Bool.or_eq_true, Bool.and_eq_true, Bool.or_eq_false_iff, Bool.and_eq_false_iff, Bool.not_eq_true', Bool.not_eq_false', decide_eq_true_eq, decide_eq_false_iff_not, Bool.false_eq_true, Bool.true_eq_false, reduceCtorEq] at h) <;> (try simp (disch := omega) only [sb_bt, w64, Int.reduceAdd, Int.reduceToNat, Int.toNat_natCast, not_true_eq_false, false_or] at h) <;> (try (exfalso; omega)))))
        refine gives (by repeat' (first | exact St.le_refl _ | refine St.le_any ?_)) (fin_one (.wk (Wk.of_eq ?_)))
        unfold testT
        dsimp only
        rw [if_neg ho, if_neg ht, hs]
        simp only [ByteArray.append_assoc]
      · obtain ⟨g1, g2, g3⟩ := dropc hd
        have g4 := get_map tc g3
        rw [hd] at hs
        have hsz := each_size hs
        have k1 := p_rsgl16 x (h5 x (List.mem_of_getElem? g3))
        repeat' (first|(first|(refine jl ?_;first|refine jbl ?_|refine j1 ?_|refine j4 ?_|refine j6 ?_|refine j14 ?_|refine j25 ?_|refine ji1 ?_|refine jp (k1) ?_)|(refine jc ?_;first|refine c1 ?_|refine c2 ?_|refine c5 ?_|refine c6 ?_)|refine n1 ?_|refine n10 ?_)|(refine c9 (fun h=>?_) (fun h=>?_)<;>((try simp only [Bool.or_eq_true, Bool.and_eq_true, Bool.or_eq_false_iff, Bool.and_eq_false_iff, Bool.not_eq_true', Bool.not_eq_false', decide_eq_true_eq, decide_eq_false_iff_not, Bool.false_eq_true, Bool.true_eq_false, reduceCtorEq] at h) <;> (try simp (disch := omega) only [sb_bt, w64, Int.reduceAdd, Int.reduceToNat, Int.toNat_natCast, not_true_eq_false, false_or] at h) <;> (try (exfalso; omega)))))
        exact nx_forS (i + 1, acc ++ (⟨#[32]⟩ : ByteArray) ++ oneT x) ⟨by dsimp only; omega, by dsimp only; rw [g2]; exact each_step hs⟩ (by dsimp only; omega) ⟨⟨_, rfl, wk1 (by omega)⟩, ⟨_, rfl, Wk.refl _⟩, trivial⟩ (St.le_refl _)
theorem hd_cond (n : Bool) (c : ByteArray) : ((if n then ⟨#[45, 40]⟩ else ⟨#[40]⟩) ++ c : ByteArray) = (if n then ⟨#[45]⟩ else ⟨#[]⟩) ++ (⟨#[40]⟩ ++ c) := by
  cases n
  · simp [nil_app]
  · rw [if_pos rfl, if_pos rfl, ← ByteArray.append_assoc]
    congr 1
set_option maxHeartbeats 1000000 in
theorem p_rcond (c : Cnd) (h : ltC c) : Pure Tryd.prog 26 [.agg (dc c)] (.v (.string (condT c))) := by
  refine enterW Tryd.func26 rfl rfl rfl rfl (fun σ => ?_)
  obtain ⟨cn, cl, ca⟩ := c
  obtain ⟨h1, h2, h3⟩ := h
  dsimp only at h1 h2 h3
  have z1 := eachB_size testT 1000 ca (fun v hv => testT_sz (h3 v hv))
  have hl1 : (ca.map ac).length = ca.length := List.length_map ..
  have hb : ∀ x : UInt8, ((⟨#[x]⟩ : ByteArray) ++ cl).size = cl.size + 1 := fun x => by rw [ByteArray.size_append, b1z]; omega
  have hc : ∀ x y : UInt8, ((⟨#[x, y]⟩ : ByteArray) ++ cl).size = cl.size + 2 := fun x y => by rw [ByteArray.size_append, b2z]; omega
  have hb1 := hb 40
  have hc1 := hc 45 40
  have hE := hd_cond
  cases cn
  · repeat' (first|(first|(refine jl ?_;first|refine j1 ?_|refine j4 ?_|refine j12 (fun id hid=>?_)|refine j14 ?_|refine j25 ?_)|(refine jc ?_;first|refine c1 ?_|refine c2 ?_|refine c4 ?_|refine c5 ?_|refine c6 ?_)|refine n1 ?_))
    refine cj_for (fun s : Nat × ByteArray => s.1 ≤ ca.length ∧ s.2 ++ eachB testT (ca.drop s.1) = ((⟨#[40]⟩ : ByteArray) ++ cl) ++ eachB testT ca) (fun s => [(4, .v (.int .i64 s.1)), (3, .v (.string s.2))]) (fun _ => _) (fun s => ca.length - s.1) (0, ((⟨#[40]⟩ : ByteArray) ++ cl)) ⟨Nat.zero_le _, rfl⟩ ⟨⟨_, rfl, fun _ _ h => h⟩, ⟨_, rfl, fun _ _ h => h⟩, trivial⟩ (St.le_refl _) (fun s hs => ?_)
    obtain ⟨i, acc⟩ := s
    obtain ⟨hi, hs⟩ := hs
    dsimp only at hi hs ⊢
    rcases hd : ca.drop i with _ | ⟨x, r⟩
    · have h0 := dropn hd
      rw [hd, eachB, app_nil] at hs
      have hsz := congrArg ByteArray.size hs
      rw [ByteArray.size_append] at hsz
      repeat' (first|(first|(refine jl ?_;first|refine j1 ?_|refine j4 ?_|refine j14 ?_|refine j25 ?_)|(refine jc ?_;first|refine c1 ?_|refine c2 ?_|refine c7 ?_|refine c8 ?_)|refine n1 ?_|refine n3 ?_|refine n7 ?_|refine n8 ?_|refine n11 ?_)|(refine c9 (fun h=>?_) (fun h=>?_)<;>((try simp only [Bool.or_eq_true, Bool.and_eq_true, Bool.or_eq_false_iff, Bool.and_eq_false_iff, Bool.not_eq_true', Bool.not_eq_false', decide_eq_true_eq, decide_eq_false_iff_not, Bool.false_eq_true, Bool.true_eq_false, reduceCtorEq] at h) <;> (try simp (disch := omega) only [sb_bt, w64, Int.reduceAdd, Int.reduceToNat, Int.toNat_natCast, not_true_eq_false, false_or] at h) <;> (try (exfalso; omega)))))
      refine gives (by repeat' (first | exact St.le_refl _ | refine St.le_any ?_)) (fin_one (.wk (Wk.of_eq ?_)))
      rw [hs]
      have := hE false cl
      simp only [Bool.false_eq_true, if_true, if_false] at this
      rw [this]
      unfold condT
      dsimp only
      simp only [Bool.false_eq_true, if_true, if_false, ByteArray.append_assoc]
    · obtain ⟨g1, g2, g3⟩ := dropc hd
      have g4 := get_map ac g3
      rw [hd] at hs
      have hsz := each_size hs
      have hm := List.mem_of_getElem? g3
      have k1 := p_rtest x (h3 x hm)
      repeat' (first|(first|(refine jl ?_;first|refine jbl ?_|refine j1 ?_|refine j4 ?_|refine j6 ?_|refine j14 ?_|refine j25 ?_|refine ji1 ?_|refine jp (k1) ?_)|(refine jc ?_;first|refine c1 ?_|refine c2 ?_|refine c5 ?_|refine c6 ?_)|refine n1 ?_|refine n10 ?_)|(refine c9 (fun h=>?_) (fun h=>?_)<;>((try simp only [Bool.or_eq_true, Bool.and_eq_true, Bool.or_eq_false_iff, Bool.and_eq_false_iff, Bool.not_eq_true', Bool.not_eq_false', decide_eq_true_eq, decide_eq_false_iff_not, Bool.false_eq_true, Bool.true_eq_false, reduceCtorEq] at h) <;> (try simp (disch := omega) only [sb_bt, w64, Int.reduceAdd, Int.reduceToNat, Int.toNat_natCast, not_true_eq_false, false_or] at h) <;> (try (exfalso; omega)))))
      exact nx_forS (i + 1, acc ++ (⟨#[32]⟩ : ByteArray) ++ testT x) ⟨by dsimp only; omega, by dsimp only; rw [g2]; exact each_step hs⟩ (by dsimp only; omega) ⟨⟨_, rfl, wk1 (by omega)⟩, ⟨_, rfl, Wk.refl _⟩, trivial⟩ (St.le_refl _)
  · repeat' (first|(first|(refine jl ?_;first|refine j1 ?_|refine j4 ?_|refine j12 (fun id hid=>?_)|refine j14 ?_|refine j25 ?_)|(refine jc ?_;first|refine c1 ?_|refine c2 ?_|refine c3 ?_|refine c5 ?_)))
    refine cj_for (fun s : Nat × ByteArray => s.1 ≤ ca.length ∧ s.2 ++ eachB testT (ca.drop s.1) = ((⟨#[45, 40]⟩ : ByteArray) ++ cl) ++ eachB testT ca) (fun s => [(4, .v (.int .i64 s.1)), (3, .v (.string s.2))]) (fun _ => _) (fun s => ca.length - s.1) (0, ((⟨#[45, 40]⟩ : ByteArray) ++ cl)) ⟨Nat.zero_le _, rfl⟩ ⟨⟨_, rfl, fun _ _ h => h⟩, ⟨_, rfl, fun _ _ h => h⟩, trivial⟩ (St.le_refl _) (fun s hs => ?_)
    obtain ⟨i, acc⟩ := s
    obtain ⟨hi, hs⟩ := hs
    dsimp only at hi hs ⊢
    rcases hd : ca.drop i with _ | ⟨x, r⟩
    · have h0 := dropn hd
      rw [hd, eachB, app_nil] at hs
      have hsz := congrArg ByteArray.size hs
      rw [ByteArray.size_append] at hsz
      repeat' (first|(first|(refine jl ?_;first|refine j1 ?_|refine j4 ?_|refine j14 ?_|refine j25 ?_)|(refine jc ?_;first|refine c1 ?_|refine c2 ?_|refine c7 ?_|refine c8 ?_)|refine n1 ?_|refine n3 ?_|refine n7 ?_|refine n8 ?_|refine n11 ?_)|(refine c9 (fun h=>?_) (fun h=>?_)<;>((try simp only [Bool.or_eq_true, Bool.and_eq_true, Bool.or_eq_false_iff, Bool.and_eq_false_iff, Bool.not_eq_true', Bool.not_eq_false', decide_eq_true_eq, decide_eq_false_iff_not, Bool.false_eq_true, Bool.true_eq_false, reduceCtorEq] at h) <;> (try simp (disch := omega) only [sb_bt, w64, Int.reduceAdd, Int.reduceToNat, Int.toNat_natCast, not_true_eq_false, false_or] at h) <;> (try (exfalso; omega)))))
      refine gives (by repeat' (first | exact St.le_refl _ | refine St.le_any ?_)) (fin_one (.wk (Wk.of_eq ?_)))
      rw [hs]
      have := hE true cl
      simp only [Bool.false_eq_true, if_true, if_false] at this
      rw [this]
      unfold condT
      dsimp only
      simp only [Bool.false_eq_true, if_true, if_false, ByteArray.append_assoc]
    · obtain ⟨g1, g2, g3⟩ := dropc hd
      have g4 := get_map ac g3
      rw [hd] at hs
      have hsz := each_size hs
      have hm := List.mem_of_getElem? g3
      have k1 := p_rtest x (h3 x hm)
      repeat' (first|(first|(refine jl ?_;first|refine jbl ?_|refine j1 ?_|refine j4 ?_|refine j6 ?_|refine j14 ?_|refine j25 ?_|refine ji1 ?_|refine jp (k1) ?_)|(refine jc ?_;first|refine c1 ?_|refine c2 ?_|refine c5 ?_|refine c6 ?_)|refine n1 ?_|refine n10 ?_)|(refine c9 (fun h=>?_) (fun h=>?_)<;>((try simp only [Bool.or_eq_true, Bool.and_eq_true, Bool.or_eq_false_iff, Bool.and_eq_false_iff, Bool.not_eq_true', Bool.not_eq_false', decide_eq_true_eq, decide_eq_false_iff_not, Bool.false_eq_true, Bool.true_eq_false, reduceCtorEq] at h) <;> (try simp (disch := omega) only [sb_bt, w64, Int.reduceAdd, Int.reduceToNat, Int.toNat_natCast, not_true_eq_false, false_or] at h) <;> (try (exfalso; omega)))))
      exact nx_forS (i + 1, acc ++ (⟨#[32]⟩ : ByteArray) ++ testT x) ⟨by dsimp only; omega, by dsimp only; rw [g2]; exact each_step hs⟩ (by dsimp only; omega) ⟨⟨_, rfl, wk1 (by omega)⟩, ⟨_, rfl, Wk.refl _⟩, trivial⟩ (St.le_refl _)
end Go.Proofs.YtfaaokekgljnbaaDoor.Ab

/- Texts of acts and rules: the reference. -/
set_option linter.unusedVariables false
set_option linter.unusedSimpArgs false
set_option maxRecDepth 20000
namespace Go.Proofs.YtfaaokekgljnbaaDoor.Ab
open Go
attribute [local irreducible] thn inb endR CJ LJ OpJ DJ DA DB AllocK
theorem bh : (⟨#[32]⟩ ++ ⟨#[94]⟩ : ByteArray) = ⟨#[32, 94]⟩ := by decide +kernel
theorem set_step {acc hd : ByteArray} {x : Sgl} {r l : List Sgl} (h : acc ++ eachB setT (x :: r) = hd ++ eachB setT l) : acc ++ ⟨#[32, 94]⟩ ++ x.attr ++ ⟨#[32]⟩ ++ exprT x.expr ++ eachB setT r = hd ++ eachB setT l := by
  rw [← h, eachB, ← bh]
  unfold setT
  simp only [ByteArray.append_assoc]
theorem set_size {x : Sgl} : (setT x).size = x.attr.size + 2 + (exprR x.expr).1.size := by
  unfold setT exprT
  simp only [ByteArray.size_append, b1z]
  omega
set_option maxHeartbeats 2000000 in
theorem p_ract (a : Acn) (h : ltN a) (hp : plN a) : Pure Tryd.prog 30 [.agg (anc a)] (.v (.string (actT a))) := by
  refine enterW Tryd.func30 rfl rfl rfl rfl (fun σ => ?_)
  obtain ⟨ak, al, an, av, as_, ae⟩ := a
  obtain ⟨h1, h2, h3, h4, h5, h6⟩ := h
  have hp1 := hp.1
  have hp2 := hp.2
  dsimp only at h1 h2 h3 h4 h5 h6 hp1 hp2
  have z1 := eachB_size setT 4100 as_ (fun x hx => setT_sz (h5 x hx))
  have z2 := eachB_size exprT 4000 ae (fun x hx => exprT_sz (h6 x hx))
  have z3 := toldS_size an
  have hl1 : (as_.map sgc).length = as_.length := List.length_map ..
  have hl2 : (ae.map itl).length = ae.length := List.length_map ..
  have k0 := p_rtold _ an ⟨hp1, hp2⟩ (Nat.le_refl _)
  have y1 : (sMake ++ al).size = al.size + 6 := by rw [ByteArray.size_append, show sMake.size = 6 from rfl]; omega
  have y2 : (sModify ++ toldS an).size = (toldS an).size + 8 := by rw [ByteArray.size_append, show sModify.size = 8 from rfl]; omega
  have y3 : (⟨#[40, 98, 105, 110, 100, 32, 60]⟩ ++ av ++ ⟨#[62]⟩ : ByteArray).size = av.size + 8 := by simp only [ByteArray.size_append, b1z, show (⟨#[40, 98, 105, 110, 100, 32, 60]⟩ : ByteArray).size = 7 from rfl]; omega
  have y4 : sWrite.size = 6 := rfl
  by_cases q0 : ak = 0
  · repeat' (first|(first|(refine jl ?_;first|refine j7 ?_|refine j1 ?_|refine j4 ?_|refine j6 ?_|refine j9 ?_|refine j12 (fun id hid=>?_)|refine j14 ?_|refine j16 ?_|refine j25 ?_)|(refine jc ?_;first|refine c1 ?_|refine c2 ?_|refine c5 ?_)|refine n1 ?_|refine n10 ?_)|(refine c9 (fun h=>?_) (fun h=>?_)<;>((try simp only [Bool.or_eq_true, Bool.and_eq_true, Bool.or_eq_false_iff, Bool.and_eq_false_iff, Bool.not_eq_true', Bool.not_eq_false', decide_eq_true_eq, decide_eq_false_iff_not, Bool.false_eq_true, Bool.true_eq_false, reduceCtorEq] at h) <;> (try simp (disch := omega) only [sb_bt, w64, Int.reduceAdd, Int.reduceToNat, Int.toNat_natCast, not_true_eq_false, false_or] at h) <;> (try (exfalso; omega)))))
    refine cj_for (fun s : Nat × ByteArray => s.1 ≤ as_.length ∧ s.2 ++ eachB setT (as_.drop s.1) = (sMake ++ al) ++ eachB setT as_) (fun s => [(4, .v (.int .i64 s.1)), (3, .v (.string s.2))]) (fun _ => _) (fun s => as_.length - s.1) (0, (sMake ++ al)) ⟨Nat.zero_le _, rfl⟩ ⟨⟨_, rfl, fun _ _ h => h⟩, ⟨_, rfl, fun _ _ h => h⟩, trivial⟩ (St.le_refl _) (fun s hs => ?_)
    obtain ⟨i, acc⟩ := s
    obtain ⟨hi, hs⟩ := hs
    dsimp only at hi hs ⊢
    rcases hd : as_.drop i with _ | ⟨x, r⟩
    · have h0 := dropn hd
      rw [hd, eachB, app_nil] at hs
      have hsz := congrArg ByteArray.size hs
      rw [ByteArray.size_append] at hsz
      repeat' (first|(first|(refine jl ?_;first|refine j7 ?_|refine j1 ?_|refine j4 ?_|refine j9 ?_|refine j14 ?_|refine j16 ?_|refine j25 ?_)|(refine jc ?_;first|refine c1 ?_|refine c2 ?_|refine c6 ?_|refine c7 ?_|refine c8 ?_)|refine n1 ?_|refine n3 ?_|refine n7 ?_|refine n8 ?_|refine n11 ?_)|(refine c9 (fun h=>?_) (fun h=>?_)<;>((try simp only [Bool.or_eq_true, Bool.and_eq_true, Bool.or_eq_false_iff, Bool.and_eq_false_iff, Bool.not_eq_true', Bool.not_eq_false', decide_eq_true_eq, decide_eq_false_iff_not, Bool.false_eq_true, Bool.true_eq_false, reduceCtorEq] at h) <;> (try simp (disch := omega) only [sb_bt, w64, Int.reduceAdd, Int.reduceToNat, Int.toNat_natCast, not_true_eq_false, false_or] at h) <;> (try (exfalso; omega)))))
      refine gives (by repeat' (first | exact St.le_refl _ | refine St.le_any ?_)) (fin_one (.wk (Wk.of_eq ?_)))
      unfold actT
      dsimp only
      rw [if_pos q0]
      rw [hs]
    · obtain ⟨g1, g2, g3⟩ := dropc hd
      have g4 := get_map sgc g3
      rw [hd] at hs
      have hsz := each_size hs
      have hm := List.mem_of_getElem? g3
      have k1 := p_rexpr none false x.expr (by have := (h5 x hm).2.1; omega) (h5 x hm).2.2
      have zx := @set_size x
      have zz := (h5 x hm).1
      repeat' (first|(first|(refine jl ?_;first|refine jbl ?_|refine j1 ?_|refine j4 ?_|refine j6 ?_|refine j14 ?_|refine j25 ?_|refine ji1 ?_|refine jp (k1) ?_)|(refine jc ?_;first|refine c1 ?_|refine c2 ?_|refine c5 ?_|refine c6 ?_)|refine n1 ?_|refine n10 ?_)|(refine c9 (fun h=>?_) (fun h=>?_)<;>((try simp only [Bool.or_eq_true, Bool.and_eq_true, Bool.or_eq_false_iff, Bool.and_eq_false_iff, Bool.not_eq_true', Bool.not_eq_false', decide_eq_true_eq, decide_eq_false_iff_not, Bool.false_eq_true, Bool.true_eq_false, reduceCtorEq] at h) <;> (try simp (disch := omega) only [sb_bt, w64, Int.reduceAdd, Int.reduceToNat, Int.toNat_natCast, not_true_eq_false, false_or] at h) <;> (try (exfalso; omega)))))
      exact nx_forS (i + 1, acc ++ (⟨#[32, 94]⟩ : ByteArray) ++ x.attr ++ (⟨#[32]⟩ : ByteArray) ++ exprT x.expr) ⟨by dsimp only; omega, by dsimp only; rw [g2]; exact set_step hs⟩ (by dsimp only; omega) ⟨⟨_, rfl, wk1 (by omega)⟩, ⟨_, rfl, Wk.refl _⟩, trivial⟩ (St.le_refl _)
  · by_cases q1 : ak = 1
    · repeat' (first|(first|(refine jl ?_;first|refine j7 ?_|refine j1 ?_|refine j4 ?_|refine j6 ?_|refine j9 ?_|refine j12 (fun id hid=>?_)|refine j14 ?_|refine j16 ?_|refine j25 ?_|refine jp (k0) ?_)|(refine jc ?_;first|refine c1 ?_|refine c2 ?_|refine c5 ?_)|refine n1 ?_|refine n10 ?_)|(refine c9 (fun h=>?_) (fun h=>?_)<;>((try simp only [Bool.or_eq_true, Bool.and_eq_true, Bool.or_eq_false_iff, Bool.and_eq_false_iff, Bool.not_eq_true', Bool.not_eq_false', decide_eq_true_eq, decide_eq_false_iff_not, Bool.false_eq_true, Bool.true_eq_false, reduceCtorEq] at h) <;> (try simp (disch := omega) only [sb_bt, w64, Int.reduceAdd, Int.reduceToNat, Int.toNat_natCast, not_true_eq_false, false_or] at h) <;> (try (exfalso; omega)))))
      refine cj_for (fun s : Nat × ByteArray => s.1 ≤ as_.length ∧ s.2 ++ eachB setT (as_.drop s.1) = (sModify ++ toldS an) ++ eachB setT as_) (fun s => [(4, .v (.int .i64 s.1)), (3, .v (.string s.2))]) (fun _ => _) (fun s => as_.length - s.1) (0, (sModify ++ toldS an)) ⟨Nat.zero_le _, rfl⟩ ⟨⟨_, rfl, fun _ _ h => h⟩, ⟨_, rfl, fun _ _ h => h⟩, trivial⟩ (St.le_refl _) (fun s hs => ?_)
      obtain ⟨i, acc⟩ := s
      obtain ⟨hi, hs⟩ := hs
      dsimp only at hi hs ⊢
      rcases hd : as_.drop i with _ | ⟨x, r⟩
      · have h0 := dropn hd
        rw [hd, eachB, app_nil] at hs
        have hsz := congrArg ByteArray.size hs
        rw [ByteArray.size_append] at hsz
        repeat' (first|(first|(refine jl ?_;first|refine j7 ?_|refine j1 ?_|refine j4 ?_|refine j9 ?_|refine j14 ?_|refine j16 ?_|refine j25 ?_)|(refine jc ?_;first|refine c1 ?_|refine c2 ?_|refine c6 ?_|refine c7 ?_|refine c8 ?_)|refine n1 ?_|refine n3 ?_|refine n7 ?_|refine n8 ?_|refine n11 ?_)|(refine c9 (fun h=>?_) (fun h=>?_)<;>((try simp only [Bool.or_eq_true, Bool.and_eq_true, Bool.or_eq_false_iff, Bool.and_eq_false_iff, Bool.not_eq_true', Bool.not_eq_false', decide_eq_true_eq, decide_eq_false_iff_not, Bool.false_eq_true, Bool.true_eq_false, reduceCtorEq] at h) <;> (try simp (disch := omega) only [sb_bt, w64, Int.reduceAdd, Int.reduceToNat, Int.toNat_natCast, not_true_eq_false, false_or] at h) <;> (try (exfalso; omega)))))
        refine gives (by repeat' (first | exact St.le_refl _ | refine St.le_any ?_)) (fin_one (.wk (Wk.of_eq ?_)))
        unfold actT
        dsimp only
        rw [if_neg q0, if_pos q1]
        rw [hs]
      · obtain ⟨g1, g2, g3⟩ := dropc hd
        have g4 := get_map sgc g3
        rw [hd] at hs
        have hsz := each_size hs
        have hm := List.mem_of_getElem? g3
        have k1 := p_rexpr none false x.expr (by have := (h5 x hm).2.1; omega) (h5 x hm).2.2
        have zx := @set_size x
        have zz := (h5 x hm).1
        repeat' (first|(first|(refine jl ?_;first|refine jbl ?_|refine j1 ?_|refine j4 ?_|refine j6 ?_|refine j14 ?_|refine j25 ?_|refine ji1 ?_|refine jp (k1) ?_)|(refine jc ?_;first|refine c1 ?_|refine c2 ?_|refine c5 ?_|refine c6 ?_)|refine n1 ?_|refine n10 ?_)|(refine c9 (fun h=>?_) (fun h=>?_)<;>((try simp only [Bool.or_eq_true, Bool.and_eq_true, Bool.or_eq_false_iff, Bool.and_eq_false_iff, Bool.not_eq_true', Bool.not_eq_false', decide_eq_true_eq, decide_eq_false_iff_not, Bool.false_eq_true, Bool.true_eq_false, reduceCtorEq] at h) <;> (try simp (disch := omega) only [sb_bt, w64, Int.reduceAdd, Int.reduceToNat, Int.toNat_natCast, not_true_eq_false, false_or] at h) <;> (try (exfalso; omega)))))
        exact nx_forS (i + 1, acc ++ (⟨#[32, 94]⟩ : ByteArray) ++ x.attr ++ (⟨#[32]⟩ : ByteArray) ++ exprT x.expr) ⟨by dsimp only; omega, by dsimp only; rw [g2]; exact set_step hs⟩ (by dsimp only; omega) ⟨⟨_, rfl, wk1 (by omega)⟩, ⟨_, rfl, Wk.refl _⟩, trivial⟩ (St.le_refl _)
    · by_cases q2 : ak = 2
      · repeat' (first|(first|(refine jl ?_;first|refine j7 ?_|refine j1 ?_|refine j4 ?_|refine j6 ?_|refine j9 ?_|refine j12 (fun id hid=>?_)|refine j14 ?_|refine j16 ?_|refine j25 ?_|refine jp (k0) ?_)|(refine jc ?_;first|refine c1 ?_|refine c2 ?_|refine c5 ?_|refine c6 ?_|refine c7 ?_)|refine n1 ?_|refine n10 ?_|refine n11 ?_)|(refine c9 (fun h=>?_) (fun h=>?_)<;>((try simp only [Bool.or_eq_true, Bool.and_eq_true, Bool.or_eq_false_iff, Bool.and_eq_false_iff, Bool.not_eq_true', Bool.not_eq_false', decide_eq_true_eq, decide_eq_false_iff_not, Bool.false_eq_true, Bool.true_eq_false, reduceCtorEq] at h) <;> (try simp (disch := omega) only [sb_bt, w64, Int.reduceAdd, Int.reduceToNat, Int.toNat_natCast, not_true_eq_false, false_or] at h) <;> (try (exfalso; omega)))))
        refine gives (by repeat' (first | exact St.le_refl _ | refine St.le_any ?_)) (fin_one (.wk (Wk.of_eq ?_)))
        unfold actT
        dsimp only
        rw [if_neg q0, if_neg q1, if_pos q2]
        rfl
      · by_cases q3 : ak = 3
        · repeat' (first|(first|(refine jl ?_;first|refine j7 ?_|refine j1 ?_|refine j4 ?_|refine j6 ?_|refine j9 ?_|refine j12 (fun id hid=>?_)|refine j14 ?_|refine j16 ?_|refine j25 ?_)|(refine jc ?_;first|refine c1 ?_|refine c2 ?_|refine c5 ?_|refine c6 ?_)|refine n1 ?_|refine n10 ?_)|(refine c9 (fun h=>?_) (fun h=>?_)<;>((try simp only [Bool.or_eq_true, Bool.and_eq_true, Bool.or_eq_false_iff, Bool.and_eq_false_iff, Bool.not_eq_true', Bool.not_eq_false', decide_eq_true_eq, decide_eq_false_iff_not, Bool.false_eq_true, Bool.true_eq_false, reduceCtorEq] at h) <;> (try simp (disch := omega) only [sb_bt, w64, Int.reduceAdd, Int.reduceToNat, Int.toNat_natCast, not_true_eq_false, false_or] at h) <;> (try (exfalso; omega)))))
          refine cj_for (fun s : Nat × ByteArray => s.1 ≤ ae.length ∧ s.2 ++ eachB exprT (ae.drop s.1) = ((⟨#[40, 98, 105, 110, 100, 32, 60]⟩ : ByteArray) ++ av ++ (⟨#[62]⟩ : ByteArray)) ++ eachB exprT ae) (fun s => [(7, .v (.int .i64 s.1)), (3, .v (.string s.2))]) (fun _ => _) (fun s => ae.length - s.1) (0, ((⟨#[40, 98, 105, 110, 100, 32, 60]⟩ : ByteArray) ++ av ++ (⟨#[62]⟩ : ByteArray))) ⟨Nat.zero_le _, rfl⟩ ⟨⟨_, rfl, fun _ _ h => h⟩, ⟨_, rfl, fun _ _ h => h⟩, trivial⟩ (St.le_refl _) (fun s hs => ?_)
          obtain ⟨i, acc⟩ := s
          obtain ⟨hi, hs⟩ := hs
          dsimp only at hi hs ⊢
          rcases hd : ae.drop i with _ | ⟨x, r⟩
          · have h0 := dropn hd
            rw [hd, eachB, app_nil] at hs
            have hsz := congrArg ByteArray.size hs
            rw [ByteArray.size_append] at hsz
            repeat' (first|(first|(refine jl ?_;first|refine j1 ?_|refine j4 ?_|refine j14 ?_|refine j25 ?_)|(refine jc ?_;first|refine c1 ?_|refine c2 ?_|refine c7 ?_|refine c8 ?_)|refine n1 ?_|refine n3 ?_|refine n7 ?_|refine n8 ?_|refine n11 ?_)|(refine c9 (fun h=>?_) (fun h=>?_)<;>((try simp only [Bool.or_eq_true, Bool.and_eq_true, Bool.or_eq_false_iff, Bool.and_eq_false_iff, Bool.not_eq_true', Bool.not_eq_false', decide_eq_true_eq, decide_eq_false_iff_not, Bool.false_eq_true, Bool.true_eq_false, reduceCtorEq] at h) <;> (try simp (disch := omega) only [sb_bt, w64, Int.reduceAdd, Int.reduceToNat, Int.toNat_natCast, not_true_eq_false, false_or] at h) <;> (try (exfalso; omega)))))
            refine gives (by repeat' (first | exact St.le_refl _ | refine St.le_any ?_)) (fin_one (.wk (Wk.of_eq ?_)))
            unfold actT
            dsimp only
            rw [if_neg q0, if_neg q1, if_neg q2, if_pos q3]
            rw [hs]
            rw [show sBind ++ varT av = (⟨#[40, 98, 105, 110, 100, 32, 60]⟩ : ByteArray) ++ av ++ (⟨#[62]⟩ : ByteArray) from by unfold varT; rw [← ByteArray.append_assoc, ← ByteArray.append_assoc]; congr 1]
          · obtain ⟨g1, g2, g3⟩ := dropc hd
            have g4 := get_map itl g3
            rw [hd] at hs
            have hsz := each_size hs
            have hm := List.mem_of_getElem? g3
            have k1 := p_rexpr none false x (by have := (h6 x hm).1; omega) (h6 x hm).2
            have zx : (exprR x).1.size = (exprT x).size := rfl
            repeat' (first|(first|(refine jl ?_;first|refine jbl ?_|refine j1 ?_|refine j4 ?_|refine j6 ?_|refine j14 ?_|refine j25 ?_|refine ji1 ?_|refine jp (k1) ?_)|(refine jc ?_;first|refine c1 ?_|refine c2 ?_|refine c5 ?_|refine c6 ?_)|refine n1 ?_|refine n10 ?_)|(refine c9 (fun h=>?_) (fun h=>?_)<;>((try simp only [Bool.or_eq_true, Bool.and_eq_true, Bool.or_eq_false_iff, Bool.and_eq_false_iff, Bool.not_eq_true', Bool.not_eq_false', decide_eq_true_eq, decide_eq_false_iff_not, Bool.false_eq_true, Bool.true_eq_false, reduceCtorEq] at h) <;> (try simp (disch := omega) only [sb_bt, w64, Int.reduceAdd, Int.reduceToNat, Int.toNat_natCast, not_true_eq_false, false_or] at h) <;> (try (exfalso; omega)))))
            exact nx_forS (i + 1, acc ++ (⟨#[32]⟩ : ByteArray) ++ exprT x) ⟨by dsimp only; omega, by dsimp only; rw [g2]; exact each_step hs⟩ (by dsimp only; omega) ⟨⟨_, rfl, wk1 (by omega)⟩, ⟨_, rfl, Wk.refl _⟩, trivial⟩ (St.le_refl _)
        · by_cases q4 : ak = 4
          · repeat' (first|(first|(refine jl ?_;first|refine j7 ?_|refine j1 ?_|refine j4 ?_|refine j6 ?_|refine j9 ?_|refine j12 (fun id hid=>?_)|refine j14 ?_|refine j16 ?_)|(refine jc ?_;first|refine c1 ?_|refine c2 ?_|refine c5 ?_|refine c6 ?_)|refine n1 ?_|refine n10 ?_)|(refine c9 (fun h=>?_) (fun h=>?_)<;>((try simp only [Bool.or_eq_true, Bool.and_eq_true, Bool.or_eq_false_iff, Bool.and_eq_false_iff, Bool.not_eq_true', Bool.not_eq_false', decide_eq_true_eq, decide_eq_false_iff_not, Bool.false_eq_true, Bool.true_eq_false, reduceCtorEq] at h) <;> (try simp (disch := omega) only [sb_bt, w64, Int.reduceAdd, Int.reduceToNat, Int.toNat_natCast, not_true_eq_false, false_or] at h) <;> (try (exfalso; omega)))))
            refine cj_for (fun s : Nat × ByteArray => s.1 ≤ ae.length ∧ s.2 ++ eachB exprT (ae.drop s.1) = sWrite ++ eachB exprT ae) (fun s => [(7, .v (.int .i64 s.1)), (3, .v (.string s.2))]) (fun _ => _) (fun s => ae.length - s.1) (0, sWrite) ⟨Nat.zero_le _, rfl⟩ ⟨⟨_, rfl, fun _ _ h => h⟩, ⟨_, rfl, fun _ _ h => h⟩, trivial⟩ (St.le_refl _) (fun s hs => ?_)
            obtain ⟨i, acc⟩ := s
            obtain ⟨hi, hs⟩ := hs
            dsimp only at hi hs ⊢
            rcases hd : ae.drop i with _ | ⟨x, r⟩
            · have h0 := dropn hd
              rw [hd, eachB, app_nil] at hs
              have hsz := congrArg ByteArray.size hs
              rw [ByteArray.size_append] at hsz
              repeat' (first|(first|(refine jl ?_;first|refine j1 ?_|refine j4 ?_|refine j14 ?_|refine j25 ?_)|(refine jc ?_;first|refine c1 ?_|refine c2 ?_|refine c7 ?_|refine c8 ?_)|refine n1 ?_|refine n3 ?_|refine n7 ?_|refine n8 ?_|refine n11 ?_)|(refine c9 (fun h=>?_) (fun h=>?_)<;>((try simp only [Bool.or_eq_true, Bool.and_eq_true, Bool.or_eq_false_iff, Bool.and_eq_false_iff, Bool.not_eq_true', Bool.not_eq_false', decide_eq_true_eq, decide_eq_false_iff_not, Bool.false_eq_true, Bool.true_eq_false, reduceCtorEq] at h) <;> (try simp (disch := omega) only [sb_bt, w64, Int.reduceAdd, Int.reduceToNat, Int.toNat_natCast, not_true_eq_false, false_or] at h) <;> (try (exfalso; omega)))))
              refine gives (by repeat' (first | exact St.le_refl _ | refine St.le_any ?_)) (fin_one (.wk (Wk.of_eq ?_)))
              unfold actT
              dsimp only
              rw [if_neg q0, if_neg q1, if_neg q2, if_neg q3, if_pos q4]
              rw [hs]
            · obtain ⟨g1, g2, g3⟩ := dropc hd
              have g4 := get_map itl g3
              rw [hd] at hs
              have hsz := each_size hs
              have hm := List.mem_of_getElem? g3
              have k1 := p_rexpr none false x (by have := (h6 x hm).1; omega) (h6 x hm).2
              have zx : (exprR x).1.size = (exprT x).size := rfl
              repeat' (first|(first|(refine jl ?_;first|refine jbl ?_|refine j1 ?_|refine j4 ?_|refine j6 ?_|refine j14 ?_|refine j25 ?_|refine ji1 ?_|refine jp (k1) ?_)|(refine jc ?_;first|refine c1 ?_|refine c2 ?_|refine c5 ?_|refine c6 ?_)|refine n1 ?_|refine n10 ?_)|(refine c9 (fun h=>?_) (fun h=>?_)<;>((try simp only [Bool.or_eq_true, Bool.and_eq_true, Bool.or_eq_false_iff, Bool.and_eq_false_iff, Bool.not_eq_true', Bool.not_eq_false', decide_eq_true_eq, decide_eq_false_iff_not, Bool.false_eq_true, Bool.true_eq_false, reduceCtorEq] at h) <;> (try simp (disch := omega) only [sb_bt, w64, Int.reduceAdd, Int.reduceToNat, Int.toNat_natCast, not_true_eq_false, false_or] at h) <;> (try (exfalso; omega)))))
              exact nx_forS (i + 1, acc ++ (⟨#[32]⟩ : ByteArray) ++ exprT x) ⟨by dsimp only; omega, by dsimp only; rw [g2]; exact each_step hs⟩ (by dsimp only; omega) ⟨⟨_, rfl, wk1 (by omega)⟩, ⟨_, rfl, Wk.refl _⟩, trivial⟩ (St.le_refl _)
          · by_cases q5 : ak = 5
            · repeat' (first|(first|(refine jl ?_;first|refine j7 ?_|refine j1 ?_|refine j4 ?_|refine j6 ?_|refine j9 ?_|refine j12 (fun id hid=>?_)|refine j14 ?_|refine j16 ?_|refine j25 ?_)|(refine jc ?_;first|refine c1 ?_|refine c2 ?_|refine c5 ?_|refine c6 ?_|refine c7 ?_)|refine n1 ?_|refine n10 ?_|refine n11 ?_)|(refine c9 (fun h=>?_) (fun h=>?_)<;>((try simp only [Bool.or_eq_true, Bool.and_eq_true, Bool.or_eq_false_iff, Bool.and_eq_false_iff, Bool.not_eq_true', Bool.not_eq_false', decide_eq_true_eq, decide_eq_false_iff_not, Bool.false_eq_true, Bool.true_eq_false, reduceCtorEq] at h) <;> (try simp (disch := omega) only [sb_bt, w64, Int.reduceAdd, Int.reduceToNat, Int.toNat_natCast, not_true_eq_false, false_or] at h) <;> (try (exfalso; omega)))))
              refine gives (by repeat' (first | exact St.le_refl _ | refine St.le_any ?_)) (fin_one (.wk (Wk.of_eq ?_)))
              unfold actT
              dsimp only
              rw [if_neg q0, if_neg q1, if_neg q2, if_neg q3, if_neg q4, if_pos q5]
              rfl
            · repeat' (first|(first|(refine jl ?_;first|refine j1 ?_|refine j4 ?_|refine j12 (fun id hid=>?_)|refine j14 ?_)|(refine jc ?_;first|refine c1 ?_|refine c2 ?_|refine c5 ?_|refine c7 ?_)|refine n2 ?_|refine n6 ?_|refine n11 ?_)|(refine c9 (fun h=>?_) (fun h=>?_)<;>((try simp only [Bool.or_eq_true, Bool.and_eq_true, Bool.or_eq_false_iff, Bool.and_eq_false_iff, Bool.not_eq_true', Bool.not_eq_false', decide_eq_true_eq, decide_eq_false_iff_not, Bool.false_eq_true, Bool.true_eq_false, reduceCtorEq] at h) <;> (try simp (disch := omega) only [sb_bt, w64, Int.reduceAdd, Int.reduceToNat, Int.toNat_natCast, not_true_eq_false, false_or] at h) <;> (try (exfalso; omega)))))
              refine gives (by repeat' (first | exact St.le_refl _ | refine St.le_any ?_)) (fin_one (.wk (Wk.of_eq ?_)))
              unfold actT
              dsimp only
              rw [if_neg q0, if_neg q1, if_neg q2, if_neg q3, if_neg q4, if_neg q5]
end Go.Proofs.YtfaaokekgljnbaaDoor.Ab

/- Texts of rules and programs: the reference. -/
set_option linter.unusedVariables false
set_option linter.unusedSimpArgs false
set_option maxRecDepth 20000
namespace Go.Proofs.YtfaaokekgljnbaaDoor.Ab
open Go
attribute [local irreducible] thn inb endR CJ LJ OpJ DJ DA DB AllocK
set_option maxHeartbeats 1000000 in
theorem p_rrule (r : Rul) (h : ltR r) (hp : plR r) : Pure Tryd.prog 24 [.agg (ruc r)] (.v (.string (ruleT r))) := by
  refine enterW Tryd.func24 rfl rfl rfl rfl (fun σ => ?_)
  obtain ⟨rn, rc, ra⟩ := r
  obtain ⟨h1, h2, h3, h4, h5⟩ := h
  dsimp only at h1 h2 h3 h4 h5
  have z1 := eachB_size condT 10200 rc (fun x hx => condT_sz (h4 x hx))
  have z2 := eachB_size actT 60000 ra (fun x hx => actT_sz (h5 x hx))
  have hl1 : (rc.map dc).length = rc.length := List.length_map ..
  have hl2 : (ra.map anc).length = ra.length := List.length_map ..
  have y1 : ((⟨#[40, 112, 32]⟩ : ByteArray) ++ rn).size = rn.size + 3 := by rw [ByteArray.size_append, b3z]; omega
  have y2 : ((⟨#[40, 112, 32]⟩ : ByteArray) ++ rn ++ eachB condT rc ++ (⟨#[32, 45, 45, 62]⟩ : ByteArray)).size = rn.size + 7 + (eachB condT rc).size := by simp only [ByteArray.size_append, b3z, show (⟨#[32, 45, 45, 62]⟩ : ByteArray).size = 4 from rfl]; omega
  repeat' (first|(first|(refine jl ?_;first|refine j1 ?_|refine j4 ?_|refine j12 (fun id hid=>?_)|refine j14 ?_|refine j25 ?_)|(refine jc ?_;first|refine c1 ?_|refine c2 ?_|refine c5 ?_)))
  refine cj_for (fun s : Nat × ByteArray => s.1 ≤ rc.length ∧ s.2 ++ eachB condT (rc.drop s.1) = ((⟨#[40, 112, 32]⟩ : ByteArray) ++ rn) ++ eachB condT rc) (fun s => [(4, .v (.int .i64 s.1)), (3, .v (.string s.2))]) (fun _ => _) (fun s => rc.length - s.1) (0, ((⟨#[40, 112, 32]⟩ : ByteArray) ++ rn)) ⟨Nat.zero_le _, rfl⟩ ⟨⟨_, rfl, fun _ _ h => h⟩, ⟨_, rfl, fun _ _ h => h⟩, trivial⟩ (St.le_refl _) (fun s hs => ?_)
  obtain ⟨i, acc⟩ := s
  obtain ⟨hi, hs⟩ := hs
  dsimp only at hi hs ⊢
  rcases hd : rc.drop i with _ | ⟨x, r⟩
  · have h0 := dropn hd
    rw [hd, eachB, app_nil] at hs
    have hsz := congrArg ByteArray.size hs
    rw [ByteArray.size_append] at hsz
    subst hs
    repeat' (first|(first|(refine jl ?_;first|refine j1 ?_|refine j4 ?_|refine j14 ?_|refine j25 ?_)|(refine jc ?_;first|refine c1 ?_|refine c2 ?_|refine c5 ?_|refine c8 ?_)|refine n1 ?_|refine n3 ?_|refine n7 ?_|refine n8 ?_)|(refine c9 (fun h=>?_) (fun h=>?_)<;>((try simp only [Bool.or_eq_true, Bool.and_eq_true, Bool.or_eq_false_iff, Bool.and_eq_false_iff, Bool.not_eq_true', Bool.not_eq_false', decide_eq_true_eq, decide_eq_false_iff_not, Bool.false_eq_true, Bool.true_eq_false, reduceCtorEq] at h) <;> (try simp (disch := omega) only [sb_bt, w64, Int.reduceAdd, Int.reduceToNat, Int.toNat_natCast, not_true_eq_false, false_or] at h) <;> (try (exfalso; omega)))))
    refine cj_for (fun s : Nat × ByteArray => s.1 ≤ ra.length ∧ s.2 ++ eachB actT (ra.drop s.1) = ((⟨#[40, 112, 32]⟩ : ByteArray) ++ rn ++ eachB condT rc ++ (⟨#[32, 45, 45, 62]⟩ : ByteArray)) ++ eachB actT ra) (fun s => [(5, .v (.int .i64 s.1)), (3, .v (.string s.2))]) (fun _ => _) (fun s => ra.length - s.1) (0, ((⟨#[40, 112, 32]⟩ : ByteArray) ++ rn ++ eachB condT rc ++ (⟨#[32, 45, 45, 62]⟩ : ByteArray))) ⟨Nat.zero_le _, rfl⟩ ⟨⟨_, rfl, fun _ _ h => h⟩, ⟨_, rfl, fun _ _ h => h⟩, trivial⟩ (St.le_refl _) (fun s hs => ?_)
    obtain ⟨i, acc⟩ := s
    obtain ⟨hi, hs⟩ := hs
    dsimp only at hi hs ⊢
    rcases hd : ra.drop i with _ | ⟨x, r⟩
    · have h0 := dropn hd
      rw [hd, eachB, app_nil] at hs
      have hsz := congrArg ByteArray.size hs
      rw [ByteArray.size_append] at hsz
      subst hs
      repeat' (first|(first|(refine jl ?_;first|refine j1 ?_|refine j4 ?_|refine j14 ?_|refine j25 ?_)|(refine jc ?_;first|refine c1 ?_|refine c2 ?_|refine c7 ?_|refine c8 ?_)|refine n1 ?_|refine n3 ?_|refine n7 ?_|refine n8 ?_|refine n11 ?_)|(refine c9 (fun h=>?_) (fun h=>?_)<;>((try simp only [Bool.or_eq_true, Bool.and_eq_true, Bool.or_eq_false_iff, Bool.and_eq_false_iff, Bool.not_eq_true', Bool.not_eq_false', decide_eq_true_eq, decide_eq_false_iff_not, Bool.false_eq_true, Bool.true_eq_false, reduceCtorEq] at h) <;> (try simp (disch := omega) only [sb_bt, w64, Int.reduceAdd, Int.reduceToNat, Int.toNat_natCast, not_true_eq_false, false_or] at h) <;> (try (exfalso; omega)))))
      exact gives (by repeat' (first | exact St.le_refl _ | refine St.le_any ?_)) (Fin.refl _ _ _)
    · obtain ⟨g1, g2, g3⟩ := dropc hd
      have g4 := get_map anc g3
      rw [hd] at hs
      have hsz := each_size hs
      have hm := List.mem_of_getElem? g3
      have k1 := p_ract x (h5 x hm) (hp x hm)
      repeat' (first|(first|(refine jl ?_;first|refine jbl ?_|refine j1 ?_|refine j4 ?_|refine j6 ?_|refine j14 ?_|refine j25 ?_|refine ji1 ?_|refine jp (k1) ?_)|(refine jc ?_;first|refine c1 ?_|refine c2 ?_|refine c5 ?_|refine c6 ?_)|refine n1 ?_|refine n10 ?_)|(refine c9 (fun h=>?_) (fun h=>?_)<;>((try simp only [Bool.or_eq_true, Bool.and_eq_true, Bool.or_eq_false_iff, Bool.and_eq_false_iff, Bool.not_eq_true', Bool.not_eq_false', decide_eq_true_eq, decide_eq_false_iff_not, Bool.false_eq_true, Bool.true_eq_false, reduceCtorEq] at h) <;> (try simp (disch := omega) only [sb_bt, w64, Int.reduceAdd, Int.reduceToNat, Int.toNat_natCast, not_true_eq_false, false_or] at h) <;> (try (exfalso; omega)))))
      exact nx_forS (i + 1, acc ++ (⟨#[32]⟩ : ByteArray) ++ actT x) ⟨by dsimp only; omega, by dsimp only; rw [g2]; exact each_step hs⟩ (by dsimp only; omega) ⟨⟨_, rfl, wk1 (by omega)⟩, ⟨_, rfl, Wk.refl _⟩, trivial⟩ (St.le_refl _)
  · obtain ⟨g1, g2, g3⟩ := dropc hd
    have g4 := get_map dc g3
    rw [hd] at hs
    have hsz := each_size hs
    have hm := List.mem_of_getElem? g3
    have k1 := p_rcond x (h4 x hm)
    repeat' (first|(first|(refine jl ?_;first|refine jbl ?_|refine j1 ?_|refine j4 ?_|refine j6 ?_|refine j14 ?_|refine j25 ?_|refine ji1 ?_|refine jp (k1) ?_)|(refine jc ?_;first|refine c1 ?_|refine c2 ?_|refine c5 ?_|refine c6 ?_)|refine n1 ?_|refine n10 ?_)|(refine c9 (fun h=>?_) (fun h=>?_)<;>((try simp only [Bool.or_eq_true, Bool.and_eq_true, Bool.or_eq_false_iff, Bool.and_eq_false_iff, Bool.not_eq_true', Bool.not_eq_false', decide_eq_true_eq, decide_eq_false_iff_not, Bool.false_eq_true, Bool.true_eq_false, reduceCtorEq] at h) <;> (try simp (disch := omega) only [sb_bt, w64, Int.reduceAdd, Int.reduceToNat, Int.toNat_natCast, not_true_eq_false, false_or] at h) <;> (try (exfalso; omega)))))
    exact nx_forS (i + 1, acc ++ (⟨#[32]⟩ : ByteArray) ++ condT x) ⟨by dsimp only; omega, by dsimp only; rw [g2]; exact each_step hs⟩ (by dsimp only; omega) ⟨⟨_, rfl, wk1 (by omega)⟩, ⟨_, rfl, Wk.refl _⟩, trivial⟩ (St.le_refl _)
/-! ### Programs -/
def idT (s : ByteArray) : ByteArray := s
def sLit : ByteArray := ⟨#[40, 108, 105, 116, 101, 114, 97, 108, 105, 122, 101, 32]⟩
def classT (c : Cls) : ByteArray := sLit ++ c.name ++ eachB idT c.attrs ++ ⟨#[41, 10]⟩
def ruleN (r : Rul) : ByteArray := ruleT r ++ ⟨#[10]⟩
def catB {α : Type} (tx : α → ByteArray) : List α → ByteArray
  | [] => ⟨#[]⟩
  | x :: l => tx x ++ catB tx l
def progT (p : Prg) : ByteArray := catB classT p.classes ++ catB ruleN p.rules
theorem catB_app {α : Type} (tx : α → ByteArray) : ∀ (a b : List α), catB tx (a ++ b) = catB tx a ++ catB tx b
  | [], b => (nil_app _).symm
  | x :: a, b => by rw [List.cons_append, catB, catB, catB_app tx a b, ByteArray.append_assoc]
theorem catB_size {α : Type} (tx : α → ByteArray) (m : Nat) : ∀ (l : List α), (∀ x ∈ l, (tx x).size ≤ m) → (catB tx l).size ≤ l.length * m
  | [], _ => Nat.zero_le _
  | x :: l, h => by
    have h1 := h x (List.mem_cons_self ..)
    have h2 := catB_size tx m l (fun y hy => h y (List.mem_cons_of_mem _ hy))
    rw [catB, ByteArray.size_append, List.length_cons, Nat.succ_mul]
    omega
theorem cat_size {α : Type} {tx : α → ByteArray} {acc hd : ByteArray} {x : α} {r l : List α} (h : acc ++ catB tx (x :: r) = hd ++ catB tx l) : acc.size + (tx x).size ≤ hd.size + (catB tx l).size := by
  have := congrArg ByteArray.size h
  rw [catB] at this
  simp only [ByteArray.size_append] at this
  omega
theorem cat_step {α : Type} {tx : α → ByteArray} {acc hd : ByteArray} {x : α} {r l : List α} (h : acc ++ catB tx (x :: r) = hd ++ catB tx l) : acc ++ tx x ++ catB tx r = hd ++ catB tx l := by
  rw [← h, catB, ByteArray.append_assoc]
def ltL (c : Cls) : Prop := c.name.size ≤ 60 ∧ c.attrs.length ≤ 10 ∧ ∀ a ∈ c.attrs, a.size ≤ 60
def ltP (p : Prg) : Prop := p.classes.length ≤ 20 ∧ p.rules.length ≤ 6 ∧ (∀ c ∈ p.classes, ltL c) ∧ (∀ r ∈ p.rules, ltR r)
def plP (p : Prg) : Prop := ∀ r ∈ p.rules, plR r
theorem classT_sz {c : Cls} (h : ltL c) : (classT c).size ≤ 1000 ∧ 0 < (classT c).size := by
  obtain ⟨h1, h2, h3⟩ := h
  have z1 := eachB_size idT 60 c.attrs (fun x hx => h3 x hx)
  unfold classT
  simp only [ByteArray.size_append, b2z, show sLit.size = 12 from rfl]
  omega
theorem ruleN_sz {r : Rul} (h : ltR r) : (ruleN r).size ≤ 1000001 ∧ 0 < (ruleN r).size := by
  have := ruleT_sz h
  unfold ruleN
  simp only [ByteArray.size_append, b1z]
  omega
set_option maxHeartbeats 2000000 in
theorem p_rtextP (p : Prg) (h : ltP p) (hp : plP p) : Pure Tryd.prog 32 [.agg (pgc p)] (.v (.string (progT p))) := by
  refine enterW Tryd.func32 rfl rfl rfl rfl (fun σ => ?_)
  obtain ⟨pc, pr⟩ := p
  obtain ⟨h1, h2, h3, h4⟩ := h
  dsimp only at h1 h2 h3 h4
  have z1 := catB_size classT 1000 pc (fun x hx => (classT_sz (h3 x hx)).1)
  have z2 := catB_size ruleN 1000001 pr (fun x hx => (ruleN_sz (h4 x hx)).1)
  have hl1 : (pc.map cc).length = pc.length := List.length_map ..
  have hl2 : (pr.map ruc).length = pr.length := List.length_map ..
  repeat' (first|(first|(refine jl ?_;first|refine j1 ?_|refine j4 ?_|refine j12 (fun id hid=>?_))|(refine jc ?_;first|refine c1 ?_|refine c2 ?_|refine c5 ?_)))
  refine cj_for (fun s : Nat × ByteArray => s.1 ≤ pc.length ∧ s.2 ++ catB classT (pc.drop s.1) = (⟨#[]⟩ : ByteArray) ++ catB classT pc) (fun s => [(4, .v (.int .i64 s.1)), (3, .v (.string s.2))]) (fun _ => _) (fun s => pc.length - s.1) (0, ⟨#[]⟩) ⟨Nat.zero_le _, rfl⟩ ⟨⟨_, rfl, fun _ _ h => h⟩, ⟨_, rfl, fun _ _ h => h⟩, trivial⟩ (St.le_refl _) (fun s hs => ?_)
  obtain ⟨i, acc⟩ := s
  obtain ⟨hi, hs⟩ := hs
  dsimp only at hi hs ⊢
  rcases hd : pc.drop i with _ | ⟨x, r⟩
  · have h0 := dropn hd
    rw [hd, catB, app_nil, nil_app] at hs
    subst hs
    repeat' (first|(first|(refine jl ?_;first|refine j1 ?_|refine j4 ?_|refine j14 ?_)|(refine jc ?_;first|refine c1 ?_|refine c2 ?_|refine c5 ?_|refine c8 ?_)|refine n1 ?_|refine n3 ?_|refine n7 ?_|refine n8 ?_)|(refine c9 (fun h=>?_) (fun h=>?_)<;>((try simp only [Bool.or_eq_true, Bool.and_eq_true, Bool.or_eq_false_iff, Bool.and_eq_false_iff, Bool.not_eq_true', Bool.not_eq_false', decide_eq_true_eq, decide_eq_false_iff_not, Bool.false_eq_true, Bool.true_eq_false, reduceCtorEq] at h) <;> (try simp (disch := omega) only [sb_bt, w64, Int.reduceAdd, Int.reduceToNat, Int.toNat_natCast, not_true_eq_false, false_or] at h) <;> (try (exfalso; omega)))))
    refine cj_for (fun s : Nat × ByteArray => s.1 ≤ pr.length ∧ s.2 ++ catB ruleN (pr.drop s.1) = catB classT pc ++ catB ruleN pr) (fun s => [(6, .v (.int .i64 s.1)), (3, .v (.string s.2))]) (fun _ => _) (fun s => pr.length - s.1) (0, catB classT pc) ⟨Nat.zero_le _, rfl⟩ ⟨⟨_, rfl, fun _ _ h => h⟩, ⟨_, rfl, fun _ _ h => h⟩, trivial⟩ (St.le_refl _) (fun s hs => ?_)
    obtain ⟨i, acc⟩ := s
    obtain ⟨hi, hs⟩ := hs
    dsimp only at hi hs ⊢
    rcases hd : pr.drop i with _ | ⟨x, r⟩
    · have h0 := dropn hd
      rw [hd, catB, app_nil] at hs
      subst hs
      repeat' (first|(first|(refine jl ?_;first|refine j1 ?_|refine j4 ?_|refine j14 ?_)|(refine jc ?_;first|refine c1 ?_|refine c2 ?_|refine c7 ?_|refine c8 ?_)|refine n1 ?_|refine n3 ?_|refine n7 ?_|refine n8 ?_|refine n11 ?_)|(refine c9 (fun h=>?_) (fun h=>?_)<;>((try simp only [Bool.or_eq_true, Bool.and_eq_true, Bool.or_eq_false_iff, Bool.and_eq_false_iff, Bool.not_eq_true', Bool.not_eq_false', decide_eq_true_eq, decide_eq_false_iff_not, Bool.false_eq_true, Bool.true_eq_false, reduceCtorEq] at h) <;> (try simp (disch := omega) only [sb_bt, w64, Int.reduceAdd, Int.reduceToNat, Int.toNat_natCast, not_true_eq_false, false_or] at h) <;> (try (exfalso; omega)))))
      exact gives (by repeat' (first | exact St.le_refl _ | refine St.le_any ?_)) (Fin.refl _ _ _)
    · obtain ⟨g1, g2, g3⟩ := dropc hd
      have g4 := get_map ruc g3
      rw [hd] at hs
      have hsz := cat_size hs
      have hm := List.mem_of_getElem? g3
      have zr := ruleT_sz (h4 x hm)
      have k1 := p_rrule x (h4 x hm) (hp x hm)
      repeat' (first|(first|(refine jl ?_;first|refine jbl ?_|refine j1 ?_|refine j4 ?_|refine j6 ?_|refine j14 ?_|refine j25 ?_|refine ji1 ?_|refine jp (k1) ?_)|(refine jc ?_;first|refine c1 ?_|refine c2 ?_|refine c5 ?_|refine c6 ?_)|refine n1 ?_|refine n10 ?_)|(refine c9 (fun h=>?_) (fun h=>?_)<;>((try simp only [Bool.or_eq_true, Bool.and_eq_true, Bool.or_eq_false_iff, Bool.and_eq_false_iff, Bool.not_eq_true', Bool.not_eq_false', decide_eq_true_eq, decide_eq_false_iff_not, Bool.false_eq_true, Bool.true_eq_false, reduceCtorEq] at h) <;> (try simp (disch := omega) only [sb_bt, w64, Int.reduceAdd, Int.reduceToNat, Int.toNat_natCast, not_true_eq_false, false_or] at h) <;> (try (exfalso; omega)))))
      exact nx_forS (i + 1, acc ++ ruleT x ++ (⟨#[10]⟩ : ByteArray)) ⟨by dsimp only; omega, by dsimp only; rw [g2, ← cat_step hs, ruleN]; simp only [ByteArray.append_assoc]⟩ (by dsimp only; omega) ⟨⟨_, rfl, wk1 (by omega)⟩, ⟨_, rfl, Wk.refl _⟩, trivial⟩ (St.le_refl _)
  · obtain ⟨g1, g2, g3⟩ := dropc hd
    have g4 := get_map cc g3
    rw [hd] at hs
    have hsz := cat_size hs
    have hm := List.mem_of_getElem? g3
    obtain ⟨hx1, hx2, hx3⟩ := h3 x hm
    have hls : sLit.size = 12 := rfl
    have zx := (classT_sz (h3 x hm)).1
    have zy : (classT x).size = x.name.size + 14 + (eachB idT x.attrs).size := by unfold classT; simp only [ByteArray.size_append, b2z, hls]; omega
    have hlx : (x.attrs.map str1).length = x.attrs.length := List.length_map ..
    have zb : (acc ++ sLit ++ x.name).size = acc.size + 12 + x.name.size := by simp only [ByteArray.size_append, hls]
    repeat' (first|(first|(refine jl ?_;first|refine jbl ?_|refine j1 ?_|refine j4 ?_|refine j14 ?_|refine j25 ?_|refine ji1 ?_)|(refine jc ?_;first|refine c1 ?_|refine c2 ?_|refine c5 ?_|refine c6 ?_)|refine n1 ?_)|(refine c9 (fun h=>?_) (fun h=>?_)<;>((try simp only [Bool.or_eq_true, Bool.and_eq_true, Bool.or_eq_false_iff, Bool.and_eq_false_iff, Bool.not_eq_true', Bool.not_eq_false', decide_eq_true_eq, decide_eq_false_iff_not, Bool.false_eq_true, Bool.true_eq_false, reduceCtorEq] at h) <;> (try simp (disch := omega) only [sb_bt, w64, Int.reduceAdd, Int.reduceToNat, Int.toNat_natCast, not_true_eq_false, false_or] at h) <;> (try (exfalso; omega)))))
    refine cj_for (fun s : Nat × ByteArray => s.1 ≤ x.attrs.length ∧ s.2 ++ eachB idT (x.attrs.drop s.1) = (acc ++ sLit ++ x.name) ++ eachB idT x.attrs) (fun s => [(5, .v (.int .i64 s.1)), (3, .v (.string s.2))]) (fun _ => _) (fun s => x.attrs.length - s.1) (0, acc ++ sLit ++ x.name) ⟨Nat.zero_le _, rfl⟩ ⟨⟨_, rfl, fun _ _ h => h⟩, ⟨_, rfl, fun _ _ h => h⟩, trivial⟩ (St.le_refl _) (fun s hs2 => ?_)
    obtain ⟨j, acc2⟩ := s
    obtain ⟨hj, hs2⟩ := hs2
    dsimp only at hj hs2 ⊢
    rcases hd2 : x.attrs.drop j with _ | ⟨y, r2⟩
    · have h0 := dropn hd2
      rw [hd2, eachB, app_nil] at hs2
      subst hs2
      repeat' (first|(first|(refine jl ?_;first|refine jbl ?_|refine j1 ?_|refine j4 ?_|refine j6 ?_|refine j14 ?_|refine j25 ?_|refine ji1 ?_)|(refine jc ?_;first|refine c1 ?_|refine c2 ?_|refine c8 ?_)|refine n1 ?_|refine n3 ?_|refine n7 ?_|refine n8 ?_|refine n10 ?_)|(refine c9 (fun h=>?_) (fun h=>?_)<;>((try simp only [Bool.or_eq_true, Bool.and_eq_true, Bool.or_eq_false_iff, Bool.and_eq_false_iff, Bool.not_eq_true', Bool.not_eq_false', decide_eq_true_eq, decide_eq_false_iff_not, Bool.false_eq_true, Bool.true_eq_false, reduceCtorEq] at h) <;> (try simp (disch := omega) only [sb_bt, w64, Int.reduceAdd, Int.reduceToNat, Int.toNat_natCast, not_true_eq_false, false_or] at h) <;> (try (exfalso; omega)))))
      exact nx_forS (i + 1, acc ++ sLit ++ x.name ++ eachB idT x.attrs ++ (⟨#[41, 10]⟩ : ByteArray)) ⟨by dsimp only; omega, by dsimp only; rw [g2, ← cat_step hs, classT]; simp only [ByteArray.append_assoc]⟩ (by dsimp only; omega) ⟨⟨_, rfl, wk1 (by omega)⟩, ⟨_, rfl, Wk.refl _⟩, trivial⟩ (St.le_refl _)
    · obtain ⟨f1, f2, f3⟩ := dropc hd2
      have f4 := get_map str1 f3
      rw [hd2] at hs2
      have hsz2 := each_size hs2
      have hy : (idT y).size = y.size := rfl
      repeat' (first|(first|(refine jl ?_;first|refine jbl ?_|refine j1 ?_|refine j4 ?_|refine j6 ?_|refine j14 ?_|refine j25 ?_|refine ji1 ?_)|(refine jc ?_;first|refine c1 ?_|refine c2 ?_|refine c5 ?_|refine c6 ?_)|refine n1 ?_|refine n10 ?_)|(refine c9 (fun h=>?_) (fun h=>?_)<;>((try simp only [Bool.or_eq_true, Bool.and_eq_true, Bool.or_eq_false_iff, Bool.and_eq_false_iff, Bool.not_eq_true', Bool.not_eq_false', decide_eq_true_eq, decide_eq_false_iff_not, Bool.false_eq_true, Bool.true_eq_false, reduceCtorEq] at h) <;> (try simp (disch := omega) only [sb_bt, w64, Int.reduceAdd, Int.reduceToNat, Int.toNat_natCast, not_true_eq_false, false_or] at h) <;> (try (exfalso; omega)))))
      exact nx_forS (j + 1, acc2 ++ (⟨#[32]⟩ : ByteArray) ++ idT y) ⟨by dsimp only; omega, by dsimp only; rw [f2]; exact each_step hs2⟩ (by dsimp only; omega) ⟨⟨_, rfl, wk1 (by omega)⟩, ⟨_, rfl, Wk.refl _⟩, trivial⟩ (St.le_refl _)
end Go.Proofs.YtfaaokekgljnbaaDoor.Ab

/- Programs' texts: the program's own. -/
set_option linter.unusedVariables false
set_option linter.unusedSimpArgs false
set_option maxRecDepth 20000
namespace Go.Proofs.YtfaaokekgljnbaaDoor.Ab
open Go
attribute [local irreducible] thn inb endR CJ LJ OpJ DJ DA DB AllocK
theorem p_idT (s : ByteArray) : Pure Tryd.prog 63 [.v (.string s)] (.v (.string (idT s))) := by
  refine enterW Tryd.func63 rfl rfl rfl rfl (fun σ => ?_)
  repeat' (first|(first|(refine jl ?_;first|refine j1 ?_|refine j4 ?_)|(refine jc ?_;first|refine c1 ?_|refine c2 ?_|refine c7 ?_)|refine n11 ?_))
  exact gives (St.le_refl _) (Fin.refl _ _ _)
set_option maxHeartbeats 2000000 in
theorem p_textP (p : Prg) (h : ltP p) (hw : ∀ r ∈ p.rules, wfR r) (hp : plP p) : Pure Tryd.prog 31 [.agg (pgc p)] (.v (.string (progT p))) := by
  refine enterW Tryd.func31 rfl rfl rfl rfl (fun σ => ?_)
  obtain ⟨pc, pr⟩ := p
  obtain ⟨h1, h2, h3, h4⟩ := h
  dsimp only at h1 h2 h3 h4 hw
  have z1 := catB_size classT 1000 pc (fun x hx => (classT_sz (h3 x hx)).1)
  have z2 := catB_size ruleN 1000001 pr (fun x hx => (ruleN_sz (h4 x hx)).1)
  have hl1 : (pc.map cc).length = pc.length := List.length_map ..
  have hl2 : (pr.map ruc).length = pr.length := List.length_map ..
  by_cases h0 : pc = [] ∧ pr = []
  · obtain ⟨rfl, rfl⟩ := h0
    have hn1 : ([] : List Cls).length = 0 := rfl
    have hn2 : ([] : List Rul).length = 0 := rfl
    repeat (first|(refine jl ?_;first|refine j1 ?_|refine j4 ?_|refine j12 (fun id hid=>?_)|refine j13 (fun id hid=>?_)|refine j14 ?_)|(refine jc ?_;first|refine c1 ?_|refine c2 ?_|refine c5 ?_))
    refine cj_for (fun i : Nat => i = 0) (fun i => [(11, .v (.int .i64 i))]) (fun _ => _) (fun i => 0) 0 rfl ⟨⟨_, rfl, fun _ _ h => h⟩, trivial⟩ (St.le_refl _) (fun i hi => ?_)
    subst hi
    repeat' (first|(first|(refine jl ?_;first|refine j1 ?_|refine j4 ?_|refine j14 ?_)|(refine jc ?_;first|refine c1 ?_|refine c2 ?_|refine c5 ?_|refine c8 ?_)|refine n1 ?_|refine n3 ?_|refine n7 ?_|refine n8 ?_)|(refine c9 (fun h=>?_) (fun h=>?_)<;>((try simp only [Bool.or_eq_true, Bool.and_eq_true, Bool.or_eq_false_iff, Bool.and_eq_false_iff, Bool.not_eq_true', Bool.not_eq_false', decide_eq_true_eq, decide_eq_false_iff_not, Bool.false_eq_true, Bool.true_eq_false, reduceCtorEq] at h) <;> (try simp (disch := omega) only [sb_bt, w64, Int.reduceAdd, Int.reduceToNat, Int.toNat_natCast, not_true_eq_false, false_or] at h) <;> (try (exfalso; omega)))))
    refine cj_for (fun i : Nat => i = 0) (fun i => [(28, .v (.int .i64 i))]) (fun _ => _) (fun i => 0) 0 rfl ⟨⟨_, rfl, fun _ _ h => h⟩, trivial⟩ (St.le_refl _) (fun i hi => ?_)
    subst hi
    repeat' (first|(first|(refine jl ?_;first|refine j1 ?_|refine j4 ?_|refine lj_to rfl rfl rfl (q_bstr0 (St.set_same _ _ _)) ?_)|(refine jc ?_;first|refine c1 ?_|refine c2 ?_|refine c7 ?_|refine c8 ?_)|refine n1 ?_|refine n3 ?_|refine n7 ?_|refine n8 ?_|refine n11 ?_)|(refine c9 (fun h=>?_) (fun h=>?_)<;>((try simp only [Bool.or_eq_true, Bool.and_eq_true, Bool.or_eq_false_iff, Bool.and_eq_false_iff, Bool.not_eq_true', Bool.not_eq_false', decide_eq_true_eq, decide_eq_false_iff_not, Bool.false_eq_true, Bool.true_eq_false, reduceCtorEq] at h) <;> (try simp (disch := omega) only [sb_bt, w64, Int.reduceAdd, Int.reduceToNat, Int.toNat_natCast, not_true_eq_false, false_or] at h) <;> (try (exfalso; omega)))))
    exact gives (by repeat' (first | exact St.le_refl _ | refine St.le_any ?_)) (Fin.refl _ _ _)
  · repeat (first|(refine jl ?_;first|refine j1 ?_|refine j4 ?_|refine j12 (fun id hid=>?_)|refine j13 (fun id hid=>?_)|refine j14 ?_)|(refine jc ?_;first|refine c1 ?_|refine c2 ?_|refine c5 ?_))
    first | refine cj_id 1 (fun b0 e => ?_) | refine lj_id 1 (fun b0 e => ?_)
    subst e
    first | refine cj_id 3 (fun b e => ?_) | refine lj_id 3 (fun b e => ?_)
    subst e
    refine cj_bld 3 (fun τ w σ1 hb hw0 hle hk hbase hB => ?_)
    have t0 : τ b0 = some (.row 2 43 [pgc ⟨pc, pr⟩]) := hk _ _ (by first | assumption | exact St.nn0 (by assumption) | exact St.nn1 (by assumption) | exact St.nn2 (by assumption) | exact St.nn3 (by assumption) | exact St.nn4 (by assumption) | exact St.nn5 (by assumption) | exact St.nn6 (by assumption) | exact St.nn7 (by assumption) | exact St.nn8 (by assumption) | exact St.nn9 (by assumption) | exact St.nn10 (by assumption) | exact St.nn11 (by assumption) | exact St.nn12 (by assumption) | exact St.nn13 (by assumption) | exact Ne.symm (St.nn0 (by assumption)) | exact Ne.symm (St.nn1 (by assumption)) | exact Ne.symm (St.nn2 (by assumption)) | exact Ne.symm (St.nn3 (by assumption)) | exact Ne.symm (St.nn4 (by assumption)) | exact Ne.symm (St.nn5 (by assumption)) | exact Ne.symm (St.nn6 (by assumption)) | exact Ne.symm (St.nn7 (by assumption)) | exact Ne.symm (St.nn8 (by assumption)) | exact Ne.symm (St.nn9 (by assumption)) | exact Ne.symm (St.nn10 (by assumption)) | exact Ne.symm (St.nn11 (by assumption)) | exact Ne.symm (St.nn12 (by assumption)) | exact Ne.symm (St.nn13 (by assumption))) lkp
    have hστ : σ.le τ := hbase σ (by first | assumption | exact St.ns1 (by assumption) | exact St.ns2 (by assumption) | exact St.ns3 (by assumption) | exact St.ns4 (by assumption) | exact St.ns5 (by assumption) | exact St.ns6 (by assumption) | exact St.ns7 (by assumption) | exact St.ns8 (by assumption) | exact St.ns9 (by assumption) | exact St.ns10 (by assumption) | exact St.ns11 (by assumption) | exact St.ns12 (by assumption) | exact St.ns13 (by assumption) | exact St.ns14 (by assumption) | exact St.ns10 (by assumption) | exact St.ns11 (by assumption) | exact St.ns12 (by assumption) | exact St.ns13 (by assumption) | exact St.ns14 (by assumption)) (by repeat' (first | exact St.le_refl _ | refine St.le_any ?_))
    refine cj_for (fun s : Nat × ByteArray × Nat × Bool => (s.1 ≤ pc.length ∧ s.2.1 ++ catB classT (pc.drop s.1) = (⟨#[]⟩ : ByteArray) ++ catB classT pc) ∧ τ s.2.2.1 = none ∧ s.2.2.1 ≠ b) (fun s => [(11, .v (.int .i64 s.1))]) (fun s => bldS τ b s.2.2.1 s.2.1 s.2.2.2) (fun s => pc.length - s.1) (0, noB, w, false) ⟨⟨Nat.zero_le _, rfl⟩, hw0, hB.2.2⟩ ⟨⟨_, rfl, fun _ _ h => h⟩, trivial⟩ (bldS_le hle hB) (fun s hs => ?_)
    clear hle hB hw0 w
    obtain ⟨i, acc, w, u⟩ := s
    obtain ⟨⟨hi, hs⟩, hw0, hne⟩ := hs
    dsimp only at hi hs hw0 hne ⊢
    refine cj_name (fun σ3 hσ3 => ?_)
    have hB : Bld σ3 b w acc.data.toList u := hσ3 ▸ bldS_bld hne
    have hle : τ.le σ3 := hσ3 ▸ bldS_keep hb hw0
    clear hσ3
    have t2 := hle _ _ t0
    rcases hd : pc.drop i with _ | ⟨x, r⟩
    · have hi0 := dropn hd
      rw [hd, catB, app_nil, nil_app] at hs
      subst hs
      repeat' (first|(first|(refine jl ?_;first|refine j1 ?_|refine j4 ?_|refine j14 ?_)|(refine jc ?_;first|refine c1 ?_|refine c2 ?_|refine c5 ?_|refine c8 ?_)|refine n1 ?_|refine n3 ?_|refine n7 ?_|refine n8 ?_)|(refine c9 (fun h=>?_) (fun h=>?_)<;>((try simp only [Bool.or_eq_true, Bool.and_eq_true, Bool.or_eq_false_iff, Bool.and_eq_false_iff, Bool.not_eq_true', Bool.not_eq_false', decide_eq_true_eq, decide_eq_false_iff_not, Bool.false_eq_true, Bool.true_eq_false, reduceCtorEq] at h) <;> (try simp (disch := omega) only [sb_bt, w64, Int.reduceAdd, Int.reduceToNat, Int.toNat_natCast, not_true_eq_false, false_or] at h) <;> (try (exfalso; omega)))))
      refine cj_for (fun s : Nat × ByteArray × Nat × Bool => (s.1 ≤ pr.length ∧ s.2.1 ++ catB ruleN (pr.drop s.1) = catB classT pc ++ catB ruleN pr) ∧ τ s.2.2.1 = none ∧ s.2.2.1 ≠ b) (fun s => [(28, .v (.int .i64 s.1))]) (fun s => bldS τ b s.2.2.1 s.2.1 s.2.2.2) (fun s => pr.length - s.1) (0, catB classT pc, w, u) ⟨⟨Nat.zero_le _, rfl⟩, hw0, hB.2.2⟩ ⟨⟨_, rfl, fun _ _ h => h⟩, trivial⟩ (bldS_le hle hB) (fun s hs => ?_)
      clear hle hB hw0 w t2 hne
      obtain ⟨i, acc, w, u⟩ := s
      obtain ⟨⟨hi, hs⟩, hw0, hne⟩ := hs
      dsimp only at hi hs hw0 hne ⊢
      refine cj_name (fun σ3 hσ3 => ?_)
      have hB : Bld σ3 b w acc.data.toList u := hσ3 ▸ bldS_bld hne
      have hle : τ.le σ3 := hσ3 ▸ bldS_keep hb hw0
      clear hσ3
      have t2 := hle _ _ t0
      rcases hd : pr.drop i with _ | ⟨x, r⟩
      · have hi1 := dropn hd
        rw [hd, catB, app_nil] at hs
        have hpos : 0 < acc.size := by
          rw [hs, ByteArray.size_append]
          cases pc with
          | cons x r =>
            have := (classT_sz (h3 x (List.mem_cons_self ..))).2
            rw [catB, ByteArray.size_append]
            omega
          | nil =>
            cases pr with
            | cons x r =>
              have := (ruleN_sz (h4 x (List.mem_cons_self ..))).2
              rw [catB, catB, ByteArray.size_append]
              omega
            | nil => exact absurd ⟨rfl, rfl⟩ h0
        have hsz := congrArg ByteArray.size hs
        rw [ByteArray.size_append] at hsz
        repeat' (first|(first|(refine jl ?_;first|refine j1 ?_|refine j4 ?_|refine lj_to rfl rfl rfl (q_bstr hB (by omega) (by omega)) ?_)|(refine jc ?_;first|refine c1 ?_|refine c2 ?_|refine c7 ?_|refine c8 ?_)|refine n1 ?_|refine n3 ?_|refine n7 ?_|refine n8 ?_|refine n11 ?_)|(refine c9 (fun h=>?_) (fun h=>?_)<;>((try simp only [Bool.or_eq_true, Bool.and_eq_true, Bool.or_eq_false_iff, Bool.and_eq_false_iff, Bool.not_eq_true', Bool.not_eq_false', decide_eq_true_eq, decide_eq_false_iff_not, Bool.false_eq_true, Bool.true_eq_false, reduceCtorEq] at h) <;> (try simp (disch := omega) only [sb_bt, w64, Int.reduceAdd, Int.reduceToNat, Int.toNat_natCast, not_true_eq_false, false_or] at h) <;> (try (exfalso; omega)))))
        rw [hs]
        exact gv (Wk.refl _) (St.le_del (St.le_trans hστ hle) (St.none_le hστ hw0))
      · obtain ⟨g1, g2, g3⟩ := dropc hd
        have g4 := get_map ruc g3
        rw [hd] at hs
        have hsz := cat_size hs
        have hm := List.mem_of_getElem? g3
        have zr := ruleT_sz (h4 x hm)
        have zn : (ruleN x).size = (ruleT x).size + 1 := by unfold ruleN; rw [ByteArray.size_append, b1z]
        have k1 := p_rule x (h4 x hm) (hw x hm) (hp x hm)
        repeat' (first|(first|(refine jl ?_;first|refine jbl ?_|refine j1 ?_|refine j4 ?_|refine j13 (fun id hid=>?_)|refine j14 ?_|refine j17t ?_|refine j25 ?_|refine ji1 ?_|refine jp (k1) ?_)|(refine jc ?_;first|refine c1 ?_|refine c2 ?_|refine c5 ?_|refine c6 ?_)|refine n1 ?_)|(refine c9 (fun h=>?_) (fun h=>?_)<;>((try simp only [Bool.or_eq_true, Bool.and_eq_true, Bool.or_eq_false_iff, Bool.and_eq_false_iff, Bool.not_eq_true', Bool.not_eq_false', decide_eq_true_eq, decide_eq_false_iff_not, Bool.false_eq_true, Bool.true_eq_false, reduceCtorEq] at h) <;> (try simp (disch := omega) only [sb_bt, w64, Int.reduceAdd, Int.reduceToNat, Int.toNat_natCast, not_true_eq_false, false_or] at h) <;> (try (exfalso; omega)))))
        refine lj_calls rfl rfl rfl (q_wstr (τ := τ) (St.le_any hle (St.none_le hle hid)) hb hw0 (hB.set (hB.neb hid) (hB.new hid)) (ruleT x ++ ⟨#[10]⟩) (by rw [ByteArray.size_append, b1z]; omega)) (fun r σ4 hr => ?_) (fun x σ' h => by cases h.1)
        obtain ⟨hr, w', hw', hB', hle'⟩ := hr
        cases hr
        repeat' (first|(first|(refine jl ?_;first|refine j1 ?_|refine j6 ?_)|(refine jc ?_;first|refine c2 ?_)|refine n1 ?_|refine n10 ?_))
        exact nx_forS (i + 1, acc ++ (ruleT x ++ ⟨#[10]⟩), w', true) ⟨⟨by dsimp only; omega, by dsimp only; rw [g2]; exact cat_step hs⟩, hw', hB'.2.2⟩ (by dsimp only; omega) ⟨⟨_, rfl, wk1 (by omega)⟩, trivial⟩ (bldS_le hle' hB')
    · obtain ⟨g1, g2, g3⟩ := dropc hd
      have g4 := get_map cc g3
      rw [hd] at hs
      have hsz := cat_size hs
      have hm := List.mem_of_getElem? g3
      have hls : sLit.size = 12 := rfl
      have hb0 : (⟨#[]⟩ : ByteArray).size = 0 := rfl
      obtain ⟨hx1, hx2, hx3⟩ := h3 x hm
      have zx := (classT_sz (h3 x hm)).1
      have zy : (classT x).size = x.name.size + 14 + (eachB idT x.attrs).size := by unfold classT; simp only [ByteArray.size_append, b2z, hls]; omega
      have k1 := p_eachStr (f := 63) idT none false x.attrs (by omega) (by omega) (by kernel_rfl) (fun s _ => p_idT s)
      repeat' (first|(first|(refine jl ?_;first|refine jbl ?_|refine j1 ?_|refine j4 ?_|refine j13 (fun id hid=>?_)|refine j17t ?_|refine ji1 ?_)|(refine al ?_;first|refine da_nil ?_|refine a1 ?_|refine a14 ?_|refine a25 ?_|refine ap (k1) ?_)|refine al_nil ?_|(refine jc ?_;first|refine c1 ?_|refine c2 ?_|refine c5 ?_|refine c6 ?_|refine cqe 8 false ?_)|refine n1 ?_)|(refine c9 (fun h=>?_) (fun h=>?_)<;>((try simp only [Bool.or_eq_true, Bool.and_eq_true, Bool.or_eq_false_iff, Bool.and_eq_false_iff, Bool.not_eq_true', Bool.not_eq_false', decide_eq_true_eq, decide_eq_false_iff_not, Bool.false_eq_true, Bool.true_eq_false, reduceCtorEq] at h) <;> (try simp (disch := omega) only [sb_bt, w64, Int.reduceAdd, Int.reduceToNat, Int.toNat_natCast, not_true_eq_false, false_or] at h) <;> (try (exfalso; omega)))))
      have e : (⟨#[40, 108, 105, 116, 101, 114, 97, 108, 105, 122, 101, 32]⟩ ++ x.name ++ eachB idT x.attrs ++ ⟨#[41, 10]⟩ : ByteArray) = classT x := rfl
      rw [e]
      refine bcall (q_wstr (τ := τ) (St.le_any hle (St.none_le hle hid)) hb hw0 (hB.set (hB.neb hid) (hB.new hid)) (classT x) (by omega)) (fun r σ4 hC => ?_) (fun x σ' h => by cases h.1)
      obtain ⟨hr, w', hw', hB', hle'⟩ := hC
      cases hr
      repeat (first|(refine jl ?_;first|refine j1 ?_|refine j6 ?_)|(refine bl ?_;first|refine db_nil ?_)|(refine jc ?_;first|refine c2 ?_)|refine n1 ?_|refine n10 ?_)
      exact nx_forS (i + 1, acc ++ classT x, w', true) ⟨⟨by dsimp only; omega, by dsimp only; rw [g2]; exact cat_step hs⟩, hw', hB'.2.2⟩ (by dsimp only; omega) ⟨⟨_, rfl, wk1 (by omega)⟩, trivial⟩ (bldS_le hle' hB')
end Go.Proofs.YtfaaokekgljnbaaDoor.Ab
