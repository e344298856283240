/- The texts SB, C8, C9, CA, CB, CC, CE, CF, CG, CH, one behind the other. -/
import Derived.Test.YtcpokdjppedaoaaDoorM1
import Derived.Test.YtcpokdjppedaoaaDoorM2
import Derived.Test.YtcpokdjppedaoaaDoorM3
import Derived.Test.YtcpokdjppedaoaaDoorM4
import Derived.Test.YtcpokdjppedaoaaDoorM5
import Derived.Test.YtcpokdjppedaoaaDoorM6
import Derived.Test.YtcpokdjppedaoaaDoorProg
/- strings.Builder: a variable of our own with a row of bytes. -/
set_option linter.unusedVariables false
set_option linter.unusedSimpArgs false
set_option maxRecDepth 20000
namespace Go.Proofs.YtcpokdjppedaoaaDoor.Ab
open Go
attribute [local irreducible] thn inb endR CJ LJ OpJ DJ DA DB AllocK

def noB : ByteArray := ⟨#[]⟩
/-- A builder: what it points to (itself, or nothing yet), and its row of bytes. -/
abbrev bldO (c0 : AV) (w n : Nat) : AObj := .row 2 89 [[c0, .osl w 1 0 n]]
abbrev bldR (lb : List UInt8) : AObj := .row 1 5 (bys lb)
def bldA (b : Nat) : Bool → AV
  | true => .ptr b 2 0 0
  | false => .v (.pointer none)
def Bld (σ : St) (b w : Nat) (lb : List UInt8) (u : Bool) : Prop := σ b = some (bldO (bldA b u) w lb.length) ∧ σ w = some (bldR lb) ∧ w ≠ b
theorem q_copycheck {σ : St} {b w : Nat} {lb : List UInt8} {u : Bool} (h : Bld σ b w lb u) : ACalls Tryd.prog 84 [.ptr b 2 0 0] σ (fun e σ' => e = .ret (.tup []) ∧ σ' = σ.set b (bldO (.ptr b 2 0 0) w lb.length)) := by
  obtain ⟨h1, h2, h3⟩ := h
  cases u
  · have h1 : σ b = some (bldO (.v (.pointer none)) w lb.length) := h1
    refine enterS Tryd.func84 rfl rfl rfl rfl ?_
    repeat (first|(refine jl ?_;first|refine j7 ?_|refine j8 ?_|refine j10 ?_|refine j11 ?_|refine jtf ?_|refine jb ?_|refine jbl ?_|refine j1 ?_|refine j2 ?_|refine j3 ?_|refine j3f ?_|refine j4 ?_|refine j5 ?_|refine j6 ?_|refine j9 ?_|refine j12 (fun id hid=>?_)|refine j13 (fun id hid=>?_)|refine j14 ?_|refine j15 ?_|refine j17t ?_|refine j17 ?_|refine j16 ?_|refine j18 ?_|refine j19 ?_|refine j20 ?_|refine j21 ?_|refine j23 ?_|refine j24 ?_|refine j25 ?_|refine j26 ?_|refine jeq ?_|refine jeqq ?_|refine jne ?_|refine jneq ?_|refine jxe ?_|refine jxn ?_|refine jcbq ?_|refine ji1 ?_|refine ji2 ?_|refine ji3 ?_|refine ji4 ?_|refine ji5 ?_|refine ji6 ?_|refine j22 (fun id hid=>?_)|refine jtu ?_|refine jxt ?_|refine jfu ?_|refine jlit ?_|refine jmk ?_|refine jap ?_)|(refine dl ?_;first|refine d7 ?_|refine d8 ?_|refine d10 ?_|refine d11 ?_|refine dtf ?_|refine dbd ?_|refine dbl ?_|refine d1 ?_|refine d2 ?_|refine d3 ?_|refine d3f ?_|refine d4 ?_|refine d9 ?_|refine d14 ?_|refine d14a ?_|refine d15 ?_|refine d16 ?_|refine d18 ?_|refine d19 ?_|refine d20 ?_|refine d21 ?_|refine d25 ?_|refine d17 ?_|refine deq ?_|refine deqq ?_|refine dne ?_|refine dneq ?_|refine dxe ?_|refine dxn ?_|refine dcb ?_|refine dcbq ?_|refine di1 ?_|refine di2 ?_|refine di3 ?_|refine di4 ?_|refine di6 ?_)|(refine al ?_;first|refine a7 ?_|refine a8 ?_|refine a10 ?_|refine a11 ?_|refine abd ?_|refine abl ?_|refine a1 ?_|refine a2 ?_|refine a3 ?_|refine a3f ?_|refine a9 ?_|refine a14 ?_|refine a15 ?_|refine a16 ?_|refine a18 ?_|refine a21 ?_|refine a25 ?_|refine ai1 ?_|refine ai2 ?_|refine ai3 ?_|refine ai4 ?_|refine ai6 ?_|refine alit ?_|refine da_skip ?_|refine da_nil ?_)|(refine bl ?_;first|refine bbd ?_|refine bbl ?_|refine b1 ?_|refine b14 ?_|refine b17t ?_|refine b17 ?_|refine b25 ?_|refine db_nil ?_)|refine al_cons (fun id hid=>?_)|refine al_nil ?_|(refine jc ?_;first|refine c1 ?_|refine c2 ?_|refine c3 ?_|refine c4 ?_|refine c5 ?_|refine c6 ?_|refine c7 ?_|refine c8 ?_|refine cqa ?_|refine cqk ?_|refine cq ?_)|refine n1 ?_|refine n2 ?_|refine n3 ?_|refine n4 ?_|refine n5 ?_|refine n6 ?_|refine n7 ?_|refine n8 ?_|refine n9 ?_|refine n10 ?_|refine n13 ?_|refine n11 ?_|refine n12 ?_|refine n14 ?_|refine n15 ?_|refine n16 ?_)
    exact ge rfl
  · have h1 : σ b = some (bldO (.ptr b 2 0 0) w lb.length) := h1
    have e : σ.set b (bldO (.ptr b 2 0 0) w lb.length) = σ := by
      funext x
      by_cases hx : x = b
      · subst hx; rw [St.set_same, h1]
      · rw [St.set_ne _ _ _ hx]
    rw [e]
    refine enterS Tryd.func84 rfl rfl rfl rfl ?_
    repeat (first|(refine jl ?_;first|refine j7 ?_|refine j8 ?_|refine j10 ?_|refine j11 ?_|refine jtf ?_|refine jb ?_|refine jbl ?_|refine j1 ?_|refine j2 ?_|refine j3 ?_|refine j3f ?_|refine j4 ?_|refine j5 ?_|refine j6 ?_|refine j9 ?_|refine j12 (fun id hid=>?_)|refine j13 (fun id hid=>?_)|refine j14 ?_|refine j15 ?_|refine j17t ?_|refine j17 ?_|refine j16 ?_|refine j18 ?_|refine j19 ?_|refine j20 ?_|refine j21 ?_|refine j23 ?_|refine j24 ?_|refine j25 ?_|refine j26 ?_|refine jeq ?_|refine jeqq ?_|refine jne ?_|refine jneq ?_|refine jxe ?_|refine jxn ?_|refine jcbq ?_|refine ji1 ?_|refine ji2 ?_|refine ji3 ?_|refine ji4 ?_|refine ji5 ?_|refine ji6 ?_|refine j22 (fun id hid=>?_)|refine jnes ?_|refine jlit ?_|refine jmk ?_|refine jap ?_)|(refine dl ?_;first|refine d7 ?_|refine d8 ?_|refine d10 ?_|refine d11 ?_|refine dtf ?_|refine dbd ?_|refine dbl ?_|refine d1 ?_|refine d2 ?_|refine d3 ?_|refine d3f ?_|refine d4 ?_|refine d9 ?_|refine d14 ?_|refine d14a ?_|refine d15 ?_|refine d16 ?_|refine d18 ?_|refine d19 ?_|refine d20 ?_|refine d21 ?_|refine d25 ?_|refine d17 ?_|refine deq ?_|refine deqq ?_|refine dne ?_|refine dneq ?_|refine dxe ?_|refine dxn ?_|refine dcb ?_|refine dcbq ?_|refine di1 ?_|refine di2 ?_|refine di3 ?_|refine di4 ?_|refine di6 ?_)|(refine al ?_;first|refine a7 ?_|refine a8 ?_|refine a10 ?_|refine a11 ?_|refine abd ?_|refine abl ?_|refine a1 ?_|refine a2 ?_|refine a3 ?_|refine a3f ?_|refine a9 ?_|refine a14 ?_|refine a15 ?_|refine a16 ?_|refine a18 ?_|refine a21 ?_|refine a25 ?_|refine ai1 ?_|refine ai2 ?_|refine ai3 ?_|refine ai4 ?_|refine ai6 ?_|refine alit ?_|refine da_skip ?_|refine da_nil ?_)|(refine bl ?_;first|refine bbd ?_|refine bbl ?_|refine b1 ?_|refine b14 ?_|refine b17t ?_|refine b17 ?_|refine b25 ?_|refine db_nil ?_)|refine al_cons (fun id hid=>?_)|refine al_nil ?_|(refine jc ?_;first|refine c1 ?_|refine c2 ?_|refine c3 ?_|refine c4 ?_|refine c5 ?_|refine c6 ?_|refine c7 ?_|refine c8 ?_|refine cqa ?_|refine cqk ?_|refine cq ?_)|refine n1 ?_|refine n2 ?_|refine n3 ?_|refine n4 ?_|refine n5 ?_|refine n6 ?_|refine n7 ?_|refine n8 ?_|refine n9 ?_|refine n10 ?_|refine n13 ?_|refine n11 ?_|refine n12 ?_|refine n14 ?_|refine n15 ?_|refine n16 ?_)
    exact ge rfl
theorem bld_le {σ : St} {b w w' : Nat} {o1 o2 r : AObj} (hb : w' ≠ b) (hwb : w ≠ b) : (((σ.del w).set w' r).set b o2).le ((((σ.set b o1).del w).set w' r).set b o2) := fun x v hv => by
  by_cases hx : x = b
  · subst hx; rw [St.set_same] at hv ⊢; exact hv
  · rw [St.set_ne _ _ _ hx] at hv ⊢
    by_cases hxw : x = w'
    · subst hxw; rw [St.set_same] at hv ⊢; exact hv
    · rw [St.set_ne _ _ _ hxw] at hv ⊢
      unfold St.del at hv ⊢
      split
      · rename_i e; rw [if_pos e] at hv; exact hv
      · rename_i e; rw [if_neg e] at hv; rw [St.set_ne _ _ _ hx]; exact hv
theorem bld_bys (a b : List UInt8) : bys (a ++ b) = bys a ++ bys b := List.map_append
theorem St.del_ne {σ : St} {w x : Nat} (h : x ≠ w) : σ.del w x = σ x := by unfold St.del; rw [if_neg h]
/-- What is written stands behind what was there. -/
theorem q_wstr0 {σ : St} {b w : Nat} {lb : List UInt8} {u : Bool} (h : Bld σ b w lb u) (s : ByteArray) (hl : lb.length + s.size ≤ 140737488355328) : ACalls Tryd.prog 53 [.ptr b 2 0 0, .v (.string s)] σ (fun e σ' => ∃ w' : Nat, (σ w' = none ∧ w' ≠ b) ∧ e = .ret (.tup [.v (.int .i64 s.size), .v .nilIface]) ∧ σ' = ((σ.del w).set w' (bldR (lb ++ s.data.toList))).set b (bldO (.ptr b 2 0 0) w' (lb ++ s.data.toList).length)) := by
  refine acalls_gives_ex ?_
  refine enter Tryd.func53 rfl rfl rfl rfl ?_
  obtain ⟨h1, h2, h3⟩ := id h
  repeat (first|(refine jl ?_;first|refine j7 ?_|refine j8 ?_|refine j10 ?_|refine j11 ?_|refine jtf ?_|refine jb ?_|refine jbl ?_|refine j1 ?_|refine j2 ?_|refine j3 ?_|refine j3f ?_|refine j4 ?_|refine j5 ?_|refine j6 ?_|refine j9 ?_|refine j12 (fun id hid=>?_)|refine j13 (fun id hid=>?_)|refine j14 ?_|refine j15 ?_|refine j17t ?_|refine j17 ?_|refine j16 ?_|refine j18 ?_|refine j19 ?_|refine j20 ?_|refine j21 ?_|refine j23 ?_|refine j24 ?_|refine j25 ?_|refine j26 ?_|refine jeq ?_|refine jeqq ?_|refine jne ?_|refine jneq ?_|refine jxe ?_|refine jxn ?_|refine jcbq ?_|refine ji1 ?_|refine ji2 ?_|refine ji3 ?_|refine ji4 ?_|refine ji5 ?_|refine ji6 ?_|refine j22 (fun id hid=>?_)|refine lj_to rfl rfl rfl (q_copycheck h) ?_|refine jaos (fun w' hw' => ?_)|refine jlit ?_|refine jmk ?_|refine jap ?_)|(refine dl ?_;first|refine d7 ?_|refine d8 ?_|refine d10 ?_|refine d11 ?_|refine dtf ?_|refine dbd ?_|refine dbl ?_|refine d1 ?_|refine d2 ?_|refine d3 ?_|refine d3f ?_|refine d4 ?_|refine d9 ?_|refine d14 ?_|refine d14a ?_|refine d15 ?_|refine d16 ?_|refine d18 ?_|refine d19 ?_|refine d20 ?_|refine d21 ?_|refine d25 ?_|refine d17 ?_|refine deq ?_|refine deqq ?_|refine dne ?_|refine dneq ?_|refine dxe ?_|refine dxn ?_|refine dcb ?_|refine dcbq ?_|refine di1 ?_|refine di2 ?_|refine di3 ?_|refine di4 ?_|refine di6 ?_)|(refine al ?_;first|refine a7 ?_|refine a8 ?_|refine a10 ?_|refine a11 ?_|refine abd ?_|refine abl ?_|refine a1 ?_|refine a2 ?_|refine a3 ?_|refine a3f ?_|refine a9 ?_|refine a14 ?_|refine a15 ?_|refine a16 ?_|refine a18 ?_|refine a21 ?_|refine a25 ?_|refine ai1 ?_|refine ai2 ?_|refine ai3 ?_|refine ai4 ?_|refine ai6 ?_|refine alit ?_|refine da_skip ?_|refine da_nil ?_)|(refine bl ?_;first|refine bbd ?_|refine bbl ?_|refine b1 ?_|refine b14 ?_|refine b17t ?_|refine b17 ?_|refine b25 ?_|refine db_nil ?_)|refine al_cons (fun id hid=>?_)|refine al_nil ?_|(refine jc ?_;first|refine c1 ?_|refine c2 ?_|refine c3 ?_|refine c4 ?_|refine c5 ?_|refine c6 ?_|refine c7 ?_|refine c8 ?_|refine cqa ?_|refine cqk ?_|refine cq ?_)|refine n1 ?_|refine n2 ?_|refine n3 ?_|refine n4 ?_|refine n5 ?_|refine n6 ?_|refine n7 ?_|refine n8 ?_|refine n9 ?_|refine n10 ?_|refine n13 ?_|refine n11 ?_|refine n12 ?_|refine n14 ?_|refine n15 ?_|refine n16 ?_)
  have hb : w' ≠ b := fun e => by subst e; rw [St.set_same] at hw'; cases hw'
  have hB : ∀ r, (((σ.set b (bldO (.ptr b 2 0 0) w lb.length)).del w).set w' r) b = some (bldO (.ptr b 2 0 0) w lb.length) := fun r => by
    rw [St.set_ne _ _ _ (Ne.symm hb), St.del_ne (Ne.symm h3), St.set_same]
  have hB2 := hB (bldR (lb ++ s.data.toList))
  have e : (bys lb).take lb.length ++ bys s.data.toList = bys (lb ++ s.data.toList) := by rw [bld_bys, ← length_bys lb, List.take_length]
  have e2 : lb.length + s.size = (lb ++ s.data.toList).length := by rw [List.length_append, Array.length_toList]; rfl
  rw [e, e2]
  repeat (first|(refine jl ?_;first|refine j7 ?_|refine j8 ?_|refine j10 ?_|refine j11 ?_|refine jtf ?_|refine jb ?_|refine jbl ?_|refine j1 ?_|refine j2 ?_|refine j3 ?_|refine j3f ?_|refine j4 ?_|refine j5 ?_|refine j6 ?_|refine j9 ?_|refine j12 (fun id hid=>?_)|refine j13 (fun id hid=>?_)|refine j14 ?_|refine j15 ?_|refine j17t ?_|refine j17 ?_|refine j16 ?_|refine j18 ?_|refine j19 ?_|refine j20 ?_|refine j21 ?_|refine j23 ?_|refine j24 ?_|refine j25 ?_|refine j26 ?_|refine jeq ?_|refine jeqq ?_|refine jne ?_|refine jneq ?_|refine jxe ?_|refine jxn ?_|refine jcbq ?_|refine ji1 ?_|refine ji2 ?_|refine ji3 ?_|refine ji4 ?_|refine ji5 ?_|refine ji6 ?_|refine j22 (fun id hid=>?_)|refine jlit ?_|refine jmk ?_|refine jap ?_)|(refine dl ?_;first|refine d7 ?_|refine d8 ?_|refine d10 ?_|refine d11 ?_|refine dtf ?_|refine dbd ?_|refine dbl ?_|refine d1 ?_|refine d2 ?_|refine d3 ?_|refine d3f ?_|refine d4 ?_|refine d9 ?_|refine d14 ?_|refine d14a ?_|refine d15 ?_|refine d16 ?_|refine d18 ?_|refine d19 ?_|refine d20 ?_|refine d21 ?_|refine d25 ?_|refine d17 ?_|refine deq ?_|refine deqq ?_|refine dne ?_|refine dneq ?_|refine dxe ?_|refine dxn ?_|refine dcb ?_|refine dcbq ?_|refine di1 ?_|refine di2 ?_|refine di3 ?_|refine di4 ?_|refine di6 ?_)|(refine al ?_;first|refine a7 ?_|refine a8 ?_|refine a10 ?_|refine a11 ?_|refine abd ?_|refine abl ?_|refine a1 ?_|refine a2 ?_|refine a3 ?_|refine a3f ?_|refine a9 ?_|refine a14 ?_|refine a15 ?_|refine a16 ?_|refine a18 ?_|refine a21 ?_|refine a25 ?_|refine ai1 ?_|refine ai2 ?_|refine ai3 ?_|refine ai4 ?_|refine ai6 ?_|refine alit ?_|refine da_skip ?_|refine da_nil ?_)|(refine bl ?_;first|refine bbd ?_|refine bbl ?_|refine b1 ?_|refine b14 ?_|refine b17t ?_|refine b17 ?_|refine b25 ?_|refine db_nil ?_)|refine al_cons (fun id hid=>?_)|refine al_nil ?_|(refine jc ?_;first|refine c1 ?_|refine c2 ?_|refine c3 ?_|refine c4 ?_|refine c5 ?_|refine c6 ?_|refine c7 ?_|refine c8 ?_|refine cqa ?_|refine cqk ?_|refine cq ?_)|refine n1 ?_|refine n2 ?_|refine n3 ?_|refine n4 ?_|refine n5 ?_|refine n6 ?_|refine n7 ?_|refine n8 ?_|refine n9 ?_|refine n10 ?_|refine n13 ?_|refine n11 ?_|refine n12 ?_|refine n14 ?_|refine n15 ?_|refine n16 ?_)
  refine ⟨w', ⟨by rwa [St.set_ne _ _ _ hb] at hw', hb⟩, gives (bld_le hb h3) (fin_tup ⟨Fin.refl _ _ _, Fin.refl _ _ _, trivial⟩)⟩
theorem bld_data (a b : ByteArray) : a.data.toList ++ b.data.toList = (a ++ b).data.toList := by simp
theorem q_wstr {τ σ : St} {b w : Nat} {acc : ByteArray} {u : Bool} (hτ : τ.le σ) (hb : τ b = none) (hw : τ w = none) (h : Bld σ b w acc.data.toList u) (s : ByteArray) (hl : acc.size + s.size ≤ 140737488355328) : ACalls Tryd.prog 53 [.ptr b 2 0 0, .v (.string s)] σ (fun e σ' => e = .ret (.tup [.v (.int .i64 s.size), .v .nilIface]) ∧ ∃ w', τ w' = none ∧ Bld σ' b w' (acc ++ s).data.toList true ∧ τ.le σ') :=
  (q_wstr0 h s (by rw [Array.length_toList]; exact hl)).mono fun e σ' ⟨w', ⟨h1, h2⟩, h3, h4⟩ => by
    refine ⟨h3, w', ?_, ?_, ?_⟩
    · cases hv : τ w' with
      | none => rfl
      | some v => rw [hτ w' v hv] at h1; cases h1
    · rw [h4, ← bld_data]
      exact ⟨St.set_same _ _ _, by rw [St.set_ne _ _ _ h2, St.set_same], h2⟩
    · subst h4
      intro x v hv
      have hxb : x ≠ b := fun e => by rw [e, hb] at hv; cases hv
      have hxw : x ≠ w := fun e => by rw [e, hw] at hv; cases hv
      have hxw' : x ≠ w' := fun e => by subst e; rw [hτ x v hv] at h1; cases h1
      rw [St.set_ne _ _ _ hxb, St.set_ne _ _ _ hxw', St.del_ne hxw]
      exact hτ x v hv
/-- What was written, as a string; it is written no more. -/
theorem q_bstr {σ : St} {b w : Nat} {acc : ByteArray} {u : Bool} (h : Bld σ b w acc.data.toList u) (h0 : acc.size ≠ 0) (hl : acc.size ≤ 140737488355328) : ACalls Tryd.prog 55 [.ptr b 2 0 0] σ (fun e σ' => e = .ret (.v (.string acc)) ∧ σ' = σ.del w) := by
  refine enterS Tryd.func55 rfl rfl rfl rfl ?_
  obtain ⟨h1, h2, h3⟩ := id h
  have hlen : acc.data.toList.length = acc.size := Array.length_toList
  have h0 : acc.data.toList ≠ [] := fun e => h0 (by rw [← hlen, e]; rfl)
  have hpos : 0 < acc.data.toList.length := List.length_pos_iff.2 h0
  have hl' : acc.data.toList.length ≤ 140737488355328 := by omega
  have h4 : (σ.del w) b = σ b := St.del_ne (Ne.symm h3)
  rw [h1] at h4
  repeat (first|(refine jl ?_;first|refine j7 ?_|refine j8 ?_|refine j10 ?_|refine j11 ?_|refine jtf ?_|refine jb ?_|refine jbl ?_|refine j1 ?_|refine j2 ?_|refine j3 ?_|refine j3f ?_|refine j4 ?_|refine j5 ?_|refine j6 ?_|refine j9 ?_|refine j12 (fun id hid=>?_)|refine j13 (fun id hid=>?_)|refine j14 ?_|refine j15 ?_|refine j17t ?_|refine j17 ?_|refine j16 ?_|refine j18 ?_|refine j19 ?_|refine j20 ?_|refine j21 ?_|refine j23 ?_|refine j24 ?_|refine j25 ?_|refine j26 ?_|refine jeq ?_|refine jeqq ?_|refine jne ?_|refine jneq ?_|refine jxe ?_|refine jxn ?_|refine jcbq ?_|refine ji1 ?_|refine ji2 ?_|refine ji3 ?_|refine ji4 ?_|refine ji5 ?_|refine ji6 ?_|refine j22 (fun id hid=>?_)|refine jlit ?_|refine jmk ?_|refine jap ?_)|(refine dl ?_;first|refine d7 ?_|refine d8 ?_|refine d10 ?_|refine d11 ?_|refine dtf ?_|refine dbd ?_|refine dbl ?_|refine d1 ?_|refine d2 ?_|refine d3 ?_|refine d3f ?_|refine d4 ?_|refine d9 ?_|refine d14 ?_|refine d14a ?_|refine d15 ?_|refine d16 ?_|refine d18 ?_|refine d19 ?_|refine d20 ?_|refine d21 ?_|refine d25 ?_|refine d17 ?_|refine deq ?_|refine deqq ?_|refine dne ?_|refine dneq ?_|refine dxe ?_|refine dxn ?_|refine dcb ?_|refine dcbq ?_|refine di1 ?_|refine di2 ?_|refine di3 ?_|refine di4 ?_|refine di6 ?_)|(refine al ?_;first|refine a7 ?_|refine a8 ?_|refine a10 ?_|refine a11 ?_|refine abd ?_|refine abl ?_|refine a1 ?_|refine a2 ?_|refine a3 ?_|refine a3f ?_|refine a9 ?_|refine a14 ?_|refine a15 ?_|refine a16 ?_|refine a18 ?_|refine a21 ?_|refine a25 ?_|refine ai1 ?_|refine ai2 ?_|refine ai3 ?_|refine ai4 ?_|refine ai6 ?_|refine alit ?_|refine da_skip ?_|refine da_nil ?_)|(refine bl ?_;first|refine bbd ?_|refine bbl ?_|refine b1 ?_|refine b14 ?_|refine b17t ?_|refine b17 ?_|refine b25 ?_|refine db_nil ?_)|refine al_cons (fun id hid=>?_)|refine al_nil ?_|(refine jc ?_;first|refine c1 ?_|refine c2 ?_|refine c3 ?_|refine c4 ?_|refine c5 ?_|refine c6 ?_|refine c7 ?_|refine c8 ?_)|refine n1 ?_|refine n2 ?_|refine n3 ?_|refine n4 ?_|refine n5 ?_|refine n6 ?_|refine n7 ?_|refine n8 ?_|refine n9 ?_|refine n10 ?_|refine n13 ?_|refine n11 ?_|refine n12 ?_|refine n14 ?_|refine n15 ?_|refine n16 ?_)
  refine cqm 10 (σ1 := σ.del w) (h := ?_)
  repeat (first|(refine jl ?_;first|refine j7 ?_|refine j8 ?_|refine j10 ?_|refine j11 ?_|refine jtf ?_|refine jb ?_|refine jbl ?_|refine j1 ?_|refine j2 ?_|refine j3 ?_|refine j3f ?_|refine j4 ?_|refine j5 ?_|refine j6 ?_|refine j9 ?_|refine j12 (fun id hid=>?_)|refine j13 (fun id hid=>?_)|refine j14 ?_|refine j15 ?_|refine j17t ?_|refine j17 ?_|refine j16 ?_|refine j18 ?_|refine j19 ?_|refine j20 ?_|refine j21 ?_|refine j23 ?_|refine j24 ?_|refine j25 ?_|refine j26 ?_|refine jeq ?_|refine jeqq ?_|refine jne ?_|refine jneq ?_|refine jxe ?_|refine jxn ?_|refine jcbq ?_|refine ji1 ?_|refine ji2 ?_|refine ji3 ?_|refine ji4 ?_|refine ji5 ?_|refine ji6 ?_|refine j22 (fun id hid=>?_)|refine jlit ?_|refine jmk ?_|refine jap ?_)|(refine dl ?_;first|refine d7 ?_|refine d8 ?_|refine d10 ?_|refine d11 ?_|refine dtf ?_|refine dbd ?_|refine dbl ?_|refine d1 ?_|refine d2 ?_|refine d3 ?_|refine d3f ?_|refine d4 ?_|refine d9 ?_|refine d14 ?_|refine d14a ?_|refine d15 ?_|refine d16 ?_|refine d18 ?_|refine d19 ?_|refine d20 ?_|refine d21 ?_|refine d25 ?_|refine d17 ?_|refine deq ?_|refine deqq ?_|refine dne ?_|refine dneq ?_|refine dxe ?_|refine dxn ?_|refine dcb ?_|refine dcbq ?_|refine di1 ?_|refine di2 ?_|refine di3 ?_|refine di4 ?_|refine di6 ?_|refine dsd ?_|refine dus ?_)|(refine al ?_;first|refine a7 ?_|refine a8 ?_|refine a10 ?_|refine a11 ?_|refine abd ?_|refine abl ?_|refine a1 ?_|refine a2 ?_|refine a3 ?_|refine a3f ?_|refine a9 ?_|refine a14 ?_|refine a15 ?_|refine a16 ?_|refine a18 ?_|refine a21 ?_|refine a25 ?_|refine ai1 ?_|refine ai2 ?_|refine ai3 ?_|refine ai4 ?_|refine ai6 ?_|refine alit ?_|refine da_skip ?_|refine da_nil ?_)|(refine bl ?_;first|refine bbd ?_|refine bbl ?_|refine b1 ?_|refine b14 ?_|refine b17t ?_|refine b17 ?_|refine b25 ?_|refine db_nil ?_)|refine al_cons (fun id hid=>?_)|refine al_nil ?_|(refine jc ?_;first|refine c1 ?_|refine c2 ?_|refine c3 ?_|refine c4 ?_|refine c5 ?_|refine c6 ?_|refine c7 ?_|refine c8 ?_|refine cqa ?_|refine cqk ?_|refine cq ?_)|refine n1 ?_|refine n2 ?_|refine n3 ?_|refine n4 ?_|refine n5 ?_|refine n6 ?_|refine n7 ?_|refine n8 ?_|refine n9 ?_|refine n10 ?_|refine n13 ?_|refine n11 ?_|refine n12 ?_|refine n14 ?_|refine n15 ?_|refine n16 ?_)
  exact ge rfl
abbrev bldS (τ : St) (b w : Nat) (acc : ByteArray) (u : Bool) : St := (τ.set b (bldO (bldA b u) w acc.size)).set w (bldR acc.data.toList)
theorem bldS_bld {τ : St} {b w : Nat} {acc : ByteArray} {u : Bool} (h : w ≠ b) : Bld (bldS τ b w acc u) b w acc.data.toList u := ⟨by unfold bldS; rw [St.set_ne _ _ _ (Ne.symm h), St.set_same, Array.length_toList]; rfl, St.set_same _ _ _, h⟩
theorem bldS_le {τ σ : St} {b w : Nat} {acc : ByteArray} {u : Bool} (hτ : τ.le σ) (h : Bld σ b w acc.data.toList u) : (bldS τ b w acc u).le σ := St.le_setk (St.le_setk hτ (by rw [h.1, Array.length_toList]; rfl)) h.2.1
theorem bldS_keep {τ : St} {b w : Nat} {acc : ByteArray} {u : Bool} (hb : τ b = none) (hw : τ w = none) : τ.le (bldS τ b w acc u) := St.le_any (St.le_any (St.le_refl _) hb) hw
/-- A builder before its first word. -/
theorem ghost_bld {fr : Fr} {σ : St} {K : Fr → St → Prop} {b : Nat} (h : ∀ (τ : St) w σ', τ b = none → τ w = none → τ.le σ' → (∀ x o, x ≠ b → σ x = some o → τ x = some o) → (∀ ρ : St, ρ b = none → ρ.le σ → ρ.le τ) → Bld σ' b w (noB).data.toList false → K fr σ') (hσ : σ b = some (.row 2 89 [[.v (.pointer none), .sl (some true) true 1 []]])) : Ghost fr σ K :=
  ghost_nilcell (b := b) (sz := 2) (et := 89) (cs := [.v (.pointer none), .sl (some true) true 1 []]) (j := 1) 1 5 hσ rfl (fun w hw => by
    have hwb : w ≠ b := fun e => by rw [e, hσ] at hw; cases hw
    refine h (σ.del b) w _ (by unfold St.del; rw [if_pos rfl]) (by rw [St.del_ne hwb]; exact hw) (fun x v hv => ?_) (fun x o h1 h2 => by rw [St.del_ne h1]; exact h2) (fun ρ h1 h2 x v hv => ?_) ⟨St.set_same _ _ _, by rw [St.set_ne _ _ _ hwb, St.set_same]; rfl, hwb⟩
    · have hxb : x ≠ b := fun e => by subst e; unfold St.del at hv; rw [if_pos rfl] at hv; cases hv
      rw [St.del_ne hxb] at hv
      have hxw : x ≠ w := fun e => by rw [e, hw] at hv; cases hv
      rw [St.set_ne _ _ _ hxb, St.set_ne _ _ _ hxw]; exact hv
    · have hxb : x ≠ b := fun e => by rw [e, h1] at hv; cases hv
      rw [St.del_ne hxb]; exact h2 x v hv)
theorem cj_bld {nt : Nat} {Q : Post} {fr : Fr} {σ : St} {c : Code} {b : Nat} (t : Nat) (h : ∀ (τ : St) w σ', τ b = none → τ w = none → τ.le σ' → (∀ x o, x ≠ b → σ x = some o → τ x = some o) → (∀ ρ : St, ρ b = none → ρ.le σ → ρ.le τ) → Bld σ' b w (noB).data.toList false → CJ Tryd.prog nt c Q fr σ') (ht : lk fr t = some (.ptr b 2 0 0) := by exact rfl) (hσ : σ b = some (.row 2 89 [[.v (.pointer none), .sl (some true) true 1 []]]) := by exact lkp) : CJ Tryd.prog nt c Q fr σ := cj_ghost (ghost_bld h hσ)
theorem lj_bld {nt : Nat} {Q : Post} {fr : Fr} {σ : St} {ops : Array Oper} {l : List Oper} {b : Nat} (t : Nat) (h : ∀ (τ : St) w σ', τ b = none → τ w = none → τ.le σ' → (∀ x o, x ≠ b → σ x = some o → τ x = some o) → (∀ ρ : St, ρ b = none → ρ.le σ → ρ.le τ) → Bld σ' b w (noB).data.toList false → LJ Tryd.prog nt ops Q l fr σ') (ht : lk fr t = some (.ptr b 2 0 0) := by exact rfl) (hσ : σ b = some (.row 2 89 [[.v (.pointer none), .sl (some true) true 1 []]]) := by exact lkp) : LJ Tryd.prog nt ops Q l fr σ := lj_ghost (ghost_bld h hσ)
theorem Bld.set {σ : St} {b w id : Nat} {lb : List UInt8} {u : Bool} {o : AObj} (h : Bld σ b w lb u) (h1 : id ≠ b) (h2 : id ≠ w) : Bld (σ.set id o) b w lb u := ⟨by rw [St.set_ne _ _ _ (Ne.symm h1)]; exact h.1, by rw [St.set_ne _ _ _ (Ne.symm h2)]; exact h.2.1, h.2.2⟩
theorem Bld.neb {σ : St} {b w id : Nat} {lb : List UInt8} {u : Bool} (h : Bld σ b w lb u) (hid : σ id = none) : id ≠ b := St.ne_some hid h.1
theorem Bld.new {σ : St} {b w id : Nat} {lb : List UInt8} {u : Bool} (h : Bld σ b w lb u) (hid : σ id = none) : id ≠ w := St.ne_some hid h.2.1
theorem noB_app (s : ByteArray) : noB ++ s = s := by
  apply ByteArray.ext
  rw [ByteArray.data_append]
  simp [noB]
end Go.Proofs.YtcpokdjppedaoaaDoor.Ab

/- A fact's text. -/
set_option linter.unusedVariables false
set_option linter.unusedSimpArgs false
set_option maxRecDepth 20000
namespace Go.Proofs.YtcpokdjppedaoaaDoor.Ab
open Go
attribute [local irreducible] thn inb endR CJ LJ OpJ DJ DA DB AllocK

def sOpen : ByteArray := ⟨#[40]⟩
def sClose : ByteArray := ⟨#[41]⟩
def sHat : ByteArray := ⟨#[32, 94]⟩
def sSp : ByteArray := ⟨#[32]⟩
def textP (a : ByteArray) (v : Vl) : ByteArray := sHat ++ a ++ sSp ++ textV v.k v.n v.s
def textGo : List ByteArray → List Vl → ByteArray → ByteArray
  | a :: al, v :: vs, acc => textGo al vs (if v.k = 0 then acc else acc ++ textP a v)
  | _, _, acc => acc
def textF (l : List Cls) (f : Fc) : ByteArray := if checkF l f = 0 then textGo (ofC l f).attrs f.vals (sOpen ++ f.cls) ++ sClose else ⟨#[]⟩
theorem textV_size (k n : Int) (s : ByteArray) : (textV k n s).size ≤ 24 := by
  unfold textV
  by_cases h : checkE k n s = 0
  · rw [if_neg (fun e => e h)]
    by_cases h1 : k = 1
    · rw [if_pos h1]; exact Nat.le_trans (toldS_size n) (by omega)
    · rw [if_neg h1]
      by_cases h2 : k = 2
      · rw [if_pos h2]
        have hw : wordB s = true := by
          unfold checkE at h
          cases hb : wordB s with
          | true => rfl
          | false => simp [hb, h1, h2] at h; grind
        exact wordB_size hw
      · rw [if_neg h2]; decide
  · rw [if_pos h]; decide
theorem textP_size (a : ByteArray) (v : Vl) (h : a.size ≤ 60) : (textP a v).size ≤ 90 := by
  have := textV_size v.k v.n v.s
  unfold textP
  simp only [ByteArray.size_append, show sHat.size = 2 from rfl, show sSp.size = 1 from rfl]
  omega
theorem findC_mem {nm : ByteArray} {l : List Cls} {c : Cls} (h : findC nm l = some c) : c ∈ l := List.mem_of_find?_eq_some h
theorem p_rtextF (nl : Option Bool) (full : Bool) (l : List Cls) (f : Fc) (hz : ∀ v ∈ f.vals, v.s.size ≤ 60) (hc : f.cls.size ≤ 60) (hl : f.vals.length ≤ 20) (ha : ∀ c ∈ l, ∀ a ∈ c.attrs, a.size ≤ 60) : Pure Tryd.prog 21 [.sl nl full 2 (l.map cc), .agg (fc f)] (.v (.string (textF l f))) := by
  refine enterW Tryd.func21 rfl rfl rfl rfl (fun σ => ?_)
  obtain ⟨ft, fn, vs⟩ := f
  dsimp only at hz hc hl
  repeat' (first|(first|(refine jl ?_;first|refine j7 ?_|refine j8 ?_|refine j10 ?_|refine j11 ?_|refine jtf ?_|refine jb ?_|refine jbl ?_|refine j1 ?_|refine j2 ?_|refine j3 ?_|refine j3f ?_|refine j4 ?_|refine j5 ?_|refine j6 ?_|refine j9 ?_|refine j12 (fun id hid=>?_)|refine j13 (fun id hid=>?_)|refine j14 ?_|refine j15 ?_|refine j17t ?_|refine j17 ?_|refine j16 ?_|refine j18 ?_|refine j19 ?_|refine j20 ?_|refine j21 ?_|refine j23 ?_|refine j24 ?_|refine j25 ?_|refine j26 ?_|refine jeq ?_|refine jeqq ?_|refine jne ?_|refine jneq ?_|refine jxe ?_|refine jxn ?_|refine jcbq ?_|refine ji1 ?_|refine ji2 ?_|refine ji3 ?_|refine ji4 ?_|refine ji5 ?_|refine ji6 ?_|refine j22 (fun id hid=>?_)|refine jp (p_rccheck _ _ l ⟨ft, fn, vs⟩ hz) ?_|refine jpy (p_rccheck _ _ l ⟨ft, fn, vs⟩ hz) ?_|refine jcq (hp:=fun hc=>p_rccheck _ _ l ⟨ft, fn, vs⟩ hz) ?_|refine jp (p_rfind _ _ _ _) ?_|refine jpy (p_rfind _ _ _ _) ?_|refine jcq (hp:=fun hc=>p_rfind _ _ _ _) ?_|refine jlit ?_|refine jmk ?_|refine jap ?_)|(refine dl ?_;first|refine d7 ?_|refine d8 ?_|refine d10 ?_|refine d11 ?_|refine dtf ?_|refine dbd ?_|refine dbl ?_|refine d1 ?_|refine d2 ?_|refine d3 ?_|refine d3f ?_|refine d4 ?_|refine d9 ?_|refine d14 ?_|refine d14a ?_|refine d15 ?_|refine d16 ?_|refine d18 ?_|refine d19 ?_|refine d20 ?_|refine d21 ?_|refine d25 ?_|refine d17 ?_|refine deq ?_|refine deqq ?_|refine dne ?_|refine dneq ?_|refine dxe ?_|refine dxn ?_|refine dcb ?_|refine dcbq ?_|refine di1 ?_|refine di2 ?_|refine di3 ?_|refine di4 ?_|refine di6 ?_|refine dp (p_rccheck _ _ l ⟨ft, fn, vs⟩ hz) ?_|refine dpy (p_rccheck _ _ l ⟨ft, fn, vs⟩ hz) ?_|refine dpq (hp:=fun hc=>p_rccheck _ _ l ⟨ft, fn, vs⟩ hz) ?_|refine dp (p_rfind _ _ _ _) ?_|refine dpy (p_rfind _ _ _ _) ?_|refine dpq (hp:=fun hc=>p_rfind _ _ _ _) ?_)|(refine al ?_;first|refine a7 ?_|refine a8 ?_|refine a10 ?_|refine a11 ?_|refine abd ?_|refine abl ?_|refine a1 ?_|refine a2 ?_|refine a3 ?_|refine a3f ?_|refine a9 ?_|refine a14 ?_|refine a15 ?_|refine a16 ?_|refine a18 ?_|refine a21 ?_|refine a25 ?_|refine ai1 ?_|refine ai2 ?_|refine ai3 ?_|refine ai4 ?_|refine ai6 ?_|refine alit ?_|refine ap (p_rccheck _ _ l ⟨ft, fn, vs⟩ hz) ?_|refine apy (p_rccheck _ _ l ⟨ft, fn, vs⟩ hz) ?_|refine ap (p_rfind _ _ _ _) ?_|refine apy (p_rfind _ _ _ _) ?_|refine da_skip ?_|refine da_nil ?_)|(refine bl ?_;first|refine bbd ?_|refine bbl ?_|refine b1 ?_|refine b14 ?_|refine b17t ?_|refine b17 ?_|refine b25 ?_|refine db_nil ?_)|refine al_cons (fun id hid=>?_)|refine al_nil ?_|(refine jc ?_;first|refine c1 ?_|refine c2 ?_|refine c3 ?_|refine c4 ?_|refine c5 ?_|refine c6 ?_|refine c7 ?_|refine c8 ?_|refine cqa ?_|refine cqk ?_|refine cq ?_)|refine n1 ?_|refine n2 ?_|refine n3 ?_|refine n4 ?_|refine n5 ?_|refine n6 ?_|refine n7 ?_|refine n8 ?_|refine n9 ?_|refine n10 ?_|refine n13 ?_|refine n11 ?_|refine n12 ?_|refine n14 ?_|refine n15 ?_|refine n16 ?_)|(refine c9 (fun h=>?_) (fun h=>?_)<;>(try simp only [Bool.or_eq_true, Bool.and_eq_true, Bool.or_eq_false_iff, Bool.and_eq_false_iff, Bool.not_eq_true', Bool.not_eq_false', decide_eq_true_eq, decide_eq_false_iff_not, Bool.false_eq_true, Bool.true_eq_false, reduceCtorEq] at h)))
  · rw [textF, if_neg h]
    first | exact ge rfl | exact gvs (by (repeat' (first | exact finl_nil | apply finl_cons | exact Fin.refl _ _ _ | apply fin_pk2 | apply fin_pk3 | apply fin_agg | apply fin_tup | exact fin_nil | exact fin_sl rfl | exact fin_fz (by exact lkp) (by first | assumption | exact St.ns1 (by assumption) | exact St.ns2 (by assumption) | exact St.ns3 (by assumption) | exact St.ns4 (by assumption) | exact St.ns5 (by assumption) | exact St.ns6 (by assumption) | exact St.ns7 (by assumption) | exact St.ns8 (by assumption) | exact St.ns9 (by assumption) | exact St.ns10 (by assumption) | exact St.ns11 (by assumption) | exact St.ns12 (by assumption) | exact St.ns13 (by assumption) | exact St.ns14 (by assumption) | exact St.ns10 (by assumption) | exact St.ns11 (by assumption) | exact St.ns12 (by assumption) | exact St.ns13 (by assumption) | exact St.ns14 (by assumption)) (by first | exact rfl | assumption | (simp only [List.length_map, List.length_append, List.length_cons, List.length_nil]; done) | (simp only [List.length_map, List.length_append, List.length_cons, List.length_nil]; omega)) rfl (fun _ => rfl) | exact fin_eq rfl)))
  · obtain ⟨_, c, hc1, hc2, hc3, _⟩ := checkF_zero h
    rw [textF, if_pos h, hc2]
    dsimp only at hc3 ⊢
    have hgc : (findC fn l).getD noC = c := by rw [hc1]; rfl
    rw [hgc]
    have hn : (vs.map vc).length = vs.length := List.length_map ..
    have hn2 : (c.attrs.map str1).length = c.attrs.length := List.length_map ..
    have ha' := ha c (findC_mem hc1)
    have hsO : sOpen.size = 1 := rfl
    refine cj_fors (fun s : Nat × ByteArray => textGo (c.attrs.drop s.1) (vs.drop s.1) s.2 = textGo c.attrs vs (sOpen ++ fn) ∧ s.2.size ≤ 61 + 100 * s.1 ∧ s.1 ≤ vs.length) (fun s => [(8, .v (.int .i64 s.1)), (7, .v (.string s.2))]) (fun s => vs.length - s.1) (0, sOpen ++ fn) ⟨rfl, by simp only [ByteArray.size_append]; omega, Nat.zero_le _⟩ ⟨⟨_, rfl, fun _ _ h => h⟩, ⟨_, rfl, fun _ _ h => h⟩, trivial⟩ (fun s hs => ?_)
    obtain ⟨i, acc⟩ := s
    obtain ⟨hs1, hs2, hs3⟩ := hs
    dsimp only at hs1 hs2 hs3 ⊢
    rcases hd : vs.drop i with _ | ⟨v, r⟩
    · have h0 := dropn hd
      rw [hd] at hs1
      have e1 : acc = textGo c.attrs vs (sOpen ++ fn) := by
        rw [← hs1]
        cases c.attrs.drop i <;> rfl
      repeat' (first|(first|(refine jl ?_;first|refine j7 ?_|refine j8 ?_|refine j10 ?_|refine j11 ?_|refine jtf ?_|refine jb ?_|refine jbl ?_|refine j1 ?_|refine j2 ?_|refine j3 ?_|refine j3f ?_|refine j4 ?_|refine j5 ?_|refine j6 ?_|refine j9 ?_|refine j12 (fun id hid=>?_)|refine j13 (fun id hid=>?_)|refine j14 ?_|refine j15 ?_|refine j17t ?_|refine j17 ?_|refine j16 ?_|refine j18 ?_|refine j19 ?_|refine j20 ?_|refine j21 ?_|refine j23 ?_|refine j24 ?_|refine j25 ?_|refine j26 ?_|refine jeq ?_|refine jeqq ?_|refine jne ?_|refine jneq ?_|refine jxe ?_|refine jxn ?_|refine jcbq ?_|refine ji1 ?_|refine ji2 ?_|refine ji3 ?_|refine ji4 ?_|refine ji5 ?_|refine ji6 ?_|refine j22 (fun id hid=>?_)|refine jlit ?_|refine jmk ?_|refine jap ?_)|(refine dl ?_;first|refine d7 ?_|refine d8 ?_|refine d10 ?_|refine d11 ?_|refine dtf ?_|refine dbd ?_|refine dbl ?_|refine d1 ?_|refine d2 ?_|refine d3 ?_|refine d3f ?_|refine d4 ?_|refine d9 ?_|refine d14 ?_|refine d14a ?_|refine d15 ?_|refine d16 ?_|refine d18 ?_|refine d19 ?_|refine d20 ?_|refine d21 ?_|refine d25 ?_|refine d17 ?_|refine deq ?_|refine deqq ?_|refine dne ?_|refine dneq ?_|refine dxe ?_|refine dxn ?_|refine dcb ?_|refine dcbq ?_|refine di1 ?_|refine di2 ?_|refine di3 ?_|refine di4 ?_|refine di6 ?_)|(refine al ?_;first|refine a7 ?_|refine a8 ?_|refine a10 ?_|refine a11 ?_|refine abd ?_|refine abl ?_|refine a1 ?_|refine a2 ?_|refine a3 ?_|refine a3f ?_|refine a9 ?_|refine a14 ?_|refine a15 ?_|refine a16 ?_|refine a18 ?_|refine a21 ?_|refine a25 ?_|refine ai1 ?_|refine ai2 ?_|refine ai3 ?_|refine ai4 ?_|refine ai6 ?_|refine alit ?_|refine da_skip ?_|refine da_nil ?_)|(refine bl ?_;first|refine bbd ?_|refine bbl ?_|refine b1 ?_|refine b14 ?_|refine b17t ?_|refine b17 ?_|refine b25 ?_|refine db_nil ?_)|refine al_cons (fun id hid=>?_)|refine al_nil ?_|(refine jc ?_;first|refine c1 ?_|refine c2 ?_|refine c3 ?_|refine c4 ?_|refine c5 ?_|refine c6 ?_|refine c7 ?_|refine c8 ?_|refine cqa ?_|refine cqk ?_|refine cq ?_)|refine n1 ?_|refine n2 ?_|refine n3 ?_|refine n4 ?_|refine n5 ?_|refine n6 ?_|refine n7 ?_|refine n8 ?_|refine n9 ?_|refine n10 ?_|refine n13 ?_|refine n11 ?_|refine n12 ?_|refine n14 ?_|refine n15 ?_|refine n16 ?_)|(refine c9 (fun h=>?_) (fun h=>?_)<;>((try simp only [Bool.or_eq_true, Bool.and_eq_true, Bool.or_eq_false_iff, Bool.and_eq_false_iff, Bool.not_eq_true', Bool.not_eq_false', decide_eq_true_eq, decide_eq_false_iff_not, Bool.false_eq_true, Bool.true_eq_false, reduceCtorEq] at h) <;> (try simp (disch := omega) only [sb_bt, w64, Int.reduceAdd, Int.reduceToNat, Int.toNat_natCast, not_true_eq_false, false_or] at h) <;> (try (exfalso; omega)))))
      rw [← e1]
      first | exact ge rfl | exact gvs (by (repeat' (first | exact finl_nil | apply finl_cons | exact Fin.refl _ _ _ | apply fin_pk2 | apply fin_pk3 | apply fin_agg | apply fin_tup | exact fin_nil | exact fin_sl rfl | exact fin_fz (by exact lkp) (by first | assumption | exact St.ns1 (by assumption) | exact St.ns2 (by assumption) | exact St.ns3 (by assumption) | exact St.ns4 (by assumption) | exact St.ns5 (by assumption) | exact St.ns6 (by assumption) | exact St.ns7 (by assumption) | exact St.ns8 (by assumption) | exact St.ns9 (by assumption) | exact St.ns10 (by assumption) | exact St.ns11 (by assumption) | exact St.ns12 (by assumption) | exact St.ns13 (by assumption) | exact St.ns14 (by assumption) | exact St.ns10 (by assumption) | exact St.ns11 (by assumption) | exact St.ns12 (by assumption) | exact St.ns13 (by assumption) | exact St.ns14 (by assumption)) (by first | exact rfl | assumption | (simp only [List.length_map, List.length_append, List.length_cons, List.length_nil]; done) | (simp only [List.length_map, List.length_append, List.length_cons, List.length_nil]; omega)) rfl (fun _ => rfl) | exact fin_eq rfl)))
    · obtain ⟨h1, h2, h3⟩ := dropc hd
      have h4 := get_map vc h3
      rcases hd' : c.attrs.drop i with _ | ⟨a, r'⟩
      · have := dropn hd'; omega
      obtain ⟨h1', h2', h3'⟩ := dropc hd'
      have h4' := get_map str1 h3'
      have haz := ha' a (List.mem_of_getElem? h3')
      have hvz := hz v (List.mem_of_getElem? h3)
      have htz := textV_size v.k v.n v.s
      have htp := textP_size a v haz
      rw [hd, hd', textGo] at hs1
      repeat' (first|(first|(refine jl ?_;first|refine j7 ?_|refine j8 ?_|refine j10 ?_|refine j11 ?_|refine jtf ?_|refine jb ?_|refine jbl ?_|refine j1 ?_|refine j2 ?_|refine j3 ?_|refine j3f ?_|refine j4 ?_|refine j5 ?_|refine j6 ?_|refine j9 ?_|refine j12 (fun id hid=>?_)|refine j13 (fun id hid=>?_)|refine j14 ?_|refine j15 ?_|refine j17t ?_|refine j17 ?_|refine j16 ?_|refine j18 ?_|refine j19 ?_|refine j20 ?_|refine j21 ?_|refine j23 ?_|refine j24 ?_|refine j25 ?_|refine j26 ?_|refine jeq ?_|refine jeqq ?_|refine jne ?_|refine jneq ?_|refine jxe ?_|refine jxn ?_|refine jcbq ?_|refine ji1 ?_|refine ji2 ?_|refine ji3 ?_|refine ji4 ?_|refine ji5 ?_|refine ji6 ?_|refine j22 (fun id hid=>?_)|refine jp (p_rtextv v.k v.n v.s (by omega)) ?_|refine jpy (p_rtextv v.k v.n v.s (by omega)) ?_|refine jcq (hp:=fun hc=>p_rtextv v.k v.n v.s (by omega)) ?_|refine jlit ?_|refine jmk ?_|refine jap ?_)|(refine dl ?_;first|refine d7 ?_|refine d8 ?_|refine d10 ?_|refine d11 ?_|refine dtf ?_|refine dbd ?_|refine dbl ?_|refine d1 ?_|refine d2 ?_|refine d3 ?_|refine d3f ?_|refine d4 ?_|refine d9 ?_|refine d14 ?_|refine d14a ?_|refine d15 ?_|refine d16 ?_|refine d18 ?_|refine d19 ?_|refine d20 ?_|refine d21 ?_|refine d25 ?_|refine d17 ?_|refine deq ?_|refine deqq ?_|refine dne ?_|refine dneq ?_|refine dxe ?_|refine dxn ?_|refine dcb ?_|refine dcbq ?_|refine di1 ?_|refine di2 ?_|refine di3 ?_|refine di4 ?_|refine di6 ?_|refine dp (p_rtextv v.k v.n v.s (by omega)) ?_|refine dpy (p_rtextv v.k v.n v.s (by omega)) ?_|refine dpq (hp:=fun hc=>p_rtextv v.k v.n v.s (by omega)) ?_)|(refine al ?_;first|refine a7 ?_|refine a8 ?_|refine a10 ?_|refine a11 ?_|refine abd ?_|refine abl ?_|refine a1 ?_|refine a2 ?_|refine a3 ?_|refine a3f ?_|refine a9 ?_|refine a14 ?_|refine a15 ?_|refine a16 ?_|refine a18 ?_|refine a21 ?_|refine a25 ?_|refine ai1 ?_|refine ai2 ?_|refine ai3 ?_|refine ai4 ?_|refine ai6 ?_|refine alit ?_|refine ap (p_rtextv v.k v.n v.s (by omega)) ?_|refine apy (p_rtextv v.k v.n v.s (by omega)) ?_|refine da_skip ?_|refine da_nil ?_)|(refine bl ?_;first|refine bbd ?_|refine bbl ?_|refine b1 ?_|refine b14 ?_|refine b17t ?_|refine b17 ?_|refine b25 ?_|refine db_nil ?_)|refine al_cons (fun id hid=>?_)|refine al_nil ?_|(refine jc ?_;first|refine c1 ?_|refine c2 ?_|refine c3 ?_|refine c4 ?_|refine c5 ?_|refine c6 ?_|refine c7 ?_|refine c8 ?_|refine cqa ?_|refine cqk ?_|refine cq ?_)|refine n1 ?_|refine n2 ?_|refine n3 ?_|refine n4 ?_|refine n5 ?_|refine n6 ?_|refine n7 ?_|refine n8 ?_|refine n9 ?_|refine n10 ?_|refine n13 ?_|refine n11 ?_|refine n12 ?_|refine n14 ?_|refine n15 ?_|refine n16 ?_)|(refine c9 (fun h=>?_) (fun h=>?_)<;>((try simp only [Bool.or_eq_true, Bool.and_eq_true, Bool.or_eq_false_iff, Bool.and_eq_false_iff, Bool.not_eq_true', Bool.not_eq_false', decide_eq_true_eq, decide_eq_false_iff_not, Bool.false_eq_true, Bool.true_eq_false, reduceCtorEq] at h) <;> (try simp (disch := omega) only [sb_bt, w64, Int.reduceAdd, Int.reduceToNat, Int.toNat_natCast, not_true_eq_false, false_or] at h) <;> (try (exfalso; omega)))))
      · rw [if_neg h] at hs1
        exact nx_for (i + 1, acc ++ textP a v) ⟨by dsimp only; rw [h2, h2']; exact hs1, by simp only [ByteArray.size_append]; omega, by dsimp only; omega⟩ (by dsimp only; omega) ⟨⟨_, rfl, wk1 (by omega)⟩, ⟨_, rfl, Wk.of_eq (congrArg (fun x => AV.v (Value.string x)) (by simp only [textP, ByteArray.append_assoc]; rfl))⟩, trivial⟩
      · rw [if_pos h] at hs1
        exact nx_for (i + 1, acc) ⟨by dsimp only; rw [h2, h2']; exact hs1, by dsimp only; omega, by dsimp only; omega⟩ (by dsimp only; omega) ⟨⟨_, rfl, wk1 (by omega)⟩, ⟨_, rfl, Wk.refl _⟩, trivial⟩
theorem p_textF (nl : Option Bool) (full : Bool) (l : List Cls) (f : Fc) (hz : ∀ v ∈ f.vals, v.s.size ≤ 60) (hc : f.cls.size ≤ 60) (hl : f.vals.length ≤ 20) (ha : ∀ c ∈ l, ∀ a ∈ c.attrs, a.size ≤ 60) : Pure Tryd.prog 20 [.sl nl full 2 (l.map cc), .agg (fc f)] (.v (.string (textF l f))) := by
  refine enterW Tryd.func20 rfl rfl rfl rfl (fun σ => ?_)
  obtain ⟨ft, fn, vs⟩ := f
  dsimp only at hz hc hl
  repeat' (first|(first|(refine jl ?_;first|refine j7 ?_|refine j8 ?_|refine j10 ?_|refine j11 ?_|refine jtf ?_|refine jb ?_|refine jbl ?_|refine j1 ?_|refine j2 ?_|refine j3 ?_|refine j3f ?_|refine j4 ?_|refine j5 ?_|refine j6 ?_|refine j9 ?_|refine j12 (fun id hid=>?_)|refine j13 (fun id hid=>?_)|refine j14 ?_|refine j15 ?_|refine j17t ?_|refine j17 ?_|refine j16 ?_|refine j18 ?_|refine j19 ?_|refine j20 ?_|refine j21 ?_|refine j23 ?_|refine j24 ?_|refine j25 ?_|refine j26 ?_|refine jeq ?_|refine jeqq ?_|refine jne ?_|refine jneq ?_|refine jxe ?_|refine jxn ?_|refine jcbq ?_|refine ji1 ?_|refine ji2 ?_|refine ji3 ?_|refine ji4 ?_|refine ji5 ?_|refine ji6 ?_|refine j22 (fun id hid=>?_)|refine jp (p_of _ _ _ _) ?_|refine jpy (p_of _ _ _ _) ?_|refine jcq (hp:=fun hc=>p_of _ _ _ _) ?_|refine jlit ?_|refine jmk ?_|refine jap ?_)|(refine dl ?_;first|refine d7 ?_|refine d8 ?_|refine d10 ?_|refine d11 ?_|refine dtf ?_|refine dbd ?_|refine dbl ?_|refine d1 ?_|refine d2 ?_|refine d3 ?_|refine d3f ?_|refine d4 ?_|refine d9 ?_|refine d14 ?_|refine d14a ?_|refine d15 ?_|refine d16 ?_|refine d18 ?_|refine d19 ?_|refine d20 ?_|refine d21 ?_|refine d25 ?_|refine d17 ?_|refine deq ?_|refine deqq ?_|refine dne ?_|refine dneq ?_|refine dxe ?_|refine dxn ?_|refine dcb ?_|refine dcbq ?_|refine di1 ?_|refine di2 ?_|refine di3 ?_|refine di4 ?_|refine di6 ?_|refine dp (p_of _ _ _ _) ?_|refine dpy (p_of _ _ _ _) ?_|refine dpq (hp:=fun hc=>p_of _ _ _ _) ?_)|(refine al ?_;first|refine a7 ?_|refine a8 ?_|refine a10 ?_|refine a11 ?_|refine abd ?_|refine abl ?_|refine a1 ?_|refine a2 ?_|refine a3 ?_|refine a3f ?_|refine a9 ?_|refine a14 ?_|refine a15 ?_|refine a16 ?_|refine a18 ?_|refine a21 ?_|refine a25 ?_|refine ai1 ?_|refine ai2 ?_|refine ai3 ?_|refine ai4 ?_|refine ai6 ?_|refine alit ?_|refine ap (p_of _ _ _ _) ?_|refine apy (p_of _ _ _ _) ?_|refine da_skip ?_|refine da_nil ?_)|(refine bl ?_;first|refine bbd ?_|refine bbl ?_|refine b1 ?_|refine b14 ?_|refine b17t ?_|refine b17 ?_|refine b25 ?_|refine db_nil ?_)|refine al_cons (fun id hid=>?_)|refine al_nil ?_|(refine jc ?_;first|refine c1 ?_|refine c2 ?_|refine c3 ?_|refine c4 ?_|refine c5 ?_|refine c6 ?_|refine c7 ?_|refine c8 ?_|refine cqa ?_|refine cqk ?_|refine cq ?_)|refine n1 ?_|refine n2 ?_|refine n3 ?_|refine n4 ?_|refine n5 ?_|refine n6 ?_|refine n7 ?_|refine n8 ?_|refine n9 ?_|refine n10 ?_|refine n13 ?_|refine n11 ?_|refine n12 ?_|refine n14 ?_|refine n15 ?_|refine n16 ?_)|(refine c9 (fun h=>?_) (fun h=>?_)<;>(try simp only [Bool.or_eq_true, Bool.and_eq_true, Bool.or_eq_false_iff, Bool.and_eq_false_iff, Bool.not_eq_true', Bool.not_eq_false', decide_eq_true_eq, decide_eq_false_iff_not, Bool.false_eq_true, Bool.true_eq_false, reduceCtorEq] at h)))
  · rw [textF, if_neg h]
    first | exact ge rfl | exact gvs (by (repeat' (first | exact finl_nil | apply finl_cons | exact Fin.refl _ _ _ | apply fin_pk2 | apply fin_pk3 | apply fin_agg | apply fin_tup | exact fin_nil | exact fin_sl rfl | exact fin_fz (by exact lkp) (by first | assumption | exact St.ns1 (by assumption) | exact St.ns2 (by assumption) | exact St.ns3 (by assumption) | exact St.ns4 (by assumption) | exact St.ns5 (by assumption) | exact St.ns6 (by assumption) | exact St.ns7 (by assumption) | exact St.ns8 (by assumption) | exact St.ns9 (by assumption) | exact St.ns10 (by assumption) | exact St.ns11 (by assumption) | exact St.ns12 (by assumption) | exact St.ns13 (by assumption) | exact St.ns14 (by assumption) | exact St.ns10 (by assumption) | exact St.ns11 (by assumption) | exact St.ns12 (by assumption) | exact St.ns13 (by assumption) | exact St.ns14 (by assumption)) (by first | exact rfl | assumption | (simp only [List.length_map, List.length_append, List.length_cons, List.length_nil]; done) | (simp only [List.length_map, List.length_append, List.length_cons, List.length_nil]; omega)) rfl (fun _ => rfl) | exact fin_eq rfl)))
  · obtain ⟨_, c, hc1, hc2, hc3, _⟩ := checkF_zero h
    rw [textF, if_pos h, hc2]
    dsimp only at hc3 ⊢
    have hn : (vs.map vc).length = vs.length := List.length_map ..
    have hn2 : (c.attrs.map str1).length = c.attrs.length := List.length_map ..
    have ha' := ha c (findC_mem hc1)
    have hsO : sOpen.size = 1 := rfl
    first | refine cj_id 3 (fun b0 e => ?_) | refine lj_id 3 (fun b0 e => ?_)
    subst e
    first | refine cj_id 5 (fun b1 e => ?_) | refine lj_id 5 (fun b1 e => ?_)
    subst e
    first | refine cj_id 7 (fun b e => ?_) | refine lj_id 7 (fun b e => ?_)
    subst e
    refine lj_bld 7 (fun τ w σ1 hb hw hle hk hbase hB => ?_)
    have t0 : τ b0 = some (.row 3 25 [fc ⟨ft, fn, vs⟩]) := hk _ _ (by first | assumption | exact St.nn0 (by assumption) | exact St.nn1 (by assumption) | exact St.nn2 (by assumption) | exact St.nn3 (by assumption) | exact St.nn4 (by assumption) | exact St.nn5 (by assumption) | exact St.nn6 (by assumption) | exact St.nn7 (by assumption) | exact St.nn8 (by assumption) | exact St.nn9 (by assumption) | exact St.nn10 (by assumption) | exact St.nn11 (by assumption) | exact St.nn12 (by assumption) | exact St.nn13 (by assumption) | exact Ne.symm (St.nn0 (by assumption)) | exact Ne.symm (St.nn1 (by assumption)) | exact Ne.symm (St.nn2 (by assumption)) | exact Ne.symm (St.nn3 (by assumption)) | exact Ne.symm (St.nn4 (by assumption)) | exact Ne.symm (St.nn5 (by assumption)) | exact Ne.symm (St.nn6 (by assumption)) | exact Ne.symm (St.nn7 (by assumption)) | exact Ne.symm (St.nn8 (by assumption)) | exact Ne.symm (St.nn9 (by assumption)) | exact Ne.symm (St.nn10 (by assumption)) | exact Ne.symm (St.nn11 (by assumption)) | exact Ne.symm (St.nn12 (by assumption)) | exact Ne.symm (St.nn13 (by assumption))) lkp
    have t1 : τ b1 = some (.row 2 54 [cc c]) := hk _ _ (by first | assumption | exact St.nn0 (by assumption) | exact St.nn1 (by assumption) | exact St.nn2 (by assumption) | exact St.nn3 (by assumption) | exact St.nn4 (by assumption) | exact St.nn5 (by assumption) | exact St.nn6 (by assumption) | exact St.nn7 (by assumption) | exact St.nn8 (by assumption) | exact St.nn9 (by assumption) | exact St.nn10 (by assumption) | exact St.nn11 (by assumption) | exact St.nn12 (by assumption) | exact St.nn13 (by assumption) | exact Ne.symm (St.nn0 (by assumption)) | exact Ne.symm (St.nn1 (by assumption)) | exact Ne.symm (St.nn2 (by assumption)) | exact Ne.symm (St.nn3 (by assumption)) | exact Ne.symm (St.nn4 (by assumption)) | exact Ne.symm (St.nn5 (by assumption)) | exact Ne.symm (St.nn6 (by assumption)) | exact Ne.symm (St.nn7 (by assumption)) | exact Ne.symm (St.nn8 (by assumption)) | exact Ne.symm (St.nn9 (by assumption)) | exact Ne.symm (St.nn10 (by assumption)) | exact Ne.symm (St.nn11 (by assumption)) | exact Ne.symm (St.nn12 (by assumption)) | exact Ne.symm (St.nn13 (by assumption))) lkp
    have hστ : σ.le τ := hbase σ (by first | assumption | exact St.ns1 (by assumption) | exact St.ns2 (by assumption) | exact St.ns3 (by assumption) | exact St.ns4 (by assumption) | exact St.ns5 (by assumption) | exact St.ns6 (by assumption) | exact St.ns7 (by assumption) | exact St.ns8 (by assumption) | exact St.ns9 (by assumption) | exact St.ns10 (by assumption) | exact St.ns11 (by assumption) | exact St.ns12 (by assumption) | exact St.ns13 (by assumption) | exact St.ns14 (by assumption) | exact St.ns10 (by assumption) | exact St.ns11 (by assumption) | exact St.ns12 (by assumption) | exact St.ns13 (by assumption) | exact St.ns14 (by assumption)) (by repeat' (first | exact St.le_refl _ | refine St.le_any ?_))
    refine lj_calls rfl rfl rfl (q_wstr hle hb hw hB (sOpen ++ fn) (by simp only [ByteArray.size_append]; have : noB.size = 0 := rfl; omega)) (fun r σ2 hr => ?_) (fun x σ2 ⟨h, _⟩ => by cases h)
    obtain ⟨hr, w1, hw1, hB1, hle1⟩ := hr
    cases hr
    have t2 := hle1 _ _ t0
    have t3 := hle1 _ _ t1
    repeat (first|(refine jl ?_;first|refine j7 ?_|refine j8 ?_|refine j10 ?_|refine j11 ?_|refine jtf ?_|refine jb ?_|refine jbl ?_|refine j1 ?_|refine j2 ?_|refine j3 ?_|refine j3f ?_|refine j4 ?_|refine j5 ?_|refine j6 ?_|refine j9 ?_|refine j12 (fun id hid=>?_)|refine j13 (fun id hid=>?_)|refine j14 ?_|refine j15 ?_|refine j17t ?_|refine j17 ?_|refine j16 ?_|refine j18 ?_|refine j19 ?_|refine j20 ?_|refine j21 ?_|refine j23 ?_|refine j24 ?_|refine j25 ?_|refine j26 ?_|refine jeq ?_|refine jeqq ?_|refine jne ?_|refine jneq ?_|refine jxe ?_|refine jxn ?_|refine jcbq ?_|refine ji1 ?_|refine ji2 ?_|refine ji3 ?_|refine ji4 ?_|refine ji5 ?_|refine ji6 ?_|refine j22 (fun id hid=>?_)|refine jlit ?_|refine jmk ?_|refine jap ?_)|(refine dl ?_;first|refine d7 ?_|refine d8 ?_|refine d10 ?_|refine d11 ?_|refine dtf ?_|refine dbd ?_|refine dbl ?_|refine d1 ?_|refine d2 ?_|refine d3 ?_|refine d3f ?_|refine d4 ?_|refine d9 ?_|refine d14 ?_|refine d14a ?_|refine d15 ?_|refine d16 ?_|refine d18 ?_|refine d19 ?_|refine d20 ?_|refine d21 ?_|refine d25 ?_|refine d17 ?_|refine deq ?_|refine deqq ?_|refine dne ?_|refine dneq ?_|refine dxe ?_|refine dxn ?_|refine dcb ?_|refine dcbq ?_|refine di1 ?_|refine di2 ?_|refine di3 ?_|refine di4 ?_|refine di6 ?_)|(refine al ?_;first|refine a7 ?_|refine a8 ?_|refine a10 ?_|refine a11 ?_|refine abd ?_|refine abl ?_|refine a1 ?_|refine a2 ?_|refine a3 ?_|refine a3f ?_|refine a9 ?_|refine a14 ?_|refine a15 ?_|refine a16 ?_|refine a18 ?_|refine a21 ?_|refine a25 ?_|refine ai1 ?_|refine ai2 ?_|refine ai3 ?_|refine ai4 ?_|refine ai6 ?_|refine alit ?_|refine da_skip ?_|refine da_nil ?_)|(refine bl ?_;first|refine bbd ?_|refine bbl ?_|refine b1 ?_|refine b14 ?_|refine b17t ?_|refine b17 ?_|refine b25 ?_|refine db_nil ?_)|refine al_cons (fun id hid=>?_)|refine al_nil ?_|(refine jc ?_;first|refine c1 ?_|refine c2 ?_|refine c3 ?_|refine c4 ?_|refine c5 ?_|refine c6 ?_|refine c7 ?_|refine c8 ?_|refine cqa ?_|refine cqk ?_|refine cq ?_)|refine n1 ?_|refine n2 ?_|refine n3 ?_|refine n4 ?_|refine n5 ?_|refine n6 ?_|refine n7 ?_|refine n8 ?_|refine n9 ?_|refine n10 ?_|refine n13 ?_|refine n11 ?_|refine n12 ?_|refine n14 ?_|refine n15 ?_|refine n16 ?_)
    rw [noB_app] at hB1
    refine cj_for (fun s : Nat × ByteArray × Nat => (textGo (c.attrs.drop s.1) (vs.drop s.1) s.2.1 = textGo c.attrs vs (sOpen ++ fn) ∧ s.2.1.size ≤ 61 + 100 * s.1 ∧ s.1 ≤ vs.length ∧ 0 < s.2.1.size) ∧ τ s.2.2 = none ∧ s.2.2 ≠ b) (fun s => [(25, .v (.int .i64 s.1))]) (fun s => bldS τ b s.2.2 s.2.1 true) (fun s => vs.length - s.1) (0, sOpen ++ fn, w1) ⟨⟨rfl, by simp only [ByteArray.size_append]; omega, Nat.zero_le _, by simp only [ByteArray.size_append]; omega⟩, hw1, hB1.2.2⟩ ⟨⟨_, rfl, fun _ _ h => h⟩, trivial⟩ (bldS_le hle1 hB1) (fun s hs => ?_)
    clear hB1 hle1 t2 t3 hw1 hB hw hle w w1
    obtain ⟨i, acc, w⟩ := s
    obtain ⟨⟨hs1, hs2, hs3, hs4⟩, hw, hne⟩ := hs
    dsimp only at hs1 hs2 hs3 hs4 hw hne ⊢
    refine cj_name (fun σ3 hσ3 => ?_)
    have hB : Bld σ3 b w acc.data.toList true := hσ3 ▸ bldS_bld hne
    have hle : τ.le σ3 := hσ3 ▸ bldS_keep hb hw
    clear hσ3
    have t2 := hle _ _ t0
    have t3 := hle _ _ t1
    rcases hd : vs.drop i with _ | ⟨v, r⟩
    · have h0 := dropn hd
      rw [hd] at hs1
      have e1 : acc = textGo c.attrs vs (sOpen ++ fn) := by
        rw [← hs1]
        cases c.attrs.drop i <;> rfl
      repeat' (first|(first|(refine jl ?_;first|refine j7 ?_|refine j8 ?_|refine j10 ?_|refine j11 ?_|refine jtf ?_|refine jb ?_|refine jbl ?_|refine j1 ?_|refine j2 ?_|refine j3 ?_|refine j3f ?_|refine j4 ?_|refine j5 ?_|refine j6 ?_|refine j9 ?_|refine j12 (fun id hid=>?_)|refine j13 (fun id hid=>?_)|refine j14 ?_|refine j15 ?_|refine j17t ?_|refine j17 ?_|refine j16 ?_|refine j18 ?_|refine j19 ?_|refine j20 ?_|refine j21 ?_|refine j23 ?_|refine j24 ?_|refine j25 ?_|refine j26 ?_|refine jeq ?_|refine jeqq ?_|refine jne ?_|refine jneq ?_|refine jxe ?_|refine jxn ?_|refine jcbq ?_|refine ji1 ?_|refine ji2 ?_|refine ji3 ?_|refine ji4 ?_|refine ji5 ?_|refine ji6 ?_|refine j22 (fun id hid=>?_)|refine lj_to rfl rfl rfl (q_bstr hB (by omega) (by omega)) ?_|refine jlit ?_|refine jmk ?_|refine jap ?_)|(refine dl ?_;first|refine d7 ?_|refine d8 ?_|refine d10 ?_|refine d11 ?_|refine dtf ?_|refine dbd ?_|refine dbl ?_|refine d1 ?_|refine d2 ?_|refine d3 ?_|refine d3f ?_|refine d4 ?_|refine d9 ?_|refine d14 ?_|refine d14a ?_|refine d15 ?_|refine d16 ?_|refine d18 ?_|refine d19 ?_|refine d20 ?_|refine d21 ?_|refine d25 ?_|refine d17 ?_|refine deq ?_|refine deqq ?_|refine dne ?_|refine dneq ?_|refine dxe ?_|refine dxn ?_|refine dcb ?_|refine dcbq ?_|refine di1 ?_|refine di2 ?_|refine di3 ?_|refine di4 ?_|refine di6 ?_)|(refine al ?_;first|refine a7 ?_|refine a8 ?_|refine a10 ?_|refine a11 ?_|refine abd ?_|refine abl ?_|refine a1 ?_|refine a2 ?_|refine a3 ?_|refine a3f ?_|refine a9 ?_|refine a14 ?_|refine a15 ?_|refine a16 ?_|refine a18 ?_|refine a21 ?_|refine a25 ?_|refine ai1 ?_|refine ai2 ?_|refine ai3 ?_|refine ai4 ?_|refine ai6 ?_|refine alit ?_|refine da_skip ?_|refine da_nil ?_)|(refine bl ?_;first|refine bbd ?_|refine bbl ?_|refine b1 ?_|refine b14 ?_|refine b17t ?_|refine b17 ?_|refine b25 ?_|refine db_nil ?_)|refine al_cons (fun id hid=>?_)|refine al_nil ?_|(refine jc ?_;first|refine c1 ?_|refine c2 ?_|refine c3 ?_|refine c4 ?_|refine c5 ?_|refine c6 ?_|refine c7 ?_|refine c8 ?_|refine cqa ?_|refine cqk ?_|refine cq ?_)|refine n1 ?_|refine n2 ?_|refine n3 ?_|refine n4 ?_|refine n5 ?_|refine n6 ?_|refine n7 ?_|refine n8 ?_|refine n9 ?_|refine n10 ?_|refine n13 ?_|refine n11 ?_|refine n12 ?_|refine n14 ?_|refine n15 ?_|refine n16 ?_)|(refine c9 (fun h=>?_) (fun h=>?_)<;>((try simp only [Bool.or_eq_true, Bool.and_eq_true, Bool.or_eq_false_iff, Bool.and_eq_false_iff, Bool.not_eq_true', Bool.not_eq_false', decide_eq_true_eq, decide_eq_false_iff_not, Bool.false_eq_true, Bool.true_eq_false, reduceCtorEq] at h) <;> (try simp (disch := omega) only [sb_bt, w64, Int.reduceAdd, Int.reduceToNat, Int.toNat_natCast, not_true_eq_false, false_or] at h) <;> (try (exfalso; omega)))))
      rw [← e1]
      exact gv (Wk.refl _) (St.le_del (St.le_trans hστ hle) (St.none_le hστ hw))
    · obtain ⟨h1, h2, h3⟩ := dropc hd
      have h4 := get_map vc h3
      rcases hd' : c.attrs.drop i with _ | ⟨a, r'⟩
      · have := dropn hd'; omega
      obtain ⟨h1', h2', h3'⟩ := dropc hd'
      have h4' := get_map str1 h3'
      have haz := ha' a (List.mem_of_getElem? h3')
      have hvz := hz v (List.mem_of_getElem? h3)
      have htz := textV_size v.k v.n v.s
      have htp := textP_size a v haz
      rw [hd, hd', textGo] at hs1
      repeat' (first|(first|(refine jl ?_;first|refine j7 ?_|refine j8 ?_|refine j10 ?_|refine j11 ?_|refine jtf ?_|refine jb ?_|refine jbl ?_|refine j1 ?_|refine j2 ?_|refine j3 ?_|refine j3f ?_|refine j4 ?_|refine j5 ?_|refine j6 ?_|refine j9 ?_|refine j12 (fun id hid=>?_)|refine j13 (fun id hid=>?_)|refine j14 ?_|refine j15 ?_|refine j17t ?_|refine j17 ?_|refine j16 ?_|refine j18 ?_|refine j19 ?_|refine j20 ?_|refine j21 ?_|refine j23 ?_|refine j24 ?_|refine j25 ?_|refine j26 ?_|refine jeq ?_|refine jeqq ?_|refine jne ?_|refine jneq ?_|refine jxe ?_|refine jxn ?_|refine jcbq ?_|refine ji1 ?_|refine ji2 ?_|refine ji3 ?_|refine ji4 ?_|refine ji5 ?_|refine ji6 ?_|refine j22 (fun id hid=>?_)|refine jp (p_textv v.k v.n v.s) ?_|refine jpy (p_textv v.k v.n v.s) ?_|refine jcq (hp:=fun hc=>p_textv v.k v.n v.s) ?_|refine jlit ?_|refine jmk ?_|refine jap ?_)|(refine dl ?_;first|refine d7 ?_|refine d8 ?_|refine d10 ?_|refine d11 ?_|refine dtf ?_|refine dbd ?_|refine dbl ?_|refine d1 ?_|refine d2 ?_|refine d3 ?_|refine d3f ?_|refine d4 ?_|refine d9 ?_|refine d14 ?_|refine d14a ?_|refine d15 ?_|refine d16 ?_|refine d18 ?_|refine d19 ?_|refine d20 ?_|refine d21 ?_|refine d25 ?_|refine d17 ?_|refine deq ?_|refine deqq ?_|refine dne ?_|refine dneq ?_|refine dxe ?_|refine dxn ?_|refine dcb ?_|refine dcbq ?_|refine di1 ?_|refine di2 ?_|refine di3 ?_|refine di4 ?_|refine di6 ?_|refine dp (p_textv v.k v.n v.s) ?_|refine dpy (p_textv v.k v.n v.s) ?_|refine dpq (hp:=fun hc=>p_textv v.k v.n v.s) ?_)|(refine al ?_;first|refine a7 ?_|refine a8 ?_|refine a10 ?_|refine a11 ?_|refine abd ?_|refine abl ?_|refine a1 ?_|refine a2 ?_|refine a3 ?_|refine a3f ?_|refine a9 ?_|refine a14 ?_|refine a15 ?_|refine a16 ?_|refine a18 ?_|refine a21 ?_|refine a25 ?_|refine ai1 ?_|refine ai2 ?_|refine ai3 ?_|refine ai4 ?_|refine ai6 ?_|refine alit ?_|refine ap (p_textv v.k v.n v.s) ?_|refine apy (p_textv v.k v.n v.s) ?_|refine da_skip ?_|refine da_nil ?_)|(refine bl ?_;first|refine bbd ?_|refine bbl ?_|refine b1 ?_|refine b14 ?_|refine b17t ?_|refine b17 ?_|refine b25 ?_|refine db_nil ?_)|refine al_cons (fun id hid=>?_)|refine al_nil ?_|(refine jc ?_;first|refine c1 ?_|refine c2 ?_|refine c3 ?_|refine c4 ?_|refine c5 ?_|refine c6 ?_|refine c7 ?_|refine cqe 10 false ?_|refine c8 ?_|refine cqa ?_|refine cqk ?_|refine cq ?_)|refine n1 ?_|refine n2 ?_|refine n3 ?_|refine n4 ?_|refine n5 ?_|refine n6 ?_|refine n7 ?_|refine n8 ?_|refine n9 ?_|refine n10 ?_|refine n13 ?_|refine n11 ?_|refine n12 ?_|refine n14 ?_|refine n15 ?_|refine n16 ?_)|(refine c9 (fun h=>?_) (fun h=>?_)<;>((try simp only [Bool.or_eq_true, Bool.and_eq_true, Bool.or_eq_false_iff, Bool.and_eq_false_iff, Bool.not_eq_true', Bool.not_eq_false', decide_eq_true_eq, decide_eq_false_iff_not, Bool.false_eq_true, Bool.true_eq_false, reduceCtorEq] at h) <;> (try simp (disch := omega) only [sb_bt, w64, Int.reduceAdd, Int.reduceToNat, Int.toNat_natCast, not_true_eq_false, false_or] at h) <;> (try (exfalso; omega)))))
      · rw [if_neg h] at hs1
        have hne1 := hB.neb hid
        have hne2 := hB.new hid
        have hnτ := St.none_le hle hid
        have e : ({ data := #[32, 94] } ++ a ++ { data := #[32] } ++ textV v.k v.n v.s : ByteArray) = textP a v := rfl
        rw [e]
        refine bcall (q_wstr (τ := τ) (St.le_any hle hnτ) hb hw (hB.set hne1 hne2) (textP a v) (by omega)) (fun r σ4 hC => ?_) (fun x σ' h => by cases h.1)
        obtain ⟨hr, w', hw', hB', hle'⟩ := hC
        cases hr
        repeat (first|(refine jl ?_;first|refine j7 ?_|refine j8 ?_|refine j10 ?_|refine j11 ?_|refine jtf ?_|refine jb ?_|refine jbl ?_|refine j1 ?_|refine j2 ?_|refine j3 ?_|refine j3f ?_|refine j4 ?_|refine j5 ?_|refine j6 ?_|refine j9 ?_|refine j12 (fun id hid=>?_)|refine j13 (fun id hid=>?_)|refine j14 ?_|refine j15 ?_|refine j17t ?_|refine j17 ?_|refine j16 ?_|refine j18 ?_|refine j19 ?_|refine j20 ?_|refine j21 ?_|refine j23 ?_|refine j24 ?_|refine j25 ?_|refine j26 ?_|refine jeq ?_|refine jeqq ?_|refine jne ?_|refine jneq ?_|refine jxe ?_|refine jxn ?_|refine jcbq ?_|refine ji1 ?_|refine ji2 ?_|refine ji3 ?_|refine ji4 ?_|refine ji5 ?_|refine ji6 ?_|refine j22 (fun id hid=>?_)|refine jlit ?_|refine jmk ?_|refine jap ?_)|(refine dl ?_;first|refine d7 ?_|refine d8 ?_|refine d10 ?_|refine d11 ?_|refine dtf ?_|refine dbd ?_|refine dbl ?_|refine d1 ?_|refine d2 ?_|refine d3 ?_|refine d3f ?_|refine d4 ?_|refine d9 ?_|refine d14 ?_|refine d14a ?_|refine d15 ?_|refine d16 ?_|refine d18 ?_|refine d19 ?_|refine d20 ?_|refine d21 ?_|refine d25 ?_|refine d17 ?_|refine deq ?_|refine deqq ?_|refine dne ?_|refine dneq ?_|refine dxe ?_|refine dxn ?_|refine dcb ?_|refine dcbq ?_|refine di1 ?_|refine di2 ?_|refine di3 ?_|refine di4 ?_|refine di6 ?_)|(refine al ?_;first|refine a7 ?_|refine a8 ?_|refine a10 ?_|refine a11 ?_|refine abd ?_|refine abl ?_|refine a1 ?_|refine a2 ?_|refine a3 ?_|refine a3f ?_|refine a9 ?_|refine a14 ?_|refine a15 ?_|refine a16 ?_|refine a18 ?_|refine a21 ?_|refine a25 ?_|refine ai1 ?_|refine ai2 ?_|refine ai3 ?_|refine ai4 ?_|refine ai6 ?_|refine alit ?_|refine da_skip ?_|refine da_nil ?_)|(refine bl ?_;first|refine bbd ?_|refine bbl ?_|refine b1 ?_|refine b14 ?_|refine b17t ?_|refine b17 ?_|refine b25 ?_|refine db_nil ?_)|refine al_cons (fun id hid=>?_)|refine al_nil ?_|(refine jc ?_;first|refine c1 ?_|refine c2 ?_|refine c3 ?_|refine c4 ?_|refine c5 ?_|refine c6 ?_|refine c7 ?_|refine c8 ?_|refine cqa ?_|refine cqk ?_|refine cq ?_)|refine n1 ?_|refine n2 ?_|refine n3 ?_|refine n4 ?_|refine n5 ?_|refine n6 ?_|refine n7 ?_|refine n8 ?_|refine n9 ?_|refine n10 ?_|refine n13 ?_|refine n11 ?_|refine n12 ?_|refine n14 ?_|refine n15 ?_|refine n16 ?_)
        exact nx_forS (i + 1, acc ++ textP a v, w') ⟨⟨by dsimp only; rw [h2, h2']; exact hs1, by simp only [ByteArray.size_append]; omega, by dsimp only; omega, by simp only [ByteArray.size_append]; omega⟩, hw', hB'.2.2⟩ (by dsimp only; omega) ⟨⟨_, rfl, wk1 (by omega)⟩, trivial⟩ (bldS_le hle' hB')
      · rw [if_pos h] at hs1
        have hne1 := hB.neb hid
        have hne2 := hB.new hid
        have hnτ := St.none_le hle hid
        exact nx_forS (i + 1, acc, w) ⟨⟨by dsimp only; rw [h2, h2']; exact hs1, by dsimp only; omega, by dsimp only; omega, hs4⟩, hw, hne⟩ (by dsimp only; omega) ⟨⟨_, rfl, wk1 (by omega)⟩, trivial⟩ (bldS_le (St.le_any hle hnτ) (hB.set hne1 hne2))
end Go.Proofs.YtcpokdjppedaoaaDoor.Ab

/- Facts made, looked at; what every right program makes. -/
set_option linter.unusedVariables false
set_option linter.unusedSimpArgs false
set_option maxRecDepth 20000
namespace Go.Proofs.YtcpokdjppedaoaaDoor.Ab
open Go
attribute [local irreducible] thn inb endR CJ LJ OpJ DJ DA DB AllocK

def emptyF (c : Cls) (nm : ByteArray) : Fc := ⟨1, nm, List.replicate c.attrs.length noV⟩
def makeR (l : List Cls) (n : Int) (nm : ByteArray) (sets : List Bd) : Int := match findC nm l with
  | none => 18
  | some c => (withR l (emptyF c nm) n sets).1
def makeF (l : List Cls) (n : Int) (nm : ByteArray) (sets : List Bd) : Fc := match findC nm l with
  | none => noF
  | some c => withF l (emptyF c nm) n sets
theorem rep_noV (c : Cls) : List.replicate (((c.attrs.map str1).length : Nat) : Int).toNat [AV.v (.int .u8 0), .v (.int .i64 0), .v (.string ⟨#[]⟩)] = (emptyF c ⟨#[]⟩).vals.map vc := by
  rw [List.length_map, Int.toNat_natCast, emptyF, List.map_replicate]; rfl
theorem p_make (nl nl' : Option Bool) (full full' : Bool) (l : List Cls) (n : Int) (nm : ByteArray) (sets : List Bd) (hl : ∀ c ∈ l, c.attrs.length ≤ 20) (hz2 : ∀ b ∈ sets, b.val.s.size ≤ 60) : Pure Tryd.prog 11 [.sl nl full 2 (l.map cc), .v (.int .i64 n), .v (.string nm), .sl nl' full' 4 (sets.map bc)] (.tup [.agg (fc (makeF l n nm sets)), .v (.int .i64 (makeR l n nm sets))]) := by
  refine enterW Tryd.func11 rfl rfl rfl rfl (fun σ => ?_)
  cases hf : findC nm l with
  | none =>
    rw [makeF, makeR, hf]
    repeat' (first|(first|(refine jl ?_;first|refine j7 ?_|refine j8 ?_|refine j10 ?_|refine j11 ?_|refine jtf ?_|refine jb ?_|refine jbl ?_|refine j1 ?_|refine j2 ?_|refine j3 ?_|refine j3f ?_|refine j4 ?_|refine j5 ?_|refine j6 ?_|refine j9 ?_|refine j12 (fun id hid=>?_)|refine j13 (fun id hid=>?_)|refine j14 ?_|refine j15 ?_|refine j17t ?_|refine j17 ?_|refine j16 ?_|refine j18 ?_|refine j19 ?_|refine j20 ?_|refine j21 ?_|refine j23 ?_|refine j24 ?_|refine j25 ?_|refine j26 ?_|refine jeq ?_|refine jeqq ?_|refine jne ?_|refine jneq ?_|refine jxe ?_|refine jxn ?_|refine jcbq ?_|refine ji1 ?_|refine ji2 ?_|refine ji3 ?_|refine ji4 ?_|refine ji5 ?_|refine ji6 ?_|refine j22 (fun id hid=>?_)|refine jp (p_find _ _ _ _) ?_|refine jpy (p_find _ _ _ _) ?_|refine jcq (hp:=fun hc=>p_find _ _ _ _) ?_|refine jlit ?_|refine jmk ?_|refine jap ?_)|(refine dl ?_;first|refine d7 ?_|refine d8 ?_|refine d10 ?_|refine d11 ?_|refine dtf ?_|refine dbd ?_|refine dbl ?_|refine d1 ?_|refine d2 ?_|refine d3 ?_|refine d3f ?_|refine d4 ?_|refine d9 ?_|refine d14 ?_|refine d14a ?_|refine d15 ?_|refine d16 ?_|refine d18 ?_|refine d19 ?_|refine d20 ?_|refine d21 ?_|refine d25 ?_|refine d17 ?_|refine deq ?_|refine deqq ?_|refine dne ?_|refine dneq ?_|refine dxe ?_|refine dxn ?_|refine dcb ?_|refine dcbq ?_|refine di1 ?_|refine di2 ?_|refine di3 ?_|refine di4 ?_|refine di6 ?_|refine dp (p_find _ _ _ _) ?_|refine dpy (p_find _ _ _ _) ?_|refine dpq (hp:=fun hc=>p_find _ _ _ _) ?_)|(refine al ?_;first|refine a7 ?_|refine a8 ?_|refine a10 ?_|refine a11 ?_|refine abd ?_|refine abl ?_|refine a1 ?_|refine a2 ?_|refine a3 ?_|refine a3f ?_|refine a9 ?_|refine a14 ?_|refine a15 ?_|refine a16 ?_|refine a18 ?_|refine a21 ?_|refine a25 ?_|refine ai1 ?_|refine ai2 ?_|refine ai3 ?_|refine ai4 ?_|refine ai6 ?_|refine alit ?_|refine ap (p_find _ _ _ _) ?_|refine apy (p_find _ _ _ _) ?_|refine da_skip ?_|refine da_nil ?_)|(refine bl ?_;first|refine bbd ?_|refine bbl ?_|refine b1 ?_|refine b14 ?_|refine b17t ?_|refine b17 ?_|refine b25 ?_|refine db_nil ?_)|refine al_cons (fun id hid=>?_)|refine al_nil ?_|(refine jc ?_;first|refine c1 ?_|refine c2 ?_|refine c3 ?_|refine c4 ?_|refine c5 ?_|refine c6 ?_|refine c7 ?_|refine c8 ?_|refine cqa ?_|refine cqk ?_|refine cq ?_)|refine n1 ?_|refine n2 ?_|refine n3 ?_|refine n4 ?_|refine n5 ?_|refine n6 ?_|refine n7 ?_|refine n8 ?_|refine n9 ?_|refine n10 ?_|refine n13 ?_|refine n11 ?_|refine n12 ?_|refine n14 ?_|refine n15 ?_|refine n16 ?_)|(refine c9 (fun h=>?_) (fun h=>?_)<;>(try simp only [Bool.or_eq_true, Bool.and_eq_true, Bool.or_eq_false_iff, Bool.and_eq_false_iff, Bool.not_eq_true', Bool.not_eq_false', decide_eq_true_eq, decide_eq_false_iff_not, Bool.false_eq_true, Bool.true_eq_false, reduceCtorEq] at h)))
    · first | exact ge rfl | exact gvs (by (repeat' (first | exact finl_nil | apply finl_cons | exact Fin.refl _ _ _ | apply fin_pk2 | apply fin_pk3 | apply fin_agg | apply fin_tup | exact fin_nil | exact fin_sl rfl | exact fin_fz (by exact lkp) (by first | assumption | exact St.ns1 (by assumption) | exact St.ns2 (by assumption) | exact St.ns3 (by assumption) | exact St.ns4 (by assumption) | exact St.ns5 (by assumption) | exact St.ns6 (by assumption) | exact St.ns7 (by assumption) | exact St.ns8 (by assumption) | exact St.ns9 (by assumption) | exact St.ns10 (by assumption) | exact St.ns11 (by assumption) | exact St.ns12 (by assumption) | exact St.ns13 (by assumption) | exact St.ns14 (by assumption) | exact St.ns10 (by assumption) | exact St.ns11 (by assumption) | exact St.ns12 (by assumption) | exact St.ns13 (by assumption) | exact St.ns14 (by assumption)) (by first | exact rfl | assumption | (simp only [List.length_map, List.length_append, List.length_cons, List.length_nil]; done) | (simp only [List.length_map, List.length_append, List.length_cons, List.length_nil]; omega)) rfl (fun _ => rfl) | exact fin_eq rfl)))
    · rw [hf] at h; cases h
  | some c =>
    rw [makeF, makeR, hf]
    dsimp only
    have hc := hl c (findC_mem hf)
    have hgc : (findC nm l).getD noC = c := by rw [hf]; rfl
    have hn : (c.attrs.map str1).length = c.attrs.length := List.length_map ..
    have hlv : (emptyF c nm).vals.length ≤ 65536 := by unfold emptyF; rw [List.length_replicate]; omega
    have hz : ∀ v ∈ (emptyF c nm).vals, v.s.size ≤ 60 := fun v hv => by
      rw [(List.mem_replicate.1 hv).2]; decide
    repeat' (first|(first|(refine jl ?_;first|refine j7 ?_|refine j8 ?_|refine j10 ?_|refine j11 ?_|refine jtf ?_|refine jb ?_|refine jbl ?_|refine j1 ?_|refine j2 ?_|refine j3 ?_|refine j3f ?_|refine j4 ?_|refine j5 ?_|refine j6 ?_|refine j9 ?_|refine j12 (fun id hid=>?_)|refine j13 (fun id hid=>?_)|refine j14 ?_|refine j15 ?_|refine j17t ?_|refine j17 ?_|refine j16 ?_|refine j18 ?_|refine j19 ?_|refine j20 ?_|refine j21 ?_|refine j23 ?_|refine j24 ?_|refine j25 ?_|refine j26 ?_|refine jeq ?_|refine jeqq ?_|refine jne ?_|refine jneq ?_|refine jxe ?_|refine jxn ?_|refine jcbq ?_|refine ji1 ?_|refine ji2 ?_|refine ji3 ?_|refine ji4 ?_|refine ji5 ?_|refine ji6 ?_|refine j22 (fun id hid=>?_)|refine jp (p_find _ _ _ _) ?_|refine jpy (p_find _ _ _ _) ?_|refine jcq (hp:=fun hc=>p_find _ _ _ _) ?_)|(refine dl ?_;first|refine d7 ?_|refine d8 ?_|refine d10 ?_|refine d11 ?_|refine dtf ?_|refine dbd ?_|refine dbl ?_|refine d1 ?_|refine d2 ?_|refine d3 ?_|refine d3f ?_|refine d4 ?_|refine d9 ?_|refine d14 ?_|refine d14a ?_|refine d15 ?_|refine d16 ?_|refine d18 ?_|refine d19 ?_|refine d20 ?_|refine d21 ?_|refine d25 ?_|refine d17 ?_|refine deq ?_|refine deqq ?_|refine dne ?_|refine dneq ?_|refine dxe ?_|refine dxn ?_|refine dcb ?_|refine dcbq ?_|refine di1 ?_|refine di2 ?_|refine di3 ?_|refine di4 ?_|refine di6 ?_|refine dp (p_find _ _ _ _) ?_|refine dpy (p_find _ _ _ _) ?_|refine dpq (hp:=fun hc=>p_find _ _ _ _) ?_)|(refine al ?_;first|refine a7 ?_|refine a8 ?_|refine a10 ?_|refine a11 ?_|refine abd ?_|refine abl ?_|refine a1 ?_|refine a2 ?_|refine a3 ?_|refine a3f ?_|refine a9 ?_|refine a14 ?_|refine a15 ?_|refine a16 ?_|refine a18 ?_|refine a21 ?_|refine a25 ?_|refine ai1 ?_|refine ai2 ?_|refine ai3 ?_|refine ai4 ?_|refine ai6 ?_|refine alit ?_|refine ap (p_find _ _ _ _) ?_|refine apy (p_find _ _ _ _) ?_|refine da_skip ?_|refine da_nil ?_)|(refine bl ?_;first|refine bbd ?_|refine bbl ?_|refine b1 ?_|refine b14 ?_|refine b17t ?_|refine b17 ?_|refine b25 ?_|refine db_nil ?_)|refine al_cons (fun id hid=>?_)|refine al_nil ?_|(refine jc ?_;first|refine c1 ?_|refine c2 ?_|refine c3 ?_|refine c4 ?_|refine c5 ?_|refine c6 ?_|refine c7 ?_|refine c8 ?_|refine cqa ?_|refine cqk ?_|refine cq ?_)|refine n1 ?_|refine n2 ?_|refine n3 ?_|refine n4 ?_|refine n5 ?_|refine n6 ?_|refine n7 ?_|refine n8 ?_|refine n9 ?_|refine n10 ?_|refine n13 ?_|refine n11 ?_|refine n12 ?_|refine n14 ?_|refine n15 ?_|refine n16 ?_)|(refine c9 (fun h=>?_) (fun h=>?_)<;>(try simp only [Bool.or_eq_true, Bool.and_eq_true, Bool.or_eq_false_iff, Bool.and_eq_false_iff, Bool.not_eq_true', Bool.not_eq_false', decide_eq_true_eq, decide_eq_false_iff_not, Bool.false_eq_true, Bool.true_eq_false, reduceCtorEq] at h)))
    · rw [hf] at h; cases h
    · rw [hgc]
      refine jmk ?_
      rw [rep_noV]
      repeat (first|(refine jl ?_;first|refine j7 ?_|refine j8 ?_|refine j10 ?_|refine j11 ?_|refine jtf ?_|refine jb ?_|refine jbl ?_|refine j1 ?_|refine j2 ?_|refine j3 ?_|refine j3f ?_|refine j4 ?_|refine j5 ?_|refine j6 ?_|refine j9 ?_|refine j12 (fun id hid=>?_)|refine j13 (fun id hid=>?_)|refine j14 ?_|refine j15 ?_|refine j17t ?_|refine j17 ?_|refine j16 ?_|refine j18 ?_|refine j19 ?_|refine j20 ?_|refine j21 ?_|refine j23 ?_|refine j24 ?_|refine j25 ?_|refine j26 ?_|refine jeq ?_|refine jeqq ?_|refine jne ?_|refine jneq ?_|refine jxe ?_|refine jxn ?_|refine jcbq ?_|refine ji1 ?_|refine ji2 ?_|refine ji3 ?_|refine ji4 ?_|refine ji5 ?_|refine ji6 ?_|refine j22 (fun id hid=>?_)|refine jp (p_withA nl nl' full full' l (emptyF c nm) n sets hlv) ?_|refine jpy (p_withA nl nl' full full' l (emptyF c nm) n sets hlv) ?_|refine jcq (hp:=fun hc=>p_withA nl nl' full full' l (emptyF c nm) n sets hlv) ?_|refine jlit ?_|refine jmk ?_|refine jap ?_)|(refine dl ?_;first|refine d7 ?_|refine d8 ?_|refine d10 ?_|refine d11 ?_|refine dtf ?_|refine dbd ?_|refine dbl ?_|refine d1 ?_|refine d2 ?_|refine d3 ?_|refine d3f ?_|refine d4 ?_|refine d9 ?_|refine d14 ?_|refine d14a ?_|refine d15 ?_|refine d16 ?_|refine d18 ?_|refine d19 ?_|refine d20 ?_|refine d21 ?_|refine d25 ?_|refine d17 ?_|refine deq ?_|refine deqq ?_|refine dne ?_|refine dneq ?_|refine dxe ?_|refine dxn ?_|refine dcb ?_|refine dcbq ?_|refine di1 ?_|refine di2 ?_|refine di3 ?_|refine di4 ?_|refine di6 ?_|refine dp (p_withA nl nl' full full' l (emptyF c nm) n sets hlv) ?_|refine dpy (p_withA nl nl' full full' l (emptyF c nm) n sets hlv) ?_|refine dpq (hp:=fun hc=>p_withA nl nl' full full' l (emptyF c nm) n sets hlv) ?_)|(refine al ?_;first|refine a7 ?_|refine a8 ?_|refine a10 ?_|refine a11 ?_|refine abd ?_|refine abl ?_|refine a1 ?_|refine a2 ?_|refine a3 ?_|refine a3f ?_|refine a9 ?_|refine a14 ?_|refine a15 ?_|refine a16 ?_|refine a18 ?_|refine a21 ?_|refine a25 ?_|refine ai1 ?_|refine ai2 ?_|refine ai3 ?_|refine ai4 ?_|refine ai6 ?_|refine alit ?_|refine ap (p_withA nl nl' full full' l (emptyF c nm) n sets hlv) ?_|refine apy (p_withA nl nl' full full' l (emptyF c nm) n sets hlv) ?_|refine da_skip ?_|refine da_nil ?_)|(refine bl ?_;first|refine bbd ?_|refine bbl ?_|refine b1 ?_|refine b14 ?_|refine b17t ?_|refine b17 ?_|refine b25 ?_|refine db_nil ?_)|refine al_cons (fun id hid=>?_)|refine al_nil ?_|(refine jc ?_;first|refine c1 ?_|refine c2 ?_|refine c3 ?_|refine c4 ?_|refine c5 ?_|refine c6 ?_|refine c7 ?_|refine c8 ?_|refine cqa ?_|refine cqk ?_|refine cq ?_)|refine n1 ?_|refine n2 ?_|refine n3 ?_|refine n4 ?_|refine n5 ?_|refine n6 ?_|refine n7 ?_|refine n8 ?_|refine n9 ?_|refine n10 ?_|refine n13 ?_|refine n11 ?_|refine n12 ?_|refine n14 ?_|refine n15 ?_|refine n16 ?_)
      first | exact ge rfl | exact gvs (by (repeat' (first | exact finl_nil | apply finl_cons | exact Fin.refl _ _ _ | apply fin_pk2 | apply fin_pk3 | apply fin_agg | apply fin_tup | exact fin_nil | exact fin_sl rfl | exact fin_fz (by exact lkp) (by first | assumption | exact St.ns1 (by assumption) | exact St.ns2 (by assumption) | exact St.ns3 (by assumption) | exact St.ns4 (by assumption) | exact St.ns5 (by assumption) | exact St.ns6 (by assumption) | exact St.ns7 (by assumption) | exact St.ns8 (by assumption) | exact St.ns9 (by assumption) | exact St.ns10 (by assumption) | exact St.ns11 (by assumption) | exact St.ns12 (by assumption) | exact St.ns13 (by assumption) | exact St.ns14 (by assumption) | exact St.ns10 (by assumption) | exact St.ns11 (by assumption) | exact St.ns12 (by assumption) | exact St.ns13 (by assumption) | exact St.ns14 (by assumption)) (by first | exact rfl | assumption | (simp only [List.length_map, List.length_append, List.length_cons, List.length_nil]; done) | (simp only [List.length_map, List.length_append, List.length_cons, List.length_nil]; omega)) rfl (fun _ => rfl) | exact fin_eq rfl)))
theorem p_rmake (nl nl' : Option Bool) (full full' : Bool) (l : List Cls) (n : Int) (nm : ByteArray) (sets : List Bd) (hl : ∀ c ∈ l, c.attrs.length ≤ 20) (hz2 : ∀ b ∈ sets, b.val.s.size ≤ 60) : Pure Tryd.prog 12 [.sl nl full 2 (l.map cc), .v (.int .i64 n), .v (.string nm), .sl nl' full' 4 (sets.map bc)] (.tup [.agg (fc (makeF l n nm sets)), .v (.int .i64 (makeR l n nm sets))]) := by
  refine enterW Tryd.func12 rfl rfl rfl rfl (fun σ => ?_)
  cases hf : findC nm l with
  | none =>
    rw [makeF, makeR, hf]
    repeat' (first|(first|(refine jl ?_;first|refine j7 ?_|refine j8 ?_|refine j10 ?_|refine j11 ?_|refine jtf ?_|refine jb ?_|refine jbl ?_|refine j1 ?_|refine j2 ?_|refine j3 ?_|refine j3f ?_|refine j4 ?_|refine j5 ?_|refine j6 ?_|refine j9 ?_|refine j12 (fun id hid=>?_)|refine j13 (fun id hid=>?_)|refine j14 ?_|refine j15 ?_|refine j17t ?_|refine j17 ?_|refine j16 ?_|refine j18 ?_|refine j19 ?_|refine j20 ?_|refine j21 ?_|refine j23 ?_|refine j24 ?_|refine j25 ?_|refine j26 ?_|refine jeq ?_|refine jeqq ?_|refine jne ?_|refine jneq ?_|refine jxe ?_|refine jxn ?_|refine jcbq ?_|refine ji1 ?_|refine ji2 ?_|refine ji3 ?_|refine ji4 ?_|refine ji5 ?_|refine ji6 ?_|refine j22 (fun id hid=>?_)|refine jp (p_rfind _ _ _ _) ?_|refine jpy (p_rfind _ _ _ _) ?_|refine jcq (hp:=fun hc=>p_rfind _ _ _ _) ?_|refine jlit ?_|refine jmk ?_|refine jap ?_)|(refine dl ?_;first|refine d7 ?_|refine d8 ?_|refine d10 ?_|refine d11 ?_|refine dtf ?_|refine dbd ?_|refine dbl ?_|refine d1 ?_|refine d2 ?_|refine d3 ?_|refine d3f ?_|refine d4 ?_|refine d9 ?_|refine d14 ?_|refine d14a ?_|refine d15 ?_|refine d16 ?_|refine d18 ?_|refine d19 ?_|refine d20 ?_|refine d21 ?_|refine d25 ?_|refine d17 ?_|refine deq ?_|refine deqq ?_|refine dne ?_|refine dneq ?_|refine dxe ?_|refine dxn ?_|refine dcb ?_|refine dcbq ?_|refine di1 ?_|refine di2 ?_|refine di3 ?_|refine di4 ?_|refine di6 ?_|refine dp (p_rfind _ _ _ _) ?_|refine dpy (p_rfind _ _ _ _) ?_|refine dpq (hp:=fun hc=>p_rfind _ _ _ _) ?_)|(refine al ?_;first|refine a7 ?_|refine a8 ?_|refine a10 ?_|refine a11 ?_|refine abd ?_|refine abl ?_|refine a1 ?_|refine a2 ?_|refine a3 ?_|refine a3f ?_|refine a9 ?_|refine a14 ?_|refine a15 ?_|refine a16 ?_|refine a18 ?_|refine a21 ?_|refine a25 ?_|refine ai1 ?_|refine ai2 ?_|refine ai3 ?_|refine ai4 ?_|refine ai6 ?_|refine alit ?_|refine ap (p_rfind _ _ _ _) ?_|refine apy (p_rfind _ _ _ _) ?_|refine da_skip ?_|refine da_nil ?_)|(refine bl ?_;first|refine bbd ?_|refine bbl ?_|refine b1 ?_|refine b14 ?_|refine b17t ?_|refine b17 ?_|refine b25 ?_|refine db_nil ?_)|refine al_cons (fun id hid=>?_)|refine al_nil ?_|(refine jc ?_;first|refine c1 ?_|refine c2 ?_|refine c3 ?_|refine c4 ?_|refine c5 ?_|refine c6 ?_|refine c7 ?_|refine c8 ?_|refine cqa ?_|refine cqk ?_|refine cq ?_)|refine n1 ?_|refine n2 ?_|refine n3 ?_|refine n4 ?_|refine n5 ?_|refine n6 ?_|refine n7 ?_|refine n8 ?_|refine n9 ?_|refine n10 ?_|refine n13 ?_|refine n11 ?_|refine n12 ?_|refine n14 ?_|refine n15 ?_|refine n16 ?_)|(refine c9 (fun h=>?_) (fun h=>?_)<;>(try simp only [Bool.or_eq_true, Bool.and_eq_true, Bool.or_eq_false_iff, Bool.and_eq_false_iff, Bool.not_eq_true', Bool.not_eq_false', decide_eq_true_eq, decide_eq_false_iff_not, Bool.false_eq_true, Bool.true_eq_false, reduceCtorEq] at h)))
    · first | exact ge rfl | exact gvs (by (repeat' (first | exact finl_nil | apply finl_cons | exact Fin.refl _ _ _ | apply fin_pk2 | apply fin_pk3 | apply fin_agg | apply fin_tup | exact fin_nil | exact fin_sl rfl | exact fin_fz (by exact lkp) (by first | assumption | exact St.ns1 (by assumption) | exact St.ns2 (by assumption) | exact St.ns3 (by assumption) | exact St.ns4 (by assumption) | exact St.ns5 (by assumption) | exact St.ns6 (by assumption) | exact St.ns7 (by assumption) | exact St.ns8 (by assumption) | exact St.ns9 (by assumption) | exact St.ns10 (by assumption) | exact St.ns11 (by assumption) | exact St.ns12 (by assumption) | exact St.ns13 (by assumption) | exact St.ns14 (by assumption) | exact St.ns10 (by assumption) | exact St.ns11 (by assumption) | exact St.ns12 (by assumption) | exact St.ns13 (by assumption) | exact St.ns14 (by assumption)) (by first | exact rfl | assumption | (simp only [List.length_map, List.length_append, List.length_cons, List.length_nil]; done) | (simp only [List.length_map, List.length_append, List.length_cons, List.length_nil]; omega)) rfl (fun _ => rfl) | exact fin_eq rfl)))
    · rw [hf] at h; cases h
  | some c =>
    rw [makeF, makeR, hf]
    dsimp only
    have hc := hl c (findC_mem hf)
    have hgc : (findC nm l).getD noC = c := by rw [hf]; rfl
    have hn : (c.attrs.map str1).length = c.attrs.length := List.length_map ..
    have hlv : (emptyF c nm).vals.length ≤ 65536 := by unfold emptyF; rw [List.length_replicate]; omega
    have hz : ∀ v ∈ (emptyF c nm).vals, v.s.size ≤ 60 := fun v hv => by
      rw [(List.mem_replicate.1 hv).2]; decide
    repeat' (first|(first|(refine jl ?_;first|refine j7 ?_|refine j8 ?_|refine j10 ?_|refine j11 ?_|refine jtf ?_|refine jb ?_|refine jbl ?_|refine j1 ?_|refine j2 ?_|refine j3 ?_|refine j3f ?_|refine j4 ?_|refine j5 ?_|refine j6 ?_|refine j9 ?_|refine j12 (fun id hid=>?_)|refine j13 (fun id hid=>?_)|refine j14 ?_|refine j15 ?_|refine j17t ?_|refine j17 ?_|refine j16 ?_|refine j18 ?_|refine j19 ?_|refine j20 ?_|refine j21 ?_|refine j23 ?_|refine j24 ?_|refine j25 ?_|refine j26 ?_|refine jeq ?_|refine jeqq ?_|refine jne ?_|refine jneq ?_|refine jxe ?_|refine jxn ?_|refine jcbq ?_|refine ji1 ?_|refine ji2 ?_|refine ji3 ?_|refine ji4 ?_|refine ji5 ?_|refine ji6 ?_|refine j22 (fun id hid=>?_)|refine jp (p_rfind _ _ _ _) ?_|refine jpy (p_rfind _ _ _ _) ?_|refine jcq (hp:=fun hc=>p_rfind _ _ _ _) ?_)|(refine dl ?_;first|refine d7 ?_|refine d8 ?_|refine d10 ?_|refine d11 ?_|refine dtf ?_|refine dbd ?_|refine dbl ?_|refine d1 ?_|refine d2 ?_|refine d3 ?_|refine d3f ?_|refine d4 ?_|refine d9 ?_|refine d14 ?_|refine d14a ?_|refine d15 ?_|refine d16 ?_|refine d18 ?_|refine d19 ?_|refine d20 ?_|refine d21 ?_|refine d25 ?_|refine d17 ?_|refine deq ?_|refine deqq ?_|refine dne ?_|refine dneq ?_|refine dxe ?_|refine dxn ?_|refine dcb ?_|refine dcbq ?_|refine di1 ?_|refine di2 ?_|refine di3 ?_|refine di4 ?_|refine di6 ?_|refine dp (p_rfind _ _ _ _) ?_|refine dpy (p_rfind _ _ _ _) ?_|refine dpq (hp:=fun hc=>p_rfind _ _ _ _) ?_)|(refine al ?_;first|refine a7 ?_|refine a8 ?_|refine a10 ?_|refine a11 ?_|refine abd ?_|refine abl ?_|refine a1 ?_|refine a2 ?_|refine a3 ?_|refine a3f ?_|refine a9 ?_|refine a14 ?_|refine a15 ?_|refine a16 ?_|refine a18 ?_|refine a21 ?_|refine a25 ?_|refine ai1 ?_|refine ai2 ?_|refine ai3 ?_|refine ai4 ?_|refine ai6 ?_|refine alit ?_|refine ap (p_rfind _ _ _ _) ?_|refine apy (p_rfind _ _ _ _) ?_|refine da_skip ?_|refine da_nil ?_)|(refine bl ?_;first|refine bbd ?_|refine bbl ?_|refine b1 ?_|refine b14 ?_|refine b17t ?_|refine b17 ?_|refine b25 ?_|refine db_nil ?_)|refine al_cons (fun id hid=>?_)|refine al_nil ?_|(refine jc ?_;first|refine c1 ?_|refine c2 ?_|refine c3 ?_|refine c4 ?_|refine c5 ?_|refine c6 ?_|refine c7 ?_|refine c8 ?_|refine cqa ?_|refine cqk ?_|refine cq ?_)|refine n1 ?_|refine n2 ?_|refine n3 ?_|refine n4 ?_|refine n5 ?_|refine n6 ?_|refine n7 ?_|refine n8 ?_|refine n9 ?_|refine n10 ?_|refine n13 ?_|refine n11 ?_|refine n12 ?_|refine n14 ?_|refine n15 ?_|refine n16 ?_)|(refine c9 (fun h=>?_) (fun h=>?_)<;>(try simp only [Bool.or_eq_true, Bool.and_eq_true, Bool.or_eq_false_iff, Bool.and_eq_false_iff, Bool.not_eq_true', Bool.not_eq_false', decide_eq_true_eq, decide_eq_false_iff_not, Bool.false_eq_true, Bool.true_eq_false, reduceCtorEq] at h)))
    · rw [hf] at h; cases h
    · rw [hgc]
      refine jmk ?_
      rw [rep_noV]
      repeat (first|(refine jl ?_;first|refine j7 ?_|refine j8 ?_|refine j10 ?_|refine j11 ?_|refine jtf ?_|refine jb ?_|refine jbl ?_|refine j1 ?_|refine j2 ?_|refine j3 ?_|refine j3f ?_|refine j4 ?_|refine j5 ?_|refine j6 ?_|refine j9 ?_|refine j12 (fun id hid=>?_)|refine j13 (fun id hid=>?_)|refine j14 ?_|refine j15 ?_|refine j17t ?_|refine j17 ?_|refine j16 ?_|refine j18 ?_|refine j19 ?_|refine j20 ?_|refine j21 ?_|refine j23 ?_|refine j24 ?_|refine j25 ?_|refine j26 ?_|refine jeq ?_|refine jeqq ?_|refine jne ?_|refine jneq ?_|refine jxe ?_|refine jxn ?_|refine jcbq ?_|refine ji1 ?_|refine ji2 ?_|refine ji3 ?_|refine ji4 ?_|refine ji5 ?_|refine ji6 ?_|refine j22 (fun id hid=>?_)|refine jp (p_rwithA nl nl' full full' l (emptyF c nm) n sets hz hz2 hlv) ?_|refine jpy (p_rwithA nl nl' full full' l (emptyF c nm) n sets hz hz2 hlv) ?_|refine jcq (hp:=fun hc=>p_rwithA nl nl' full full' l (emptyF c nm) n sets hz hz2 hlv) ?_|refine jlit ?_|refine jmk ?_|refine jap ?_)|(refine dl ?_;first|refine d7 ?_|refine d8 ?_|refine d10 ?_|refine d11 ?_|refine dtf ?_|refine dbd ?_|refine dbl ?_|refine d1 ?_|refine d2 ?_|refine d3 ?_|refine d3f ?_|refine d4 ?_|refine d9 ?_|refine d14 ?_|refine d14a ?_|refine d15 ?_|refine d16 ?_|refine d18 ?_|refine d19 ?_|refine d20 ?_|refine d21 ?_|refine d25 ?_|refine d17 ?_|refine deq ?_|refine deqq ?_|refine dne ?_|refine dneq ?_|refine dxe ?_|refine dxn ?_|refine dcb ?_|refine dcbq ?_|refine di1 ?_|refine di2 ?_|refine di3 ?_|refine di4 ?_|refine di6 ?_|refine dp (p_rwithA nl nl' full full' l (emptyF c nm) n sets hz hz2 hlv) ?_|refine dpy (p_rwithA nl nl' full full' l (emptyF c nm) n sets hz hz2 hlv) ?_|refine dpq (hp:=fun hc=>p_rwithA nl nl' full full' l (emptyF c nm) n sets hz hz2 hlv) ?_)|(refine al ?_;first|refine a7 ?_|refine a8 ?_|refine a10 ?_|refine a11 ?_|refine abd ?_|refine abl ?_|refine a1 ?_|refine a2 ?_|refine a3 ?_|refine a3f ?_|refine a9 ?_|refine a14 ?_|refine a15 ?_|refine a16 ?_|refine a18 ?_|refine a21 ?_|refine a25 ?_|refine ai1 ?_|refine ai2 ?_|refine ai3 ?_|refine ai4 ?_|refine ai6 ?_|refine alit ?_|refine ap (p_rwithA nl nl' full full' l (emptyF c nm) n sets hz hz2 hlv) ?_|refine apy (p_rwithA nl nl' full full' l (emptyF c nm) n sets hz hz2 hlv) ?_|refine da_skip ?_|refine da_nil ?_)|(refine bl ?_;first|refine bbd ?_|refine bbl ?_|refine b1 ?_|refine b14 ?_|refine b17t ?_|refine b17 ?_|refine b25 ?_|refine db_nil ?_)|refine al_cons (fun id hid=>?_)|refine al_nil ?_|(refine jc ?_;first|refine c1 ?_|refine c2 ?_|refine c3 ?_|refine c4 ?_|refine c5 ?_|refine c6 ?_|refine c7 ?_|refine c8 ?_|refine cqa ?_|refine cqk ?_|refine cq ?_)|refine n1 ?_|refine n2 ?_|refine n3 ?_|refine n4 ?_|refine n5 ?_|refine n6 ?_|refine n7 ?_|refine n8 ?_|refine n9 ?_|refine n10 ?_|refine n13 ?_|refine n11 ?_|refine n12 ?_|refine n14 ?_|refine n15 ?_|refine n16 ?_)
      first | exact ge rfl | exact gvs (by (repeat' (first | exact finl_nil | apply finl_cons | exact Fin.refl _ _ _ | apply fin_pk2 | apply fin_pk3 | apply fin_agg | apply fin_tup | exact fin_nil | exact fin_sl rfl | exact fin_fz (by exact lkp) (by first | assumption | exact St.ns1 (by assumption) | exact St.ns2 (by assumption) | exact St.ns3 (by assumption) | exact St.ns4 (by assumption) | exact St.ns5 (by assumption) | exact St.ns6 (by assumption) | exact St.ns7 (by assumption) | exact St.ns8 (by assumption) | exact St.ns9 (by assumption) | exact St.ns10 (by assumption) | exact St.ns11 (by assumption) | exact St.ns12 (by assumption) | exact St.ns13 (by assumption) | exact St.ns14 (by assumption) | exact St.ns10 (by assumption) | exact St.ns11 (by assumption) | exact St.ns12 (by assumption) | exact St.ns13 (by assumption) | exact St.ns14 (by assumption)) (by first | exact rfl | assumption | (simp only [List.length_map, List.length_append, List.length_cons, List.length_nil]; done) | (simp only [List.length_map, List.length_append, List.length_cons, List.length_nil]; omega)) rfl (fun _ => rfl) | exact fin_eq rfl)))
end Go.Proofs.YtcpokdjppedaoaaDoor.Ab

/- An attribute's value; what every right program makes. -/
set_option linter.unusedVariables false
set_option linter.unusedSimpArgs false
set_option maxRecDepth 20000
namespace Go.Proofs.YtcpokdjppedaoaaDoor.Ab
open Go
attribute [local irreducible] thn inb endR CJ LJ OpJ DJ DA DB AllocK

def getV (l : List Cls) (f : Fc) (nm : ByteArray) : Vl := if checkF l f = 0 then if attrB nm (ofC l f).attrs = true then (f.vals[(attrN nm (ofC l f).attrs).toNat]?).getD noV else noV else noV
def getB (l : List Cls) (f : Fc) (nm : ByteArray) : Bool := if checkF l f = 0 then attrB nm (ofC l f).attrs else false
theorem p_get (nl : Option Bool) (full : Bool) (l : List Cls) (f : Fc) (nm : ByteArray) : Pure Tryd.prog 18 [.sl nl full 2 (l.map cc), .agg (fc f), .v (.string nm)] (.tup [.agg (vc (getV l f nm)), .v (.bool (getB l f nm))]) := by
  refine enterW Tryd.func18 rfl rfl rfl rfl (fun σ => ?_)
  obtain ⟨ft, fn, vs⟩ := f
  have hn : (vs.map vc).length = vs.length := List.length_map ..
  unfold getV getB
  by_cases hc0 : checkF l ⟨ft, fn, vs⟩ = 0
  · obtain ⟨_, c, hc1, hc2, hc3, _⟩ := checkF_zero hc0
    dsimp only at hc3
    rw [if_pos hc0, if_pos hc0, hc2]
    by_cases hb : attrB nm c.attrs = true
    · obtain ⟨ha1, ha2⟩ := attrI_lt hb
      rw [← hc3] at ha2
      obtain ⟨u, hu⟩ : ∃ u, vs[(attrN nm c.attrs).toNat]? = some u := ⟨_, List.getElem?_eq_getElem (by omega)⟩
      have hel : (vs.map vc)[(attrN nm c.attrs).toNat]? = some (vc u) := by rw [List.getElem?_map, hu]; rfl
      rw [if_pos hb, hb]
      dsimp only
      rw [hu]
      have hof := p_of nl full l ⟨ft, fn, vs⟩
      rw [hc2] at hof
      repeat' (first|(first|(refine jl ?_;first|refine j7 ?_|refine j8 ?_|refine j10 ?_|refine j11 ?_|refine jtf ?_|refine jb ?_|refine jbl ?_|refine j1 ?_|refine j2 ?_|refine j3 ?_|refine j3f ?_|refine j4 ?_|refine j5 ?_|refine j6 ?_|refine j9 ?_|refine j12 (fun id hid=>?_)|refine j13 (fun id hid=>?_)|refine j14 ?_|refine j15 ?_|refine j17t ?_|refine j17 ?_|refine j16 ?_|refine j18 ?_|refine j19 ?_|refine j20 ?_|refine j21 ?_|refine j23 ?_|refine j24 ?_|refine j25 ?_|refine j26 ?_|refine jeq ?_|refine jeqq ?_|refine jne ?_|refine jneq ?_|refine jxe ?_|refine jxn ?_|refine jcbq ?_|refine ji1 ?_|refine ji2 ?_|refine ji3 ?_|refine ji4 ?_|refine ji5 ?_|refine ji6 ?_|refine j22 (fun id hid=>?_)|refine jp (hof) ?_|refine jpy (hof) ?_|refine jcq (hp:=fun hc=>hof) ?_|refine jp (p_attr _ _) ?_|refine jpy (p_attr _ _) ?_|refine jcq (hp:=fun hc=>p_attr _ _) ?_|refine jlit ?_|refine jmk ?_|refine jap ?_)|(refine dl ?_;first|refine d7 ?_|refine d8 ?_|refine d10 ?_|refine d11 ?_|refine dtf ?_|refine dbd ?_|refine dbl ?_|refine d1 ?_|refine d2 ?_|refine d3 ?_|refine d3f ?_|refine d4 ?_|refine d9 ?_|refine d14 ?_|refine d14a ?_|refine d15 ?_|refine d16 ?_|refine d18 ?_|refine d19 ?_|refine d20 ?_|refine d21 ?_|refine d25 ?_|refine d17 ?_|refine deq ?_|refine deqq ?_|refine dne ?_|refine dneq ?_|refine dxe ?_|refine dxn ?_|refine dcb ?_|refine dcbq ?_|refine di1 ?_|refine di2 ?_|refine di3 ?_|refine di4 ?_|refine di6 ?_|refine dp (hof) ?_|refine dpy (hof) ?_|refine dpq (hp:=fun hc=>hof) ?_|refine dp (p_attr _ _) ?_|refine dpy (p_attr _ _) ?_|refine dpq (hp:=fun hc=>p_attr _ _) ?_)|(refine al ?_;first|refine a7 ?_|refine a8 ?_|refine a10 ?_|refine a11 ?_|refine abd ?_|refine abl ?_|refine a1 ?_|refine a2 ?_|refine a3 ?_|refine a3f ?_|refine a9 ?_|refine a14 ?_|refine a15 ?_|refine a16 ?_|refine a18 ?_|refine a21 ?_|refine a25 ?_|refine ai1 ?_|refine ai2 ?_|refine ai3 ?_|refine ai4 ?_|refine ai6 ?_|refine alit ?_|refine ap (hof) ?_|refine apy (hof) ?_|refine ap (p_attr _ _) ?_|refine apy (p_attr _ _) ?_|refine da_skip ?_|refine da_nil ?_)|(refine bl ?_;first|refine bbd ?_|refine bbl ?_|refine b1 ?_|refine b14 ?_|refine b17t ?_|refine b17 ?_|refine b25 ?_|refine db_nil ?_)|refine al_cons (fun id hid=>?_)|refine al_nil ?_|(refine jc ?_;first|refine c1 ?_|refine c2 ?_|refine c3 ?_|refine c4 ?_|refine c5 ?_|refine c6 ?_|refine c7 ?_|refine c8 ?_|refine cqa ?_|refine cqk ?_|refine cq ?_)|refine n1 ?_|refine n2 ?_|refine n3 ?_|refine n4 ?_|refine n5 ?_|refine n6 ?_|refine n7 ?_|refine n8 ?_|refine n9 ?_|refine n10 ?_|refine n13 ?_|refine n11 ?_|refine n12 ?_|refine n14 ?_|refine n15 ?_|refine n16 ?_)|(refine c9 (fun h=>?_) (fun h=>?_)<;>(try simp only [Bool.or_eq_true, Bool.and_eq_true, Bool.or_eq_false_iff, Bool.and_eq_false_iff, Bool.not_eq_true', Bool.not_eq_false', decide_eq_true_eq, decide_eq_false_iff_not, Bool.false_eq_true, Bool.true_eq_false, reduceCtorEq] at h)))
      · exact absurd hc0 h
      · rw [hb] at h; cases h
      · first | exact ge rfl | exact gvs (by (repeat' (first | exact finl_nil | apply finl_cons | exact Fin.refl _ _ _ | apply fin_pk2 | apply fin_pk3 | apply fin_agg | apply fin_tup | exact fin_nil | exact fin_sl rfl | exact fin_fz (by exact lkp) (by first | assumption | exact St.ns1 (by assumption) | exact St.ns2 (by assumption) | exact St.ns3 (by assumption) | exact St.ns4 (by assumption) | exact St.ns5 (by assumption) | exact St.ns6 (by assumption) | exact St.ns7 (by assumption) | exact St.ns8 (by assumption) | exact St.ns9 (by assumption) | exact St.ns10 (by assumption) | exact St.ns11 (by assumption) | exact St.ns12 (by assumption) | exact St.ns13 (by assumption) | exact St.ns14 (by assumption) | exact St.ns10 (by assumption) | exact St.ns11 (by assumption) | exact St.ns12 (by assumption) | exact St.ns13 (by assumption) | exact St.ns14 (by assumption)) (by first | exact rfl | assumption | (simp only [List.length_map, List.length_append, List.length_cons, List.length_nil]; done) | (simp only [List.length_map, List.length_append, List.length_cons, List.length_nil]; omega)) rfl (fun _ => rfl) | exact fin_eq rfl)))
    · rw [if_neg hb]
      have hof := p_of nl full l ⟨ft, fn, vs⟩
      rw [hc2] at hof
      rw [Bool.not_eq_true] at hb
      rw [hb]
      have hat := p_attr c nm
      rw [hb] at hat
      repeat' (first|(first|(refine jl ?_;first|refine j7 ?_|refine j8 ?_|refine j10 ?_|refine j11 ?_|refine jtf ?_|refine jb ?_|refine jbl ?_|refine j1 ?_|refine j2 ?_|refine j3 ?_|refine j3f ?_|refine j4 ?_|refine j5 ?_|refine j6 ?_|refine j9 ?_|refine j12 (fun id hid=>?_)|refine j13 (fun id hid=>?_)|refine j14 ?_|refine j15 ?_|refine j17t ?_|refine j17 ?_|refine j16 ?_|refine j18 ?_|refine j19 ?_|refine j20 ?_|refine j21 ?_|refine j23 ?_|refine j24 ?_|refine j25 ?_|refine j26 ?_|refine jeq ?_|refine jeqq ?_|refine jne ?_|refine jneq ?_|refine jxe ?_|refine jxn ?_|refine jcbq ?_|refine ji1 ?_|refine ji2 ?_|refine ji3 ?_|refine ji4 ?_|refine ji5 ?_|refine ji6 ?_|refine j22 (fun id hid=>?_)|refine jp (hof) ?_|refine jpy (hof) ?_|refine jcq (hp:=fun hc=>hof) ?_|refine jp (hat) ?_|refine jpy (hat) ?_|refine jcq (hp:=fun hc=>hat) ?_|refine jlit ?_|refine jmk ?_|refine jap ?_)|(refine dl ?_;first|refine d7 ?_|refine d8 ?_|refine d10 ?_|refine d11 ?_|refine dtf ?_|refine dbd ?_|refine dbl ?_|refine d1 ?_|refine d2 ?_|refine d3 ?_|refine d3f ?_|refine d4 ?_|refine d9 ?_|refine d14 ?_|refine d14a ?_|refine d15 ?_|refine d16 ?_|refine d18 ?_|refine d19 ?_|refine d20 ?_|refine d21 ?_|refine d25 ?_|refine d17 ?_|refine deq ?_|refine deqq ?_|refine dne ?_|refine dneq ?_|refine dxe ?_|refine dxn ?_|refine dcb ?_|refine dcbq ?_|refine di1 ?_|refine di2 ?_|refine di3 ?_|refine di4 ?_|refine di6 ?_|refine dp (hof) ?_|refine dpy (hof) ?_|refine dpq (hp:=fun hc=>hof) ?_|refine dp (hat) ?_|refine dpy (hat) ?_|refine dpq (hp:=fun hc=>hat) ?_)|(refine al ?_;first|refine a7 ?_|refine a8 ?_|refine a10 ?_|refine a11 ?_|refine abd ?_|refine abl ?_|refine a1 ?_|refine a2 ?_|refine a3 ?_|refine a3f ?_|refine a9 ?_|refine a14 ?_|refine a15 ?_|refine a16 ?_|refine a18 ?_|refine a21 ?_|refine a25 ?_|refine ai1 ?_|refine ai2 ?_|refine ai3 ?_|refine ai4 ?_|refine ai6 ?_|refine alit ?_|refine ap (hof) ?_|refine apy (hof) ?_|refine ap (hat) ?_|refine apy (hat) ?_|refine da_skip ?_|refine da_nil ?_)|(refine bl ?_;first|refine bbd ?_|refine bbl ?_|refine b1 ?_|refine b14 ?_|refine b17t ?_|refine b17 ?_|refine b25 ?_|refine db_nil ?_)|refine al_cons (fun id hid=>?_)|refine al_nil ?_|(refine jc ?_;first|refine c1 ?_|refine c2 ?_|refine c3 ?_|refine c4 ?_|refine c5 ?_|refine c6 ?_|refine c7 ?_|refine c8 ?_|refine cqa ?_|refine cqk ?_|refine cq ?_)|refine n1 ?_|refine n2 ?_|refine n3 ?_|refine n4 ?_|refine n5 ?_|refine n6 ?_|refine n7 ?_|refine n8 ?_|refine n9 ?_|refine n10 ?_|refine n13 ?_|refine n11 ?_|refine n12 ?_|refine n14 ?_|refine n15 ?_|refine n16 ?_)|(refine c9 (fun h=>?_) (fun h=>?_)<;>(try simp only [Bool.or_eq_true, Bool.and_eq_true, Bool.or_eq_false_iff, Bool.and_eq_false_iff, Bool.not_eq_true', Bool.not_eq_false', decide_eq_true_eq, decide_eq_false_iff_not, Bool.false_eq_true, Bool.true_eq_false, reduceCtorEq] at h)))
      · exact absurd hc0 h
      · first | exact ge rfl | exact gvs (by (repeat' (first | exact finl_nil | apply finl_cons | exact Fin.refl _ _ _ | apply fin_pk2 | apply fin_pk3 | apply fin_agg | apply fin_tup | exact fin_nil | exact fin_sl rfl | exact fin_fz (by exact lkp) (by first | assumption | exact St.ns1 (by assumption) | exact St.ns2 (by assumption) | exact St.ns3 (by assumption) | exact St.ns4 (by assumption) | exact St.ns5 (by assumption) | exact St.ns6 (by assumption) | exact St.ns7 (by assumption) | exact St.ns8 (by assumption) | exact St.ns9 (by assumption) | exact St.ns10 (by assumption) | exact St.ns11 (by assumption) | exact St.ns12 (by assumption) | exact St.ns13 (by assumption) | exact St.ns14 (by assumption) | exact St.ns10 (by assumption) | exact St.ns11 (by assumption) | exact St.ns12 (by assumption) | exact St.ns13 (by assumption) | exact St.ns14 (by assumption)) (by first | exact rfl | assumption | (simp only [List.length_map, List.length_append, List.length_cons, List.length_nil]; done) | (simp only [List.length_map, List.length_append, List.length_cons, List.length_nil]; omega)) rfl (fun _ => rfl) | exact fin_eq rfl)))
  · rw [if_neg hc0, if_neg hc0]
    repeat' (first|(first|(refine jl ?_;first|refine j7 ?_|refine j8 ?_|refine j10 ?_|refine j11 ?_|refine jtf ?_|refine jb ?_|refine jbl ?_|refine j1 ?_|refine j2 ?_|refine j3 ?_|refine j3f ?_|refine j4 ?_|refine j5 ?_|refine j6 ?_|refine j9 ?_|refine j12 (fun id hid=>?_)|refine j13 (fun id hid=>?_)|refine j14 ?_|refine j15 ?_|refine j17t ?_|refine j17 ?_|refine j16 ?_|refine j18 ?_|refine j19 ?_|refine j20 ?_|refine j21 ?_|refine j23 ?_|refine j24 ?_|refine j25 ?_|refine j26 ?_|refine jeq ?_|refine jeqq ?_|refine jne ?_|refine jneq ?_|refine jxe ?_|refine jxn ?_|refine jcbq ?_|refine ji1 ?_|refine ji2 ?_|refine ji3 ?_|refine ji4 ?_|refine ji5 ?_|refine ji6 ?_|refine j22 (fun id hid=>?_)|refine jp (p_of nl full l ⟨ft, fn, vs⟩) ?_|refine jpy (p_of nl full l ⟨ft, fn, vs⟩) ?_|refine jcq (hp:=fun hc=>p_of nl full l ⟨ft, fn, vs⟩) ?_|refine jp (p_attr _ _) ?_|refine jpy (p_attr _ _) ?_|refine jcq (hp:=fun hc=>p_attr _ _) ?_|refine jlit ?_|refine jmk ?_|refine jap ?_)|(refine dl ?_;first|refine d7 ?_|refine d8 ?_|refine d10 ?_|refine d11 ?_|refine dtf ?_|refine dbd ?_|refine dbl ?_|refine d1 ?_|refine d2 ?_|refine d3 ?_|refine d3f ?_|refine d4 ?_|refine d9 ?_|refine d14 ?_|refine d14a ?_|refine d15 ?_|refine d16 ?_|refine d18 ?_|refine d19 ?_|refine d20 ?_|refine d21 ?_|refine d25 ?_|refine d17 ?_|refine deq ?_|refine deqq ?_|refine dne ?_|refine dneq ?_|refine dxe ?_|refine dxn ?_|refine dcb ?_|refine dcbq ?_|refine di1 ?_|refine di2 ?_|refine di3 ?_|refine di4 ?_|refine di6 ?_|refine dp (p_of nl full l ⟨ft, fn, vs⟩) ?_|refine dpy (p_of nl full l ⟨ft, fn, vs⟩) ?_|refine dpq (hp:=fun hc=>p_of nl full l ⟨ft, fn, vs⟩) ?_|refine dp (p_attr _ _) ?_|refine dpy (p_attr _ _) ?_|refine dpq (hp:=fun hc=>p_attr _ _) ?_)|(refine al ?_;first|refine a7 ?_|refine a8 ?_|refine a10 ?_|refine a11 ?_|refine abd ?_|refine abl ?_|refine a1 ?_|refine a2 ?_|refine a3 ?_|refine a3f ?_|refine a9 ?_|refine a14 ?_|refine a15 ?_|refine a16 ?_|refine a18 ?_|refine a21 ?_|refine a25 ?_|refine ai1 ?_|refine ai2 ?_|refine ai3 ?_|refine ai4 ?_|refine ai6 ?_|refine alit ?_|refine ap (p_of nl full l ⟨ft, fn, vs⟩) ?_|refine apy (p_of nl full l ⟨ft, fn, vs⟩) ?_|refine ap (p_attr _ _) ?_|refine apy (p_attr _ _) ?_|refine da_skip ?_|refine da_nil ?_)|(refine bl ?_;first|refine bbd ?_|refine bbl ?_|refine b1 ?_|refine b14 ?_|refine b17t ?_|refine b17 ?_|refine b25 ?_|refine db_nil ?_)|refine al_cons (fun id hid=>?_)|refine al_nil ?_|(refine jc ?_;first|refine c1 ?_|refine c2 ?_|refine c3 ?_|refine c4 ?_|refine c5 ?_|refine c6 ?_|refine c7 ?_|refine c8 ?_|refine cqa ?_|refine cqk ?_|refine cq ?_)|refine n1 ?_|refine n2 ?_|refine n3 ?_|refine n4 ?_|refine n5 ?_|refine n6 ?_|refine n7 ?_|refine n8 ?_|refine n9 ?_|refine n10 ?_|refine n13 ?_|refine n11 ?_|refine n12 ?_|refine n14 ?_|refine n15 ?_|refine n16 ?_)|(refine c9 (fun h=>?_) (fun h=>?_)<;>(try simp only [Bool.or_eq_true, Bool.and_eq_true, Bool.or_eq_false_iff, Bool.and_eq_false_iff, Bool.not_eq_true', Bool.not_eq_false', decide_eq_true_eq, decide_eq_false_iff_not, Bool.false_eq_true, Bool.true_eq_false, reduceCtorEq] at h)))
    · first | exact ge rfl | exact gvs (by (repeat' (first | exact finl_nil | apply finl_cons | exact Fin.refl _ _ _ | apply fin_pk2 | apply fin_pk3 | apply fin_agg | apply fin_tup | exact fin_nil | exact fin_sl rfl | exact fin_fz (by exact lkp) (by first | assumption | exact St.ns1 (by assumption) | exact St.ns2 (by assumption) | exact St.ns3 (by assumption) | exact St.ns4 (by assumption) | exact St.ns5 (by assumption) | exact St.ns6 (by assumption) | exact St.ns7 (by assumption) | exact St.ns8 (by assumption) | exact St.ns9 (by assumption) | exact St.ns10 (by assumption) | exact St.ns11 (by assumption) | exact St.ns12 (by assumption) | exact St.ns13 (by assumption) | exact St.ns14 (by assumption) | exact St.ns10 (by assumption) | exact St.ns11 (by assumption) | exact St.ns12 (by assumption) | exact St.ns13 (by assumption) | exact St.ns14 (by assumption)) (by first | exact rfl | assumption | (simp only [List.length_map, List.length_append, List.length_cons, List.length_nil]; done) | (simp only [List.length_map, List.length_append, List.length_cons, List.length_nil]; omega)) rfl (fun _ => rfl) | exact fin_eq rfl)))
    · exact absurd (by assumption) hc0
    · exact absurd (by assumption) hc0
theorem p_rget (nl : Option Bool) (full : Bool) (l : List Cls) (f : Fc) (nm : ByteArray) (hz : ∀ v ∈ f.vals, v.s.size ≤ 60) : Pure Tryd.prog 19 [.sl nl full 2 (l.map cc), .agg (fc f), .v (.string nm)] (.tup [.agg (vc (getV l f nm)), .v (.bool (getB l f nm))]) := by
  refine enterW Tryd.func19 rfl rfl rfl rfl (fun σ => ?_)
  obtain ⟨ft, fn, vs⟩ := f
  dsimp only at hz
  have hn : (vs.map vc).length = vs.length := List.length_map ..
  unfold getV getB
  have hch := p_rccheck nl full l ⟨ft, fn, vs⟩ hz
  by_cases hc0 : checkF l ⟨ft, fn, vs⟩ = 0
  · obtain ⟨_, c, hc1, hc2, hc3, _⟩ := checkF_zero hc0
    dsimp only at hc1 hc3
    rw [if_pos hc0, if_pos hc0, hc2]
    have hfi := p_rfind nl full l fn
    rw [hc1] at hfi
    dsimp only [Option.getD] at hfi
    by_cases hb : attrB nm c.attrs = true
    · obtain ⟨ha1, ha2⟩ := attrI_lt hb
      rw [← hc3] at ha2
      obtain ⟨u, hu⟩ : ∃ u, vs[(attrN nm c.attrs).toNat]? = some u := ⟨_, List.getElem?_eq_getElem (by omega)⟩
      have hel : (vs.map vc)[(attrN nm c.attrs).toNat]? = some (vc u) := by rw [List.getElem?_map, hu]; rfl
      rw [if_pos hb, hb]
      dsimp only
      rw [hu]
      repeat' (first|(first|(refine jl ?_;first|refine j7 ?_|refine j8 ?_|refine j10 ?_|refine j11 ?_|refine jtf ?_|refine jb ?_|refine jbl ?_|refine j1 ?_|refine j2 ?_|refine j3 ?_|refine j3f ?_|refine j4 ?_|refine j5 ?_|refine j6 ?_|refine j9 ?_|refine j12 (fun id hid=>?_)|refine j13 (fun id hid=>?_)|refine j14 ?_|refine j15 ?_|refine j17t ?_|refine j17 ?_|refine j16 ?_|refine j18 ?_|refine j19 ?_|refine j20 ?_|refine j21 ?_|refine j23 ?_|refine j24 ?_|refine j25 ?_|refine j26 ?_|refine jeq ?_|refine jeqq ?_|refine jne ?_|refine jneq ?_|refine jxe ?_|refine jxn ?_|refine jcbq ?_|refine ji1 ?_|refine ji2 ?_|refine ji3 ?_|refine ji4 ?_|refine ji5 ?_|refine ji6 ?_|refine j22 (fun id hid=>?_)|refine jp (hfi) ?_|refine jpy (hfi) ?_|refine jcq (hp:=fun hc=>hfi) ?_|refine jp (p_rattr _ _) ?_|refine jpy (p_rattr _ _) ?_|refine jcq (hp:=fun hc=>p_rattr _ _) ?_|refine jp (hch) ?_|refine jpy (hch) ?_|refine jcq (hp:=fun hc=>hch) ?_|refine jlit ?_|refine jmk ?_|refine jap ?_)|(refine dl ?_;first|refine d7 ?_|refine d8 ?_|refine d10 ?_|refine d11 ?_|refine dtf ?_|refine dbd ?_|refine dbl ?_|refine d1 ?_|refine d2 ?_|refine d3 ?_|refine d3f ?_|refine d4 ?_|refine d9 ?_|refine d14 ?_|refine d14a ?_|refine d15 ?_|refine d16 ?_|refine d18 ?_|refine d19 ?_|refine d20 ?_|refine d21 ?_|refine d25 ?_|refine d17 ?_|refine deq ?_|refine deqq ?_|refine dne ?_|refine dneq ?_|refine dxe ?_|refine dxn ?_|refine dcb ?_|refine dcbq ?_|refine di1 ?_|refine di2 ?_|refine di3 ?_|refine di4 ?_|refine di6 ?_|refine dp (hfi) ?_|refine dpy (hfi) ?_|refine dpq (hp:=fun hc=>hfi) ?_|refine dp (p_rattr _ _) ?_|refine dpy (p_rattr _ _) ?_|refine dpq (hp:=fun hc=>p_rattr _ _) ?_|refine dp (hch) ?_|refine dpy (hch) ?_|refine dpq (hp:=fun hc=>hch) ?_)|(refine al ?_;first|refine a7 ?_|refine a8 ?_|refine a10 ?_|refine a11 ?_|refine abd ?_|refine abl ?_|refine a1 ?_|refine a2 ?_|refine a3 ?_|refine a3f ?_|refine a9 ?_|refine a14 ?_|refine a15 ?_|refine a16 ?_|refine a18 ?_|refine a21 ?_|refine a25 ?_|refine ai1 ?_|refine ai2 ?_|refine ai3 ?_|refine ai4 ?_|refine ai6 ?_|refine alit ?_|refine ap (hfi) ?_|refine apy (hfi) ?_|refine ap (p_rattr _ _) ?_|refine apy (p_rattr _ _) ?_|refine ap (hch) ?_|refine apy (hch) ?_|refine da_skip ?_|refine da_nil ?_)|(refine bl ?_;first|refine bbd ?_|refine bbl ?_|refine b1 ?_|refine b14 ?_|refine b17t ?_|refine b17 ?_|refine b25 ?_|refine db_nil ?_)|refine al_cons (fun id hid=>?_)|refine al_nil ?_|(refine jc ?_;first|refine c1 ?_|refine c2 ?_|refine c3 ?_|refine c4 ?_|refine c5 ?_|refine c6 ?_|refine c7 ?_|refine c8 ?_|refine cqa ?_|refine cqk ?_|refine cq ?_)|refine n1 ?_|refine n2 ?_|refine n3 ?_|refine n4 ?_|refine n5 ?_|refine n6 ?_|refine n7 ?_|refine n8 ?_|refine n9 ?_|refine n10 ?_|refine n13 ?_|refine n11 ?_|refine n12 ?_|refine n14 ?_|refine n15 ?_|refine n16 ?_)|(refine c9 (fun h=>?_) (fun h=>?_)<;>(try simp only [Bool.or_eq_true, Bool.and_eq_true, Bool.or_eq_false_iff, Bool.and_eq_false_iff, Bool.not_eq_true', Bool.not_eq_false', decide_eq_true_eq, decide_eq_false_iff_not, Bool.false_eq_true, Bool.true_eq_false, reduceCtorEq] at h)))
      · rw [hb] at h
        exact absurd h (by simp [hc0])
      · first | exact ge rfl | exact gvs (by (repeat' (first | exact finl_nil | apply finl_cons | exact Fin.refl _ _ _ | apply fin_pk2 | apply fin_pk3 | apply fin_agg | apply fin_tup | exact fin_nil | exact fin_sl rfl | exact fin_fz (by exact lkp) (by first | assumption | exact St.ns1 (by assumption) | exact St.ns2 (by assumption) | exact St.ns3 (by assumption) | exact St.ns4 (by assumption) | exact St.ns5 (by assumption) | exact St.ns6 (by assumption) | exact St.ns7 (by assumption) | exact St.ns8 (by assumption) | exact St.ns9 (by assumption) | exact St.ns10 (by assumption) | exact St.ns11 (by assumption) | exact St.ns12 (by assumption) | exact St.ns13 (by assumption) | exact St.ns14 (by assumption) | exact St.ns10 (by assumption) | exact St.ns11 (by assumption) | exact St.ns12 (by assumption) | exact St.ns13 (by assumption) | exact St.ns14 (by assumption)) (by first | exact rfl | assumption | (simp only [List.length_map, List.length_append, List.length_cons, List.length_nil]; done) | (simp only [List.length_map, List.length_append, List.length_cons, List.length_nil]; omega)) rfl (fun _ => rfl) | exact fin_eq rfl)))
    · rw [if_neg hb]
      rw [Bool.not_eq_true] at hb
      rw [hb]
      repeat' (first|(first|(refine jl ?_;first|refine j7 ?_|refine j8 ?_|refine j10 ?_|refine j11 ?_|refine jtf ?_|refine jb ?_|refine jbl ?_|refine j1 ?_|refine j2 ?_|refine j3 ?_|refine j3f ?_|refine j4 ?_|refine j5 ?_|refine j6 ?_|refine j9 ?_|refine j12 (fun id hid=>?_)|refine j13 (fun id hid=>?_)|refine j14 ?_|refine j15 ?_|refine j17t ?_|refine j17 ?_|refine j16 ?_|refine j18 ?_|refine j19 ?_|refine j20 ?_|refine j21 ?_|refine j23 ?_|refine j24 ?_|refine j25 ?_|refine j26 ?_|refine jeq ?_|refine jeqq ?_|refine jne ?_|refine jneq ?_|refine jxe ?_|refine jxn ?_|refine jcbq ?_|refine ji1 ?_|refine ji2 ?_|refine ji3 ?_|refine ji4 ?_|refine ji5 ?_|refine ji6 ?_|refine j22 (fun id hid=>?_)|refine jp (hfi) ?_|refine jpy (hfi) ?_|refine jcq (hp:=fun hc=>hfi) ?_|refine jp (p_rattr _ _) ?_|refine jpy (p_rattr _ _) ?_|refine jcq (hp:=fun hc=>p_rattr _ _) ?_|refine jp (hch) ?_|refine jpy (hch) ?_|refine jcq (hp:=fun hc=>hch) ?_|refine jlit ?_|refine jmk ?_|refine jap ?_)|(refine dl ?_;first|refine d7 ?_|refine d8 ?_|refine d10 ?_|refine d11 ?_|refine dtf ?_|refine dbd ?_|refine dbl ?_|refine d1 ?_|refine d2 ?_|refine d3 ?_|refine d3f ?_|refine d4 ?_|refine d9 ?_|refine d14 ?_|refine d14a ?_|refine d15 ?_|refine d16 ?_|refine d18 ?_|refine d19 ?_|refine d20 ?_|refine d21 ?_|refine d25 ?_|refine d17 ?_|refine deq ?_|refine deqq ?_|refine dne ?_|refine dneq ?_|refine dxe ?_|refine dxn ?_|refine dcb ?_|refine dcbq ?_|refine di1 ?_|refine di2 ?_|refine di3 ?_|refine di4 ?_|refine di6 ?_|refine dp (hfi) ?_|refine dpy (hfi) ?_|refine dpq (hp:=fun hc=>hfi) ?_|refine dp (p_rattr _ _) ?_|refine dpy (p_rattr _ _) ?_|refine dpq (hp:=fun hc=>p_rattr _ _) ?_|refine dp (hch) ?_|refine dpy (hch) ?_|refine dpq (hp:=fun hc=>hch) ?_)|(refine al ?_;first|refine a7 ?_|refine a8 ?_|refine a10 ?_|refine a11 ?_|refine abd ?_|refine abl ?_|refine a1 ?_|refine a2 ?_|refine a3 ?_|refine a3f ?_|refine a9 ?_|refine a14 ?_|refine a15 ?_|refine a16 ?_|refine a18 ?_|refine a21 ?_|refine a25 ?_|refine ai1 ?_|refine ai2 ?_|refine ai3 ?_|refine ai4 ?_|refine ai6 ?_|refine alit ?_|refine ap (hfi) ?_|refine apy (hfi) ?_|refine ap (p_rattr _ _) ?_|refine apy (p_rattr _ _) ?_|refine ap (hch) ?_|refine apy (hch) ?_|refine da_skip ?_|refine da_nil ?_)|(refine bl ?_;first|refine bbd ?_|refine bbl ?_|refine b1 ?_|refine b14 ?_|refine b17t ?_|refine b17 ?_|refine b25 ?_|refine db_nil ?_)|refine al_cons (fun id hid=>?_)|refine al_nil ?_|(refine jc ?_;first|refine c1 ?_|refine c2 ?_|refine c3 ?_|refine c4 ?_|refine c5 ?_|refine c6 ?_|refine c7 ?_|refine c8 ?_|refine cqa ?_|refine cqk ?_|refine cq ?_)|refine n1 ?_|refine n2 ?_|refine n3 ?_|refine n4 ?_|refine n5 ?_|refine n6 ?_|refine n7 ?_|refine n8 ?_|refine n9 ?_|refine n10 ?_|refine n13 ?_|refine n11 ?_|refine n12 ?_|refine n14 ?_|refine n15 ?_|refine n16 ?_)|(refine c9 (fun h=>?_) (fun h=>?_)<;>(try simp only [Bool.or_eq_true, Bool.and_eq_true, Bool.or_eq_false_iff, Bool.and_eq_false_iff, Bool.not_eq_true', Bool.not_eq_false', decide_eq_true_eq, decide_eq_false_iff_not, Bool.false_eq_true, Bool.true_eq_false, reduceCtorEq] at h)))
      · first | exact ge rfl | exact gvs (by (repeat' (first | exact finl_nil | apply finl_cons | exact Fin.refl _ _ _ | apply fin_pk2 | apply fin_pk3 | apply fin_agg | apply fin_tup | exact fin_nil | exact fin_sl rfl | exact fin_fz (by exact lkp) (by first | assumption | exact St.ns1 (by assumption) | exact St.ns2 (by assumption) | exact St.ns3 (by assumption) | exact St.ns4 (by assumption) | exact St.ns5 (by assumption) | exact St.ns6 (by assumption) | exact St.ns7 (by assumption) | exact St.ns8 (by assumption) | exact St.ns9 (by assumption) | exact St.ns10 (by assumption) | exact St.ns11 (by assumption) | exact St.ns12 (by assumption) | exact St.ns13 (by assumption) | exact St.ns14 (by assumption) | exact St.ns10 (by assumption) | exact St.ns11 (by assumption) | exact St.ns12 (by assumption) | exact St.ns13 (by assumption) | exact St.ns14 (by assumption)) (by first | exact rfl | assumption | (simp only [List.length_map, List.length_append, List.length_cons, List.length_nil]; done) | (simp only [List.length_map, List.length_append, List.length_cons, List.length_nil]; omega)) rfl (fun _ => rfl) | exact fin_eq rfl)))
      · rw [hb] at h; exact absurd h.2 (by decide)
  · rw [if_neg hc0, if_neg hc0]
    repeat' (first|(first|(refine jl ?_;first|refine j7 ?_|refine j8 ?_|refine j10 ?_|refine j11 ?_|refine jtf ?_|refine jb ?_|refine jbl ?_|refine j1 ?_|refine j2 ?_|refine j3 ?_|refine j3f ?_|refine j4 ?_|refine j5 ?_|refine j6 ?_|refine j9 ?_|refine j12 (fun id hid=>?_)|refine j13 (fun id hid=>?_)|refine j14 ?_|refine j15 ?_|refine j17t ?_|refine j17 ?_|refine j16 ?_|refine j18 ?_|refine j19 ?_|refine j20 ?_|refine j21 ?_|refine j23 ?_|refine j24 ?_|refine j25 ?_|refine j26 ?_|refine jeq ?_|refine jeqq ?_|refine jne ?_|refine jneq ?_|refine jxe ?_|refine jxn ?_|refine jcbq ?_|refine ji1 ?_|refine ji2 ?_|refine ji3 ?_|refine ji4 ?_|refine ji5 ?_|refine ji6 ?_|refine j22 (fun id hid=>?_)|refine jp (p_rfind nl full l fn) ?_|refine jpy (p_rfind nl full l fn) ?_|refine jcq (hp:=fun hc=>p_rfind nl full l fn) ?_|refine jp (p_rattr _ _) ?_|refine jpy (p_rattr _ _) ?_|refine jcq (hp:=fun hc=>p_rattr _ _) ?_|refine jp (hch) ?_|refine jpy (hch) ?_|refine jcq (hp:=fun hc=>hch) ?_|refine jlit ?_|refine jmk ?_|refine jap ?_)|(refine dl ?_;first|refine d7 ?_|refine d8 ?_|refine d10 ?_|refine d11 ?_|refine dtf ?_|refine dbd ?_|refine dbl ?_|refine d1 ?_|refine d2 ?_|refine d3 ?_|refine d3f ?_|refine d4 ?_|refine d9 ?_|refine d14 ?_|refine d14a ?_|refine d15 ?_|refine d16 ?_|refine d18 ?_|refine d19 ?_|refine d20 ?_|refine d21 ?_|refine d25 ?_|refine d17 ?_|refine deq ?_|refine deqq ?_|refine dne ?_|refine dneq ?_|refine dxe ?_|refine dxn ?_|refine dcb ?_|refine dcbq ?_|refine di1 ?_|refine di2 ?_|refine di3 ?_|refine di4 ?_|refine di6 ?_|refine dp (p_rfind nl full l fn) ?_|refine dpy (p_rfind nl full l fn) ?_|refine dpq (hp:=fun hc=>p_rfind nl full l fn) ?_|refine dp (p_rattr _ _) ?_|refine dpy (p_rattr _ _) ?_|refine dpq (hp:=fun hc=>p_rattr _ _) ?_|refine dp (hch) ?_|refine dpy (hch) ?_|refine dpq (hp:=fun hc=>hch) ?_)|(refine al ?_;first|refine a7 ?_|refine a8 ?_|refine a10 ?_|refine a11 ?_|refine abd ?_|refine abl ?_|refine a1 ?_|refine a2 ?_|refine a3 ?_|refine a3f ?_|refine a9 ?_|refine a14 ?_|refine a15 ?_|refine a16 ?_|refine a18 ?_|refine a21 ?_|refine a25 ?_|refine ai1 ?_|refine ai2 ?_|refine ai3 ?_|refine ai4 ?_|refine ai6 ?_|refine alit ?_|refine ap (p_rfind nl full l fn) ?_|refine apy (p_rfind nl full l fn) ?_|refine ap (p_rattr _ _) ?_|refine apy (p_rattr _ _) ?_|refine ap (hch) ?_|refine apy (hch) ?_|refine da_skip ?_|refine da_nil ?_)|(refine bl ?_;first|refine bbd ?_|refine bbl ?_|refine b1 ?_|refine b14 ?_|refine b17t ?_|refine b17 ?_|refine b25 ?_|refine db_nil ?_)|refine al_cons (fun id hid=>?_)|refine al_nil ?_|(refine jc ?_;first|refine c1 ?_|refine c2 ?_|refine c3 ?_|refine c4 ?_|refine c5 ?_|refine c6 ?_|refine c7 ?_|refine c8 ?_|refine cqa ?_|refine cqk ?_|refine cq ?_)|refine n1 ?_|refine n2 ?_|refine n3 ?_|refine n4 ?_|refine n5 ?_|refine n6 ?_|refine n7 ?_|refine n8 ?_|refine n9 ?_|refine n10 ?_|refine n13 ?_|refine n11 ?_|refine n12 ?_|refine n14 ?_|refine n15 ?_|refine n16 ?_)|(refine c9 (fun h=>?_) (fun h=>?_)<;>(try simp only [Bool.or_eq_true, Bool.and_eq_true, Bool.or_eq_false_iff, Bool.and_eq_false_iff, Bool.not_eq_true', Bool.not_eq_false', decide_eq_true_eq, decide_eq_false_iff_not, Bool.false_eq_true, Bool.true_eq_false, reduceCtorEq] at h)))
    · first | exact ge rfl | exact gvs (by (repeat' (first | exact finl_nil | apply finl_cons | exact Fin.refl _ _ _ | apply fin_pk2 | apply fin_pk3 | apply fin_agg | apply fin_tup | exact fin_nil | exact fin_sl rfl | exact fin_fz (by exact lkp) (by first | assumption | exact St.ns1 (by assumption) | exact St.ns2 (by assumption) | exact St.ns3 (by assumption) | exact St.ns4 (by assumption) | exact St.ns5 (by assumption) | exact St.ns6 (by assumption) | exact St.ns7 (by assumption) | exact St.ns8 (by assumption) | exact St.ns9 (by assumption) | exact St.ns10 (by assumption) | exact St.ns11 (by assumption) | exact St.ns12 (by assumption) | exact St.ns13 (by assumption) | exact St.ns14 (by assumption) | exact St.ns10 (by assumption) | exact St.ns11 (by assumption) | exact St.ns12 (by assumption) | exact St.ns13 (by assumption) | exact St.ns14 (by assumption)) (by first | exact rfl | assumption | (simp only [List.length_map, List.length_append, List.length_cons, List.length_nil]; done) | (simp only [List.length_map, List.length_append, List.length_cons, List.length_nil]; omega)) rfl (fun _ => rfl) | exact fin_eq rfl)))
    · exact absurd h.1 hc0
def FinLL (σ σ' : St) (sz : Nat) : List (List AV) → List (List AV) → Prop
  | [], [] => True
  | a :: as', b :: bs => (FinL σ σ' a b ∧ b.length = sz) ∧ FinLL σ σ' sz as' bs
  | _, _ => False
theorem FinLL.get {σ σ' : St} {sz : Nat} : ∀ {as' bs : List (List AV)}, FinLL σ σ' sz as' bs → bs.length = as'.length ∧ ∀ (i : Nat) e', bs[i]? = some e' → e'.length = sz ∧ ∀ e, as'[i]? = some e → FinL σ σ' e e'
  | [], [], _ => ⟨rfl, fun i e h => by simp at h⟩
  | a :: as', b :: bs, h => by
    obtain ⟨h1, h2⟩ := FinLL.get h.2
    refine ⟨by rw [List.length_cons, List.length_cons, h1], fun i e' he' => ?_⟩
    cases i with
    | zero => cases he'; exact ⟨h.1.2, fun e he => by cases he; exact h.1.1⟩
    | succ i => exact h2 i e' he'
theorem fin_sll {σ σ' : St} {nl : Option Bool} {full : Bool} {sz : Nat} {els els' : List (List AV)} (h : FinLL σ σ' sz els els') : Fin σ σ' (.sl nl full sz els) (.sl none false sz els') :=
  .sl h.get.1 (fun i e he => (h.get.2 i e he).1) fun i j e a e' a' he ha he' ha' => ((h.get.2 i e' he').2 e he).get.2 j a a' ha ha'
theorem finll_nil {σ σ' : St} {sz : Nat} : FinLL σ σ' sz [] [] := trivial
theorem finll_cons {σ σ' : St} {sz : Nat} {a b : List AV} {as' bs : List (List AV)} (h : FinL σ σ' a b) (hb : b.length = sz) (h' : FinLL σ σ' sz as' bs) : FinLL σ σ' sz (a :: as') (b :: bs) := ⟨⟨h, hb⟩, h'⟩
theorem p_two : Pure Tryd.prog 42 [] (.sl none false 2 ([⟨⟨#[99]⟩, [⟨#[112]⟩, ⟨#[113]⟩]⟩, ⟨⟨#[100]⟩, [⟨#[113]⟩]⟩].map cc)) := by
  refine enterW Tryd.func42 rfl rfl rfl rfl (fun σ => ?_)
  repeat (first|(refine jl ?_;first|refine j7 ?_|refine j8 ?_|refine j10 ?_|refine j11 ?_|refine jtf ?_|refine jb ?_|refine jbl ?_|refine j1 ?_|refine j2 ?_|refine j3 ?_|refine j3f ?_|refine j4 ?_|refine j5 ?_|refine j6 ?_|refine j9 ?_|refine j12 (fun id hid=>?_)|refine j13 (fun id hid=>?_)|refine j14 ?_|refine j15 ?_|refine j17t ?_|refine j17 ?_|refine j16 ?_|refine j18 ?_|refine j19 ?_|refine j20 ?_|refine j21 ?_|refine j23 ?_|refine j24 ?_|refine j25 ?_|refine j26 ?_|refine jeq ?_|refine jeqq ?_|refine jne ?_|refine jneq ?_|refine jxe ?_|refine jxn ?_|refine jcbq ?_|refine ji1 ?_|refine ji2 ?_|refine ji3 ?_|refine ji4 ?_|refine ji5 ?_|refine ji6 ?_|refine j22 (fun id hid=>?_)|refine jlit ?_|refine jmk ?_|refine jap ?_)|(refine dl ?_;first|refine d7 ?_|refine d8 ?_|refine d10 ?_|refine d11 ?_|refine dtf ?_|refine dbd ?_|refine dbl ?_|refine d1 ?_|refine d2 ?_|refine d3 ?_|refine d3f ?_|refine d4 ?_|refine d9 ?_|refine d14 ?_|refine d14a ?_|refine d15 ?_|refine d16 ?_|refine d18 ?_|refine d19 ?_|refine d20 ?_|refine d21 ?_|refine d25 ?_|refine d17 ?_|refine deq ?_|refine deqq ?_|refine dne ?_|refine dneq ?_|refine dxe ?_|refine dxn ?_|refine dcb ?_|refine dcbq ?_|refine di1 ?_|refine di2 ?_|refine di3 ?_|refine di4 ?_|refine di6 ?_)|(refine al ?_;first|refine a7 ?_|refine a8 ?_|refine a10 ?_|refine a11 ?_|refine abd ?_|refine abl ?_|refine a1 ?_|refine a2 ?_|refine a3 ?_|refine a3f ?_|refine a9 ?_|refine a14 ?_|refine a15 ?_|refine a16 ?_|refine a18 ?_|refine a21 ?_|refine a25 ?_|refine ai1 ?_|refine ai2 ?_|refine ai3 ?_|refine ai4 ?_|refine ai6 ?_|refine alit ?_|refine da_skip ?_|refine da_nil ?_)|(refine bl ?_;first|refine bbd ?_|refine bbl ?_|refine b1 ?_|refine b14 ?_|refine b17t ?_|refine b17 ?_|refine b25 ?_|refine db_nil ?_)|refine al_cons (fun id hid=>?_)|refine al_nil ?_|(refine jc ?_;first|refine c1 ?_|refine c2 ?_|refine c3 ?_|refine c4 ?_|refine c5 ?_|refine c6 ?_|refine c7 ?_|refine c8 ?_|refine cqa ?_|refine cqk ?_|refine cq ?_)|refine n1 ?_|refine n2 ?_|refine n3 ?_|refine n4 ?_|refine n5 ?_|refine n6 ?_|refine n7 ?_|refine n8 ?_|refine n9 ?_|refine n10 ?_|refine n13 ?_|refine n11 ?_|refine n12 ?_|refine n14 ?_|refine n15 ?_|refine n16 ?_)
  refine gvs (fin_sll ?_)
  repeat' (first | exact finll_nil | (apply finll_cons) | exact rfl | exact finl_nil | apply finl_cons | exact Fin.refl _ _ _ | exact fin_sl rfl)
end Go.Proofs.YtcpokdjppedaoaaDoor.Ab

/- What every right program makes of one class. -/
set_option linter.unusedVariables false
set_option linter.unusedSimpArgs false
set_option maxRecDepth 20000
namespace Go.Proofs.YtcpokdjppedaoaaDoor.Ab
open Go
attribute [local irreducible] thn inb endR CJ LJ OpJ DJ DA DB AllocK

def sC : ByteArray := ⟨#[99]⟩
def sP : ByteArray := ⟨#[112]⟩
def sQ : ByteArray := ⟨#[113]⟩
def twoC : List Cls := [⟨⟨#[99]⟩, [⟨#[112]⟩, ⟨#[113]⟩]⟩, ⟨⟨#[100]⟩, [⟨#[113]⟩]⟩]
def set1 : List Bd := [⟨⟨#[113]⟩, ⟨1, 5, ⟨#[]⟩⟩⟩]
def set2 : List Bd := [⟨⟨#[112]⟩, ⟨2, 0, ⟨#[97]⟩⟩⟩]
def fA : Fc := makeF twoC 3 ⟨#[99]⟩ set1
def fB : Fc := withF twoC fA 4 set2
theorem two_len : ∀ c ∈ twoC, c.attrs.length ≤ 20 := by decide
theorem two_siz : ∀ c ∈ twoC, ∀ a ∈ c.attrs, a.size ≤ 60 := by decide
theorem set1_siz : ∀ b ∈ set1, b.val.s.size ≤ 60 := by decide
theorem fA_eq : fA = ⟨3, ⟨#[99]⟩, [⟨0, 0, ⟨#[]⟩⟩, ⟨1, 5, ⟨#[]⟩⟩]⟩ := by kernel_rfl
theorem fB_eq : fB = ⟨4, ⟨#[99]⟩, [⟨2, 0, ⟨#[97]⟩⟩, ⟨1, 5, ⟨#[]⟩⟩]⟩ := by kernel_rfl
theorem fA_siz : ∀ v ∈ fA.vals, v.s.size ≤ 60 := by rw [fA_eq]; decide
theorem fB_siz : ∀ v ∈ fB.vals, v.s.size ≤ 60 := by rw [fB_eq]; decide
theorem p_awakec : Pure Tryd.prog 10 [] (.v (.bool true)) := by
  refine enterW Tryd.func10 rfl rfl rfl rfl (fun σ => ?_)
  have k1 := p_make none (some false) false true twoC 3 ⟨#[99]⟩ set1 two_len set1_siz
  have k2 := p_withA none (some false) false true twoC fA 4 set2 (by rw [fA_eq]; decide)
  have k3 := p_get none false twoC fB ⟨#[113]⟩
  have k4 := p_textF none false twoC fA fA_siz (by rw [fA_eq]; decide) (by rw [fA_eq]; decide) two_siz
  have k5 := p_textF none false twoC fB fB_siz (by rw [fB_eq]; decide) (by rw [fB_eq]; decide) two_siz
  have k6 := p_ccheck none false twoC fB
  rw [show makeF twoC 3 ⟨#[99]⟩ set1 = fA from rfl] at k1
  rw [show withF twoC fA 4 set2 = fB from rfl] at k2
  rw [show makeR twoC 3 ⟨#[99]⟩ set1 = 0 by kernel_rfl] at k1
  rw [show (withR twoC fA 4 set2).1 = 0 by kernel_rfl] at k2
  rw [show getV twoC fB ⟨#[113]⟩ = ⟨1, 5, ⟨#[]⟩⟩ by kernel_rfl, show getB twoC fB ⟨#[113]⟩ = true by kernel_rfl] at k3
  rw [show textF twoC fA = ⟨#[40, 99, 32, 94, 113, 32, 53, 41]⟩ by kernel_rfl] at k4
  rw [show textF twoC fB = ⟨#[40, 99, 32, 94, 112, 32, 97, 32, 94, 113, 32, 53, 41]⟩ by kernel_rfl] at k5
  rw [show checkF twoC fB = 0 by kernel_rfl] at k6
  have k7 := p_csame fA fA
  have k8 := p_csame fA fB
  rw [show sameF fA fA = true by kernel_rfl] at k7
  rw [show sameF fA fB = false by kernel_rfl] at k8
  have k0 := p_two
  repeat' (first|(first|(refine jl ?_;first|refine j7 ?_|refine j8 ?_|refine j10 ?_|refine j11 ?_|refine jtf ?_|refine jb ?_|refine jbl ?_|refine j1 ?_|refine j2 ?_|refine j3 ?_|refine j3f ?_|refine j4 ?_|refine j5 ?_|refine j6 ?_|refine j9 ?_|refine j12 (fun id hid=>?_)|refine j13 (fun id hid=>?_)|refine j14 ?_|refine j15 ?_|refine j17t ?_|refine j17 ?_|refine j16 ?_|refine j18 ?_|refine j19 ?_|refine j20 ?_|refine j21 ?_|refine j23 ?_|refine j24 ?_|refine j25 ?_|refine j26 ?_|refine jeq ?_|refine jeqq ?_|refine jne ?_|refine jneq ?_|refine jxe ?_|refine jxn ?_|refine jcbq ?_|refine ji1 ?_|refine ji2 ?_|refine ji3 ?_|refine ji4 ?_|refine ji5 ?_|refine ji6 ?_|refine j22 (fun id hid=>?_)|refine jp (k0) ?_|refine jpy (k0) ?_|refine jcq (hp:=fun hc=>k0) ?_|refine jp (k1) ?_|refine jpy (k1) ?_|refine jcq (hp:=fun hc=>k1) ?_|refine jp (k2) ?_|refine jpy (k2) ?_|refine jcq (hp:=fun hc=>k2) ?_|refine jp (k3) ?_|refine jpy (k3) ?_|refine jcq (hp:=fun hc=>k3) ?_|refine jp (k4) ?_|refine jpy (k4) ?_|refine jcq (hp:=fun hc=>k4) ?_|refine jp (k5) ?_|refine jpy (k5) ?_|refine jcq (hp:=fun hc=>k5) ?_|refine jp (k6) ?_|refine jpy (k6) ?_|refine jcq (hp:=fun hc=>k6) ?_|refine jp (k7) ?_|refine jpy (k7) ?_|refine jcq (hp:=fun hc=>k7) ?_|refine jp (k8) ?_|refine jpy (k8) ?_|refine jcq (hp:=fun hc=>k8) ?_|refine jlit ?_|refine jmk ?_|refine jap ?_)|(refine dl ?_;first|refine d7 ?_|refine d8 ?_|refine d10 ?_|refine d11 ?_|refine dtf ?_|refine dbd ?_|refine dbl ?_|refine d1 ?_|refine d2 ?_|refine d3 ?_|refine d3f ?_|refine d4 ?_|refine d9 ?_|refine d14 ?_|refine d14a ?_|refine d15 ?_|refine d16 ?_|refine d18 ?_|refine d19 ?_|refine d20 ?_|refine d21 ?_|refine d25 ?_|refine d17 ?_|refine deq ?_|refine deqq ?_|refine dne ?_|refine dneq ?_|refine dxe ?_|refine dxn ?_|refine dcb ?_|refine dcbq ?_|refine di1 ?_|refine di2 ?_|refine di3 ?_|refine di4 ?_|refine di6 ?_|refine dp (k0) ?_|refine dpy (k0) ?_|refine dpq (hp:=fun hc=>k0) ?_|refine dp (k1) ?_|refine dpy (k1) ?_|refine dpq (hp:=fun hc=>k1) ?_|refine dp (k2) ?_|refine dpy (k2) ?_|refine dpq (hp:=fun hc=>k2) ?_|refine dp (k3) ?_|refine dpy (k3) ?_|refine dpq (hp:=fun hc=>k3) ?_|refine dp (k4) ?_|refine dpy (k4) ?_|refine dpq (hp:=fun hc=>k4) ?_|refine dp (k5) ?_|refine dpy (k5) ?_|refine dpq (hp:=fun hc=>k5) ?_|refine dp (k6) ?_|refine dpy (k6) ?_|refine dpq (hp:=fun hc=>k6) ?_|refine dp (k7) ?_|refine dpy (k7) ?_|refine dpq (hp:=fun hc=>k7) ?_|refine dp (k8) ?_|refine dpy (k8) ?_|refine dpq (hp:=fun hc=>k8) ?_)|(refine al ?_;first|refine a7 ?_|refine a8 ?_|refine a10 ?_|refine a11 ?_|refine abd ?_|refine abl ?_|refine a1 ?_|refine a2 ?_|refine a3 ?_|refine a3f ?_|refine a9 ?_|refine a14 ?_|refine a15 ?_|refine a16 ?_|refine a18 ?_|refine a21 ?_|refine a25 ?_|refine ai1 ?_|refine ai2 ?_|refine ai3 ?_|refine ai4 ?_|refine ai6 ?_|refine alit ?_|refine ap (k0) ?_|refine apy (k0) ?_|refine ap (k1) ?_|refine apy (k1) ?_|refine ap (k2) ?_|refine apy (k2) ?_|refine ap (k3) ?_|refine apy (k3) ?_|refine ap (k4) ?_|refine apy (k4) ?_|refine ap (k5) ?_|refine apy (k5) ?_|refine ap (k6) ?_|refine apy (k6) ?_|refine ap (k7) ?_|refine apy (k7) ?_|refine ap (k8) ?_|refine apy (k8) ?_|refine da_skip ?_|refine da_nil ?_)|(refine bl ?_;first|refine bbd ?_|refine bbl ?_|refine b1 ?_|refine b14 ?_|refine b17t ?_|refine b17 ?_|refine b25 ?_|refine db_nil ?_)|refine al_cons (fun id hid=>?_)|refine al_nil ?_|(refine jc ?_;first|refine c1 ?_|refine c2 ?_|refine c3 ?_|refine c4 ?_|refine c5 ?_|refine c6 ?_|refine c7 ?_|refine c8 ?_|refine cqa ?_|refine cqk ?_|refine cq ?_)|refine n1 ?_|refine n2 ?_|refine n3 ?_|refine n4 ?_|refine n5 ?_|refine n6 ?_|refine n7 ?_|refine n8 ?_|refine n9 ?_|refine n10 ?_|refine n13 ?_|refine n11 ?_|refine n12 ?_|refine n14 ?_|refine n15 ?_|refine n16 ?_)|(refine c9 (fun h=>?_) (fun h=>?_)<;>(try simp only [Bool.or_eq_true, Bool.and_eq_true, Bool.or_eq_false_iff, Bool.and_eq_false_iff, Bool.not_eq_true', Bool.not_eq_false', decide_eq_true_eq, decide_eq_false_iff_not, Bool.false_eq_true, Bool.true_eq_false, reduceCtorEq] at h)))
  refine ge (congrArg (fun b => AV.v (Value.bool b)) ?_)
  have e : fB.tag = 4 := by rw [fB_eq]
  rw [e]
  decide +kernel
end Go.Proofs.YtcpokdjppedaoaaDoor.Ab

/- Laws of classes: what is looked at. -/
set_option linter.unusedVariables false
set_option linter.unusedSimpArgs false
set_option maxRecDepth 20000
namespace Go.Proofs.YtcpokdjppedaoaaDoor.Ab
open Go
attribute [local irreducible] thn inb endR CJ LJ OpJ DJ DA DB AllocK

theorem lightP_of {l : List Cls} {f : Fc} {sets : List Bd} (h : lightP l f sets) : (l.length ≤ 20 ∧ f.vals.length ≤ 20 ∧ f.cls.size ≤ 60 ∧ sets.length ≤ 20) ∧ (∀ c ∈ l, c.attrs.length ≤ 20) ∧ (∀ c ∈ l, ∀ a ∈ c.attrs, a.size ≤ 60) ∧ (∀ v ∈ f.vals, v.s.size ≤ 60) ∧ (∀ b ∈ sets, b.name.size ≤ 60) ∧ (∀ b ∈ sets, b.val.s.size ≤ 60) := by
  obtain ⟨h1, h2, h3, h4⟩ := h
  exact ⟨h1, fun c hc => (h2 c hc).1, fun c hc => (h2 c hc).2.2, fun v hv => h3 v hv, fun b hb => (h4 b hb).1, fun b hb => (h4 b hb).2⟩
set_option maxHeartbeats 1000000 in
theorem l_classLooks (l : List Cls) (f g : Fc) (nm : ByteArray) : Pure Tryd.prog 4 [.sl none false 2 (l.map cc), .agg (fc f ++ fc g), .v (.string nm)] (.v (.bool true)) := by
  refine enterW Tryd.func4 rfl rfl rfl rfl (fun σ => ?_)
  have k1 : Pure Tryd.prog 9 [.sl none false 2 (l.map cc), .agg (fc f), .sl (some true) true 1 []] (.v (.bool (lightB l f []))) := (p_light none none false false l f []).wka ⟨Wk.refl _, Wk.refl _, Wk.nil _ _ _ _, trivial⟩
  have k2 : Pure Tryd.prog 9 [.sl (some true) true 1 [], .agg (fc g), .sl (some true) true 1 []] (.v (.bool (lightB [] g []))) := (p_light none none false false [] g []).wka ⟨Wk.nil _ _ _ _, Wk.refl _, Wk.nil _ _ _ _, trivial⟩
  repeat' (first|(first|(refine jl ?_;first|refine j7 ?_|refine j8 ?_|refine j10 ?_|refine j11 ?_|refine jtf ?_|refine jb ?_|refine jbl ?_|refine j1 ?_|refine j2 ?_|refine j3 ?_|refine j3f ?_|refine j4 ?_|refine j5 ?_|refine j6 ?_|refine j9 ?_|refine j12 (fun id hid=>?_)|refine j13 (fun id hid=>?_)|refine j14 ?_|refine j15 ?_|refine j17t ?_|refine j17 ?_|refine j16 ?_|refine j18 ?_|refine j19 ?_|refine j20 ?_|refine j21 ?_|refine j23 ?_|refine j24 ?_|refine j25 ?_|refine j26 ?_|refine jeq ?_|refine jeqq ?_|refine jne ?_|refine jneq ?_|refine jxe ?_|refine jxn ?_|refine jcbq ?_|refine ji1 ?_|refine ji2 ?_|refine ji3 ?_|refine ji4 ?_|refine ji5 ?_|refine ji6 ?_|refine j22 (fun id hid=>?_)|refine jp (k1) ?_|refine jpy (k1) ?_|refine jcq (hp:=fun hc=>k1) ?_|refine jp (k2) ?_|refine jpy (k2) ?_|refine jcq (hp:=fun hc=>k2) ?_|refine jp (p_awakec) ?_|refine jpy (p_awakec) ?_|refine jcq (hp:=fun hc=>p_awakec) ?_|refine jlit ?_|refine jmk ?_|refine jap ?_)|(refine dl ?_;first|refine d7 ?_|refine d8 ?_|refine d10 ?_|refine d11 ?_|refine dtf ?_|refine dbd ?_|refine dbl ?_|refine d1 ?_|refine d2 ?_|refine d3 ?_|refine d3f ?_|refine d4 ?_|refine d9 ?_|refine d14 ?_|refine d14a ?_|refine d15 ?_|refine d16 ?_|refine d18 ?_|refine d19 ?_|refine d20 ?_|refine d21 ?_|refine d25 ?_|refine d17 ?_|refine deq ?_|refine deqq ?_|refine dne ?_|refine dneq ?_|refine dxe ?_|refine dxn ?_|refine dcb ?_|refine dcbq ?_|refine di1 ?_|refine di2 ?_|refine di3 ?_|refine di4 ?_|refine di6 ?_|refine dp (k1) ?_|refine dpy (k1) ?_|refine dpq (hp:=fun hc=>k1) ?_|refine dp (k2) ?_|refine dpy (k2) ?_|refine dpq (hp:=fun hc=>k2) ?_|refine dp (p_awakec) ?_|refine dpy (p_awakec) ?_|refine dpq (hp:=fun hc=>p_awakec) ?_)|(refine al ?_;first|refine a7 ?_|refine a8 ?_|refine a10 ?_|refine a11 ?_|refine abd ?_|refine abl ?_|refine a1 ?_|refine a2 ?_|refine a3 ?_|refine a3f ?_|refine a9 ?_|refine a14 ?_|refine a15 ?_|refine a16 ?_|refine a18 ?_|refine a21 ?_|refine a25 ?_|refine ai1 ?_|refine ai2 ?_|refine ai3 ?_|refine ai4 ?_|refine ai6 ?_|refine alit ?_|refine ap (k1) ?_|refine apy (k1) ?_|refine ap (k2) ?_|refine apy (k2) ?_|refine ap (p_awakec) ?_|refine apy (p_awakec) ?_|refine da_skip ?_|refine da_nil ?_)|(refine bl ?_;first|refine bbd ?_|refine bbl ?_|refine b1 ?_|refine b14 ?_|refine b17t ?_|refine b17 ?_|refine b25 ?_|refine db_nil ?_)|refine al_cons (fun id hid=>?_)|refine al_nil ?_|(refine jc ?_;first|refine c1 ?_|refine c2 ?_|refine c3 ?_|refine c4 ?_|refine c5 ?_|refine c6 ?_|refine c7 ?_|refine c8 ?_|refine cqa ?_|refine cqk ?_|refine cq ?_)|refine n1 ?_|refine n2 ?_|refine n3 ?_|refine n4 ?_|refine n5 ?_|refine n6 ?_|refine n7 ?_|refine n8 ?_|refine n9 ?_|refine n10 ?_|refine n13 ?_|refine n11 ?_|refine n12 ?_|refine n14 ?_|refine n15 ?_|refine n16 ?_)|(refine c9 (fun h=>?_) (fun h=>?_)<;>(try simp only [Bool.or_eq_true, Bool.and_eq_true, Bool.or_eq_false_iff, Bool.and_eq_false_iff, Bool.not_eq_true', Bool.not_eq_false', decide_eq_true_eq, decide_eq_false_iff_not, Bool.false_eq_true, Bool.true_eq_false, reduceCtorEq] at h)))
  · first | exact ge rfl | exact gvs (by (repeat' (first | exact finl_nil | apply finl_cons | exact Fin.refl _ _ _ | apply fin_pk2 | apply fin_pk3 | apply fin_agg | apply fin_tup | exact fin_nil | exact fin_sl rfl | exact fin_fz (by exact lkp) (by first | assumption | exact St.ns1 (by assumption) | exact St.ns2 (by assumption) | exact St.ns3 (by assumption) | exact St.ns4 (by assumption) | exact St.ns5 (by assumption) | exact St.ns6 (by assumption) | exact St.ns7 (by assumption) | exact St.ns8 (by assumption) | exact St.ns9 (by assumption) | exact St.ns10 (by assumption) | exact St.ns11 (by assumption) | exact St.ns12 (by assumption) | exact St.ns13 (by assumption) | exact St.ns14 (by assumption) | exact St.ns10 (by assumption) | exact St.ns11 (by assumption) | exact St.ns12 (by assumption) | exact St.ns13 (by assumption) | exact St.ns14 (by assumption)) (by first | exact rfl | assumption | (simp only [List.length_map, List.length_append, List.length_cons, List.length_nil]; done) | (simp only [List.length_map, List.length_append, List.length_cons, List.length_nil]; omega)) rfl (fun _ => rfl) | exact fin_eq rfl)))
  · obtain ⟨⟨hl1, hl2⟩, hl3⟩ := h
    obtain ⟨⟨_, a2, a3, _⟩, a5, a6, a7, _⟩ := lightP_of (lightB_iff hl1)
    obtain ⟨_, _, _, b7, _⟩ := lightP_of (lightB_iff hl2)
    have k3 := p_get none false l f nm
    have k4 := p_rget none false l f nm a7
    have k5 := p_textF none false l f a7 a3 a2 a6
    have k6 := p_rtextF none false l f a7 a3 a2 a6
    have k7 := p_csame f g
    have k8 := p_rsame f g
    repeat' (first|(first|(refine jl ?_;first|refine j7 ?_|refine j8 ?_|refine j10 ?_|refine j11 ?_|refine jtf ?_|refine jb ?_|refine jbl ?_|refine j1 ?_|refine j2 ?_|refine j3 ?_|refine j3f ?_|refine j4 ?_|refine j5 ?_|refine j6 ?_|refine j9 ?_|refine j12 (fun id hid=>?_)|refine j13 (fun id hid=>?_)|refine j14 ?_|refine j15 ?_|refine j17t ?_|refine j17 ?_|refine j16 ?_|refine j18 ?_|refine j19 ?_|refine j20 ?_|refine j21 ?_|refine j23 ?_|refine j24 ?_|refine j25 ?_|refine j26 ?_|refine jeq ?_|refine jeqq ?_|refine jne ?_|refine jneq ?_|refine jxe ?_|refine jxn ?_|refine jcbq ?_|refine ji1 ?_|refine ji2 ?_|refine ji3 ?_|refine ji4 ?_|refine ji5 ?_|refine ji6 ?_|refine j22 (fun id hid=>?_)|refine jp (k3) ?_|refine jpy (k3) ?_|refine jcq (hp:=fun hc=>k3) ?_|refine jp (k4) ?_|refine jpy (k4) ?_|refine jcq (hp:=fun hc=>k4) ?_|refine jp (k5) ?_|refine jpy (k5) ?_|refine jcq (hp:=fun hc=>k5) ?_|refine jp (k6) ?_|refine jpy (k6) ?_|refine jcq (hp:=fun hc=>k6) ?_|refine jp (k7) ?_|refine jpy (k7) ?_|refine jcq (hp:=fun hc=>k7) ?_|refine jp (k8) ?_|refine jpy (k8) ?_|refine jcq (hp:=fun hc=>k8) ?_|refine jp (p_awakec) ?_|refine jpy (p_awakec) ?_|refine jcq (hp:=fun hc=>p_awakec) ?_|refine jlit ?_|refine jmk ?_|refine jap ?_)|(refine dl ?_;first|refine d7 ?_|refine d8 ?_|refine d10 ?_|refine d11 ?_|refine dtf ?_|refine dbd ?_|refine dbl ?_|refine d1 ?_|refine d2 ?_|refine d3 ?_|refine d3f ?_|refine d4 ?_|refine d9 ?_|refine d14 ?_|refine d14a ?_|refine d15 ?_|refine d16 ?_|refine d18 ?_|refine d19 ?_|refine d20 ?_|refine d21 ?_|refine d25 ?_|refine d17 ?_|refine deq ?_|refine deqq ?_|refine dne ?_|refine dneq ?_|refine dxe ?_|refine dxn ?_|refine dcb ?_|refine dcbq ?_|refine di1 ?_|refine di2 ?_|refine di3 ?_|refine di4 ?_|refine di6 ?_|refine dp (k3) ?_|refine dpy (k3) ?_|refine dpq (hp:=fun hc=>k3) ?_|refine dp (k4) ?_|refine dpy (k4) ?_|refine dpq (hp:=fun hc=>k4) ?_|refine dp (k5) ?_|refine dpy (k5) ?_|refine dpq (hp:=fun hc=>k5) ?_|refine dp (k6) ?_|refine dpy (k6) ?_|refine dpq (hp:=fun hc=>k6) ?_|refine dp (k7) ?_|refine dpy (k7) ?_|refine dpq (hp:=fun hc=>k7) ?_|refine dp (k8) ?_|refine dpy (k8) ?_|refine dpq (hp:=fun hc=>k8) ?_|refine dp (p_awakec) ?_|refine dpy (p_awakec) ?_|refine dpq (hp:=fun hc=>p_awakec) ?_)|(refine al ?_;first|refine a7 ?_|refine a8 ?_|refine a10 ?_|refine a11 ?_|refine abd ?_|refine abl ?_|refine a1 ?_|refine a2 ?_|refine a3 ?_|refine a3f ?_|refine a9 ?_|refine a14 ?_|refine a15 ?_|refine a16 ?_|refine a18 ?_|refine a21 ?_|refine a25 ?_|refine ai1 ?_|refine ai2 ?_|refine ai3 ?_|refine ai4 ?_|refine ai6 ?_|refine alit ?_|refine ap (k3) ?_|refine apy (k3) ?_|refine ap (k4) ?_|refine apy (k4) ?_|refine ap (k5) ?_|refine apy (k5) ?_|refine ap (k6) ?_|refine apy (k6) ?_|refine ap (k7) ?_|refine apy (k7) ?_|refine ap (k8) ?_|refine apy (k8) ?_|refine ap (p_awakec) ?_|refine apy (p_awakec) ?_|refine da_skip ?_|refine da_nil ?_)|(refine bl ?_;first|refine bbd ?_|refine bbl ?_|refine b1 ?_|refine b14 ?_|refine b17t ?_|refine b17 ?_|refine b25 ?_|refine db_nil ?_)|refine al_cons (fun id hid=>?_)|refine al_nil ?_|(refine jc ?_;first|refine c1 ?_|refine c2 ?_|refine c3 ?_|refine c4 ?_|refine c5 ?_|refine c6 ?_|refine c7 ?_|refine c8 ?_|refine cqa ?_|refine cqk ?_|refine cq ?_)|refine n1 ?_|refine n2 ?_|refine n3 ?_|refine n4 ?_|refine n5 ?_|refine n6 ?_|refine n7 ?_|refine n8 ?_|refine n9 ?_|refine n10 ?_|refine n13 ?_|refine n11 ?_|refine n12 ?_|refine n14 ?_|refine n15 ?_|refine n16 ?_)|(refine c9 (fun h=>?_) (fun h=>?_)<;>(try simp only [Bool.or_eq_true, Bool.and_eq_true, Bool.or_eq_false_iff, Bool.and_eq_false_iff, Bool.not_eq_true', Bool.not_eq_false', decide_eq_true_eq, decide_eq_false_iff_not, Bool.false_eq_true, Bool.true_eq_false, reduceCtorEq] at h)))
    refine ge (congrArg (fun b => AV.v (Value.bool b)) ?_)
    simp
end Go.Proofs.YtcpokdjppedaoaaDoor.Ab

/- Whether classes may be. -/
set_option linter.unusedVariables false
set_option linter.unusedSimpArgs false
set_option maxRecDepth 20000
namespace Go.Proofs.YtcpokdjppedaoaaDoor.Ab
open Go
attribute [local irreducible] thn inb endR CJ LJ OpJ DJ DA DB AllocK

/-- Names met, one after another, till one was met ahead. -/
def metGo : List ByteArray → List ByteArray → List ByteArray
  | ns, [] => ns
  | ns, a :: r => if hasS a ns = true then putS a ns else metGo (putS a ns) r
def dupI : List ByteArray → List ByteArray → Int → Int
  | _, [], _ => -1
  | ns, a :: r, i => if hasS a ns = true then i else dupI (putS a ns) r (i + 1)
def dupS : List ByteArray → List ByteArray → Bool
  | _, [] => false
  | ns, a :: r => if hasS a ns = true then true else dupS (putS a ns) r
def classesGo : List ByteArray → List Cls → Int
  | _, [] => 0
  | ns, c :: r => if hasS c.name ns = true then 7 else if dupS [] c.attrs = true then 7 else classesGo (putS c.name ns) r
theorem dup_iff : ∀ (l ns : List ByteArray) (i : Int), 0 ≤ i → decide (0 ≤ dupI ns l i) = dupS ns l
  | [], ns, i, _ => rfl
  | a :: r, ns, i, hi => by
    unfold dupI dupS
    by_cases h : hasS a ns = true
    · rw [if_pos h, if_pos h]; exact decide_eq_true hi
    · rw [if_neg h, if_neg h]; exact dup_iff r _ _ (by omega)
theorem q_meet {σ : St} {id : Nat} {ns : List ByteArray} (h : σ id = some (.map (setM ns))) (s : ByteArray) : ACalls Tryd.prog 58 [.mp id, .v (.string s)] σ (fun e σ' => e = .ret (.v (.bool (hasS s ns))) ∧ σ' = σ.set id (.map (setM (putS s ns)))) := by
  refine enterS Tryd.func58 rfl rfl rfl rfl ?_
  repeat (first|(refine jl ?_;first|refine j7 ?_|refine j8 ?_|refine j10 ?_|refine j11 ?_|refine jtf ?_|refine jb ?_|refine jbl ?_|refine j1 ?_|refine j2 ?_|refine j3 ?_|refine j3f ?_|refine j4 ?_|refine j5 ?_|refine j6 ?_|refine j9 ?_|refine j12 (fun id hid=>?_)|refine j13 (fun id hid=>?_)|refine j14 ?_|refine j15 ?_|refine j17t ?_|refine j17 ?_|refine j16 ?_|refine j18 ?_|refine j19 ?_|refine j20 ?_|refine j21 ?_|refine j23 ?_|refine j24 ?_|refine j25 ?_|refine j26 ?_|refine jeq ?_|refine jeqq ?_|refine jne ?_|refine jneq ?_|refine jxe ?_|refine jxn ?_|refine jcbq ?_|refine ji1 ?_|refine ji2 ?_|refine ji3 ?_|refine ji4 ?_|refine ji5 ?_|refine ji6 ?_|refine j22 (fun id hid=>?_)|refine jls ?_|refine jus ?_|refine jlit ?_|refine jmk ?_|refine jap ?_)|(refine dl ?_;first|refine d7 ?_|refine d8 ?_|refine d10 ?_|refine d11 ?_|refine dtf ?_|refine dbd ?_|refine dbl ?_|refine d1 ?_|refine d2 ?_|refine d3 ?_|refine d3f ?_|refine d4 ?_|refine d9 ?_|refine d14 ?_|refine d14a ?_|refine d15 ?_|refine d16 ?_|refine d18 ?_|refine d19 ?_|refine d20 ?_|refine d21 ?_|refine d25 ?_|refine d17 ?_|refine deq ?_|refine deqq ?_|refine dne ?_|refine dneq ?_|refine dxe ?_|refine dxn ?_|refine dcb ?_|refine dcbq ?_|refine di1 ?_|refine di2 ?_|refine di3 ?_|refine di4 ?_|refine di6 ?_)|(refine al ?_;first|refine a7 ?_|refine a8 ?_|refine a10 ?_|refine a11 ?_|refine abd ?_|refine abl ?_|refine a1 ?_|refine a2 ?_|refine a3 ?_|refine a3f ?_|refine a9 ?_|refine a14 ?_|refine a15 ?_|refine a16 ?_|refine a18 ?_|refine a21 ?_|refine a25 ?_|refine ai1 ?_|refine ai2 ?_|refine ai3 ?_|refine ai4 ?_|refine ai6 ?_|refine alit ?_|refine da_skip ?_|refine da_nil ?_)|(refine bl ?_;first|refine bbd ?_|refine bbl ?_|refine b1 ?_|refine b14 ?_|refine b17t ?_|refine b17 ?_|refine b25 ?_|refine db_nil ?_)|refine al_cons (fun id hid=>?_)|refine al_nil ?_|(refine jc ?_;first|refine c1 ?_|refine c2 ?_|refine c3 ?_|refine c4 ?_|refine c5 ?_|refine c6 ?_|refine c7 ?_|refine c8 ?_|refine cqa ?_|refine cqk ?_|refine cq ?_)|refine n1 ?_|refine n2 ?_|refine n3 ?_|refine n4 ?_|refine n5 ?_|refine n6 ?_|refine n7 ?_|refine n8 ?_|refine n9 ?_|refine n10 ?_|refine n13 ?_|refine n11 ?_|refine n12 ?_|refine n14 ?_|refine n15 ?_|refine n16 ?_)
  exact ge rfl
theorem q_index_meet {τ : St} {id : Nat} (nl : Option Bool) (full : Bool) (l : List ByteArray) : ACalls Tryd.prog 87 [.sl nl full 1 (l.map str1), .bf 58 [.mp id]] (τ.set id (.map (setM []))) (fun e σ' => e = .ret (.v (.int .i64 (dupI [] l 0))) ∧ σ' = τ.set id (.map (setM (metGo [] l)))) := by
  refine enterS Tryd.func87 rfl rfl rfl rfl ?_
  refine cj_len 0 (fun hm => ?_)
  have hn : (l.map str1).length = l.length := List.length_map ..
  repeat (first|(refine jl ?_;first|refine j7 ?_|refine j8 ?_|refine j10 ?_|refine j11 ?_|refine jtf ?_|refine jb ?_|refine jbl ?_|refine j1 ?_|refine j2 ?_|refine j3 ?_|refine j3f ?_|refine j4 ?_|refine j5 ?_|refine j6 ?_|refine j9 ?_|refine j12 (fun id hid=>?_)|refine j13 (fun id hid=>?_)|refine j14 ?_|refine j15 ?_|refine j17t ?_|refine j17 ?_|refine j16 ?_|refine j18 ?_|refine j19 ?_|refine j20 ?_|refine j21 ?_|refine j23 ?_|refine j24 ?_|refine j25 ?_|refine j26 ?_|refine jeq ?_|refine jeqq ?_|refine jne ?_|refine jneq ?_|refine jxe ?_|refine jxn ?_|refine jcbq ?_|refine ji1 ?_|refine ji2 ?_|refine ji3 ?_|refine ji4 ?_|refine ji5 ?_|refine ji6 ?_|refine j22 (fun id hid=>?_)|refine jlit ?_|refine jmk ?_|refine jap ?_)|(refine dl ?_;first|refine d7 ?_|refine d8 ?_|refine d10 ?_|refine d11 ?_|refine dtf ?_|refine dbd ?_|refine dbl ?_|refine d1 ?_|refine d2 ?_|refine d3 ?_|refine d3f ?_|refine d4 ?_|refine d9 ?_|refine d14 ?_|refine d14a ?_|refine d15 ?_|refine d16 ?_|refine d18 ?_|refine d19 ?_|refine d20 ?_|refine d21 ?_|refine d25 ?_|refine d17 ?_|refine deq ?_|refine deqq ?_|refine dne ?_|refine dneq ?_|refine dxe ?_|refine dxn ?_|refine dcb ?_|refine dcbq ?_|refine di1 ?_|refine di2 ?_|refine di3 ?_|refine di4 ?_|refine di6 ?_)|(refine al ?_;first|refine a7 ?_|refine a8 ?_|refine a10 ?_|refine a11 ?_|refine abd ?_|refine abl ?_|refine a1 ?_|refine a2 ?_|refine a3 ?_|refine a3f ?_|refine a9 ?_|refine a14 ?_|refine a15 ?_|refine a16 ?_|refine a18 ?_|refine a21 ?_|refine a25 ?_|refine ai1 ?_|refine ai2 ?_|refine ai3 ?_|refine ai4 ?_|refine ai6 ?_|refine alit ?_|refine da_skip ?_|refine da_nil ?_)|(refine bl ?_;first|refine bbd ?_|refine bbl ?_|refine b1 ?_|refine b14 ?_|refine b17t ?_|refine b17 ?_|refine b25 ?_|refine db_nil ?_)|refine al_cons (fun id hid=>?_)|refine al_nil ?_|(refine jc ?_;first|refine c1 ?_|refine c2 ?_|refine c3 ?_|refine c4 ?_|refine c5 ?_|refine c6 ?_|refine c7 ?_|refine c8 ?_|refine cqa ?_|refine cqk ?_|refine cq ?_)|refine n1 ?_|refine n2 ?_|refine n3 ?_|refine n4 ?_|refine n5 ?_|refine n6 ?_|refine n7 ?_|refine n8 ?_|refine n9 ?_|refine n10 ?_|refine n13 ?_|refine n11 ?_|refine n12 ?_|refine n14 ?_|refine n15 ?_|refine n16 ?_)
  refine cj_for (fun s : Nat × List ByteArray => s.1 ≤ l.length ∧ dupI s.2 (l.drop s.1) s.1 = dupI [] l 0 ∧ metGo s.2 (l.drop s.1) = metGo [] l) (fun s => [(8, .v (.int .i64 s.1))]) (fun s => τ.set id (.map (setM s.2))) (fun s => l.length - s.1) (0, []) ⟨Nat.zero_le _, rfl, rfl⟩ ⟨⟨_, rfl, fun _ _ h => h⟩, trivial⟩ (St.le_refl _) (fun s hs => ?_)
  obtain ⟨i, ns⟩ := s
  obtain ⟨hs0, hs1, hs2⟩ := hs
  dsimp only at hs0 hs1 hs2 ⊢
  rcases hd : l.drop i with _ | ⟨a, r⟩
  · have h0 := dropn hd
    rw [hd, dupI] at hs1
    rw [hd, metGo] at hs2
    repeat' (first|(first|(refine jl ?_;first|refine j7 ?_|refine j8 ?_|refine j10 ?_|refine j11 ?_|refine jtf ?_|refine jb ?_|refine jbl ?_|refine j1 ?_|refine j2 ?_|refine j3 ?_|refine j3f ?_|refine j4 ?_|refine j5 ?_|refine j6 ?_|refine j9 ?_|refine j12 (fun id hid=>?_)|refine j13 (fun id hid=>?_)|refine j14 ?_|refine j15 ?_|refine j17t ?_|refine j17 ?_|refine j16 ?_|refine j18 ?_|refine j19 ?_|refine j20 ?_|refine j21 ?_|refine j23 ?_|refine j24 ?_|refine j25 ?_|refine j26 ?_|refine jeq ?_|refine jeqq ?_|refine jne ?_|refine jneq ?_|refine jxe ?_|refine jxn ?_|refine jcbq ?_|refine ji1 ?_|refine ji2 ?_|refine ji3 ?_|refine ji4 ?_|refine ji5 ?_|refine ji6 ?_|refine j22 (fun id hid=>?_)|refine jlit ?_|refine jmk ?_|refine jap ?_)|(refine dl ?_;first|refine d7 ?_|refine d8 ?_|refine d10 ?_|refine d11 ?_|refine dtf ?_|refine dbd ?_|refine dbl ?_|refine d1 ?_|refine d2 ?_|refine d3 ?_|refine d3f ?_|refine d4 ?_|refine d9 ?_|refine d14 ?_|refine d14a ?_|refine d15 ?_|refine d16 ?_|refine d18 ?_|refine d19 ?_|refine d20 ?_|refine d21 ?_|refine d25 ?_|refine d17 ?_|refine deq ?_|refine deqq ?_|refine dne ?_|refine dneq ?_|refine dxe ?_|refine dxn ?_|refine dcb ?_|refine dcbq ?_|refine di1 ?_|refine di2 ?_|refine di3 ?_|refine di4 ?_|refine di6 ?_)|(refine al ?_;first|refine a7 ?_|refine a8 ?_|refine a10 ?_|refine a11 ?_|refine abd ?_|refine abl ?_|refine a1 ?_|refine a2 ?_|refine a3 ?_|refine a3f ?_|refine a9 ?_|refine a14 ?_|refine a15 ?_|refine a16 ?_|refine a18 ?_|refine a21 ?_|refine a25 ?_|refine ai1 ?_|refine ai2 ?_|refine ai3 ?_|refine ai4 ?_|refine ai6 ?_|refine alit ?_|refine da_skip ?_|refine da_nil ?_)|(refine bl ?_;first|refine bbd ?_|refine bbl ?_|refine b1 ?_|refine b14 ?_|refine b17t ?_|refine b17 ?_|refine b25 ?_|refine db_nil ?_)|refine al_cons (fun id hid=>?_)|refine al_nil ?_|(refine jc ?_;first|refine c1 ?_|refine c2 ?_|refine c3 ?_|refine c4 ?_|refine c5 ?_|refine c6 ?_|refine c7 ?_|refine c8 ?_|refine cqa ?_|refine cqk ?_|refine cq ?_)|refine n1 ?_|refine n2 ?_|refine n3 ?_|refine n4 ?_|refine n5 ?_|refine n6 ?_|refine n7 ?_|refine n8 ?_|refine n9 ?_|refine n10 ?_|refine n13 ?_|refine n11 ?_|refine n12 ?_|refine n14 ?_|refine n15 ?_|refine n16 ?_)|(refine c9 (fun h=>?_) (fun h=>?_)<;>((try simp only [Bool.or_eq_true, Bool.and_eq_true, Bool.or_eq_false_iff, Bool.and_eq_false_iff, Bool.not_eq_true', Bool.not_eq_false', decide_eq_true_eq, decide_eq_false_iff_not, Bool.false_eq_true, Bool.true_eq_false, reduceCtorEq] at h) <;> (try simp (disch := omega) only [sb_bt, w64, Int.reduceAdd, Int.reduceToNat, Int.toNat_natCast, not_true_eq_false, false_or] at h) <;> (try (exfalso; omega)))))
    rw [← hs1, ← hs2]
    exact ge rfl
  · obtain ⟨h1, h2, h3⟩ := dropc hd
    have h4 := get_map str1 h3
    rw [hd, dupI] at hs1
    rw [hd, metGo] at hs2
    repeat' (first|(first|(refine jl ?_;first|refine j7 ?_|refine j8 ?_|refine j10 ?_|refine j11 ?_|refine jtf ?_|refine jb ?_|refine jbl ?_|refine j1 ?_|refine j2 ?_|refine j3 ?_|refine j3f ?_|refine j4 ?_|refine j5 ?_|refine j6 ?_|refine j9 ?_|refine j12 (fun id hid=>?_)|refine j13 (fun id hid=>?_)|refine j14 ?_|refine j15 ?_|refine j17t ?_|refine j17 ?_|refine j16 ?_|refine j18 ?_|refine j19 ?_|refine j20 ?_|refine j21 ?_|refine j23 ?_|refine j24 ?_|refine j25 ?_|refine j26 ?_|refine jeq ?_|refine jeqq ?_|refine jne ?_|refine jneq ?_|refine jxe ?_|refine jxn ?_|refine jcbq ?_|refine ji1 ?_|refine ji2 ?_|refine ji3 ?_|refine ji4 ?_|refine ji5 ?_|refine ji6 ?_|refine j22 (fun id hid=>?_)|refine jclb (q_meet (St.set_same _ _ _) a) ?_|refine jlit ?_|refine jmk ?_|refine jap ?_)|(refine dl ?_;first|refine d7 ?_|refine d8 ?_|refine d10 ?_|refine d11 ?_|refine dtf ?_|refine dbd ?_|refine dbl ?_|refine d1 ?_|refine d2 ?_|refine d3 ?_|refine d3f ?_|refine d4 ?_|refine d9 ?_|refine d14 ?_|refine d14a ?_|refine d15 ?_|refine d16 ?_|refine d18 ?_|refine d19 ?_|refine d20 ?_|refine d21 ?_|refine d25 ?_|refine d17 ?_|refine deq ?_|refine deqq ?_|refine dne ?_|refine dneq ?_|refine dxe ?_|refine dxn ?_|refine dcb ?_|refine dcbq ?_|refine di1 ?_|refine di2 ?_|refine di3 ?_|refine di4 ?_|refine di6 ?_)|(refine al ?_;first|refine a7 ?_|refine a8 ?_|refine a10 ?_|refine a11 ?_|refine abd ?_|refine abl ?_|refine a1 ?_|refine a2 ?_|refine a3 ?_|refine a3f ?_|refine a9 ?_|refine a14 ?_|refine a15 ?_|refine a16 ?_|refine a18 ?_|refine a21 ?_|refine a25 ?_|refine ai1 ?_|refine ai2 ?_|refine ai3 ?_|refine ai4 ?_|refine ai6 ?_|refine alit ?_|refine da_skip ?_|refine da_nil ?_)|(refine bl ?_;first|refine bbd ?_|refine bbl ?_|refine b1 ?_|refine b14 ?_|refine b17t ?_|refine b17 ?_|refine b25 ?_|refine db_nil ?_)|refine al_cons (fun id hid=>?_)|refine al_nil ?_|(refine jc ?_;first|refine c1 ?_|refine c2 ?_|refine c3 ?_|refine c4 ?_|refine c5 ?_|refine c6 ?_|refine c7 ?_|refine c8 ?_|refine cqa ?_|refine cqk ?_|refine cq ?_)|refine n1 ?_|refine n2 ?_|refine n3 ?_|refine n4 ?_|refine n5 ?_|refine n6 ?_|refine n7 ?_|refine n8 ?_|refine n9 ?_|refine n10 ?_|refine n13 ?_|refine n11 ?_|refine n12 ?_|refine n14 ?_|refine n15 ?_|refine n16 ?_)|(refine c9 (fun h=>?_) (fun h=>?_)<;>((try simp only [Bool.or_eq_true, Bool.and_eq_true, Bool.or_eq_false_iff, Bool.and_eq_false_iff, Bool.not_eq_true', Bool.not_eq_false', decide_eq_true_eq, decide_eq_false_iff_not, Bool.false_eq_true, Bool.true_eq_false, reduceCtorEq] at h) <;> (try simp (disch := omega) only [sb_bt, w64, Int.reduceAdd, Int.reduceToNat, Int.toNat_natCast, not_true_eq_false, false_or] at h) <;> (try (exfalso; omega)))))
    · rw [if_pos h] at hs1 hs2
      rw [← hs1, ← hs2]
      exact ge rfl (by rw [St.set_set]; exact St.le_refl _)
    · have h' : ¬ hasS a ns = true := by rw [h]; decide
      rw [if_neg h'] at hs1 hs2
      exact nx_forS (i + 1, putS a ns) ⟨by dsimp only; omega, by dsimp only; rw [h2]; exact hs1, by dsimp only; rw [h2]; exact hs2⟩ (by dsimp only; omega) ⟨⟨_, rfl, wk1 (by omega)⟩, trivial⟩ (by rw [St.set_set]; exact St.le_refl _)
theorem q_contains_meet {τ : St} {id : Nat} (nl : Option Bool) (full : Bool) (l : List ByteArray) : ACalls Tryd.prog 59 [.sl nl full 1 (l.map str1), .bf 58 [.mp id]] (τ.set id (.map (setM []))) (fun e σ' => e = .ret (.v (.bool (dupS [] l))) ∧ σ' = τ.set id (.map (setM (metGo [] l)))) := by
  refine enterS Tryd.func59 rfl rfl rfl rfl ?_
  repeat (first|(refine jl ?_;first|refine j7 ?_|refine j8 ?_|refine j10 ?_|refine j11 ?_|refine jtf ?_|refine jb ?_|refine jbl ?_|refine j1 ?_|refine j2 ?_|refine j3 ?_|refine j3f ?_|refine j4 ?_|refine j5 ?_|refine j6 ?_|refine j9 ?_|refine j12 (fun id hid=>?_)|refine j13 (fun id hid=>?_)|refine j14 ?_|refine j15 ?_|refine j17t ?_|refine j17 ?_|refine j16 ?_|refine j18 ?_|refine j19 ?_|refine j20 ?_|refine j21 ?_|refine j23 ?_|refine j24 ?_|refine j25 ?_|refine j26 ?_|refine jeq ?_|refine jeqq ?_|refine jne ?_|refine jneq ?_|refine jxe ?_|refine jxn ?_|refine jcbq ?_|refine ji1 ?_|refine ji2 ?_|refine ji3 ?_|refine ji4 ?_|refine ji5 ?_|refine ji6 ?_|refine j22 (fun id hid=>?_)|refine lj_to rfl rfl rfl (q_index_meet _ _ _) ?_|refine jlit ?_|refine jmk ?_|refine jap ?_)|(refine dl ?_;first|refine d7 ?_|refine d8 ?_|refine d10 ?_|refine d11 ?_|refine dtf ?_|refine dbd ?_|refine dbl ?_|refine d1 ?_|refine d2 ?_|refine d3 ?_|refine d3f ?_|refine d4 ?_|refine d9 ?_|refine d14 ?_|refine d14a ?_|refine d15 ?_|refine d16 ?_|refine d18 ?_|refine d19 ?_|refine d20 ?_|refine d21 ?_|refine d25 ?_|refine d17 ?_|refine deq ?_|refine deqq ?_|refine dne ?_|refine dneq ?_|refine dxe ?_|refine dxn ?_|refine dcb ?_|refine dcbq ?_|refine di1 ?_|refine di2 ?_|refine di3 ?_|refine di4 ?_|refine di6 ?_)|(refine al ?_;first|refine a7 ?_|refine a8 ?_|refine a10 ?_|refine a11 ?_|refine abd ?_|refine abl ?_|refine a1 ?_|refine a2 ?_|refine a3 ?_|refine a3f ?_|refine a9 ?_|refine a14 ?_|refine a15 ?_|refine a16 ?_|refine a18 ?_|refine a21 ?_|refine a25 ?_|refine ai1 ?_|refine ai2 ?_|refine ai3 ?_|refine ai4 ?_|refine ai6 ?_|refine alit ?_|refine da_skip ?_|refine da_nil ?_)|(refine bl ?_;first|refine bbd ?_|refine bbl ?_|refine b1 ?_|refine b14 ?_|refine b17t ?_|refine b17 ?_|refine b25 ?_|refine db_nil ?_)|refine al_cons (fun id hid=>?_)|refine al_nil ?_|(refine jc ?_;first|refine c1 ?_|refine c2 ?_|refine c3 ?_|refine c4 ?_|refine c5 ?_|refine c6 ?_|refine c7 ?_|refine c8 ?_|refine cqa ?_|refine cqk ?_|refine cq ?_)|refine n1 ?_|refine n2 ?_|refine n3 ?_|refine n4 ?_|refine n5 ?_|refine n6 ?_|refine n7 ?_|refine n8 ?_|refine n9 ?_|refine n10 ?_|refine n13 ?_|refine n11 ?_|refine n12 ?_|refine n14 ?_|refine n15 ?_|refine n16 ?_)
  rw [← dup_iff l [] 0 (by omega)]
  exact ge rfl
theorem p_classes (nl : Option Bool) (full : Bool) (l : List Cls) : Pure Tryd.prog 23 [.sl nl full 2 (l.map cc)] (.v (.int .i64 (classesGo [] l))) := by
  refine enterW Tryd.func23 rfl rfl rfl rfl (fun σ => ?_)
  refine cj_len 0 (fun hm => ?_)
  have hn : (l.map cc).length = l.length := List.length_map ..
  repeat (first|(refine jl ?_;first|refine j7 ?_|refine j8 ?_|refine j10 ?_|refine j11 ?_|refine jtf ?_|refine jb ?_|refine jbl ?_|refine j1 ?_|refine j2 ?_|refine j3 ?_|refine j3f ?_|refine j4 ?_|refine j5 ?_|refine j6 ?_|refine j9 ?_|refine j12 (fun id hid=>?_)|refine j13 (fun id hid=>?_)|refine j14 ?_|refine j15 ?_|refine j17t ?_|refine j17 ?_|refine j16 ?_|refine j18 ?_|refine j19 ?_|refine j20 ?_|refine j21 ?_|refine j23 ?_|refine j24 ?_|refine j25 ?_|refine j26 ?_|refine jeq ?_|refine jeqq ?_|refine jne ?_|refine jneq ?_|refine jxe ?_|refine jxn ?_|refine jcbq ?_|refine ji1 ?_|refine ji2 ?_|refine ji3 ?_|refine ji4 ?_|refine ji5 ?_|refine ji6 ?_|refine j22 (fun id hid=>?_)|refine jmm (fun id hid => ?_)|refine jlit ?_|refine jmk ?_|refine jap ?_)|(refine dl ?_;first|refine d7 ?_|refine d8 ?_|refine d10 ?_|refine d11 ?_|refine dtf ?_|refine dbd ?_|refine dbl ?_|refine d1 ?_|refine d2 ?_|refine d3 ?_|refine d3f ?_|refine d4 ?_|refine d9 ?_|refine d14 ?_|refine d14a ?_|refine d15 ?_|refine d16 ?_|refine d18 ?_|refine d19 ?_|refine d20 ?_|refine d21 ?_|refine d25 ?_|refine d17 ?_|refine deq ?_|refine deqq ?_|refine dne ?_|refine dneq ?_|refine dxe ?_|refine dxn ?_|refine dcb ?_|refine dcbq ?_|refine di1 ?_|refine di2 ?_|refine di3 ?_|refine di4 ?_|refine di6 ?_)|(refine al ?_;first|refine a7 ?_|refine a8 ?_|refine a10 ?_|refine a11 ?_|refine abd ?_|refine abl ?_|refine a1 ?_|refine a2 ?_|refine a3 ?_|refine a3f ?_|refine a9 ?_|refine a14 ?_|refine a15 ?_|refine a16 ?_|refine a18 ?_|refine a21 ?_|refine a25 ?_|refine ai1 ?_|refine ai2 ?_|refine ai3 ?_|refine ai4 ?_|refine ai6 ?_|refine alit ?_|refine da_skip ?_|refine da_nil ?_)|(refine bl ?_;first|refine bbd ?_|refine bbl ?_|refine b1 ?_|refine b14 ?_|refine b17t ?_|refine b17 ?_|refine b25 ?_|refine db_nil ?_)|refine al_cons (fun id hid=>?_)|refine al_nil ?_|(refine jc ?_;first|refine c1 ?_|refine c2 ?_|refine c3 ?_|refine c4 ?_|refine c5 ?_|refine c6 ?_|refine c7 ?_|refine c8 ?_|refine cqa ?_|refine cqk ?_|refine cq ?_)|refine n1 ?_|refine n2 ?_|refine n3 ?_|refine n4 ?_|refine n5 ?_|refine n6 ?_|refine n7 ?_|refine n8 ?_|refine n9 ?_|refine n10 ?_|refine n13 ?_|refine n11 ?_|refine n12 ?_|refine n14 ?_|refine n15 ?_|refine n16 ?_)
  refine cj_for (fun s : Nat × List ByteArray => s.1 ≤ l.length ∧ classesGo s.2 (l.drop s.1) = classesGo [] l) (fun s => [(10, .v (.int .i64 s.1))]) (fun s => σ.set id (.map (setM s.2))) (fun s => l.length - s.1) (0, []) ⟨Nat.zero_le _, rfl⟩ ⟨⟨_, rfl, fun _ _ h => h⟩, trivial⟩ (St.le_refl _) (fun s hs => ?_)
  obtain ⟨i, ns⟩ := s
  obtain ⟨hs0, hs1⟩ := hs
  dsimp only at hs0 hs1 ⊢
  rcases hd : l.drop i with _ | ⟨c, r⟩
  · have h0 := dropn hd
    rw [hd, classesGo] at hs1
    repeat' (first|(first|(refine jl ?_;first|refine j7 ?_|refine j8 ?_|refine j10 ?_|refine j11 ?_|refine jtf ?_|refine jb ?_|refine jbl ?_|refine j1 ?_|refine j2 ?_|refine j3 ?_|refine j3f ?_|refine j4 ?_|refine j5 ?_|refine j6 ?_|refine j9 ?_|refine j12 (fun id hid=>?_)|refine j13 (fun id hid=>?_)|refine j14 ?_|refine j15 ?_|refine j17t ?_|refine j17 ?_|refine j16 ?_|refine j18 ?_|refine j19 ?_|refine j20 ?_|refine j21 ?_|refine j23 ?_|refine j24 ?_|refine j25 ?_|refine j26 ?_|refine jeq ?_|refine jeqq ?_|refine jne ?_|refine jneq ?_|refine jxe ?_|refine jxn ?_|refine jcbq ?_|refine ji1 ?_|refine ji2 ?_|refine ji3 ?_|refine ji4 ?_|refine ji5 ?_|refine ji6 ?_|refine j22 (fun id hid=>?_)|refine jlit ?_|refine jmk ?_|refine jap ?_)|(refine dl ?_;first|refine d7 ?_|refine d8 ?_|refine d10 ?_|refine d11 ?_|refine dtf ?_|refine dbd ?_|refine dbl ?_|refine d1 ?_|refine d2 ?_|refine d3 ?_|refine d3f ?_|refine d4 ?_|refine d9 ?_|refine d14 ?_|refine d14a ?_|refine d15 ?_|refine d16 ?_|refine d18 ?_|refine d19 ?_|refine d20 ?_|refine d21 ?_|refine d25 ?_|refine d17 ?_|refine deq ?_|refine deqq ?_|refine dne ?_|refine dneq ?_|refine dxe ?_|refine dxn ?_|refine dcb ?_|refine dcbq ?_|refine di1 ?_|refine di2 ?_|refine di3 ?_|refine di4 ?_|refine di6 ?_)|(refine al ?_;first|refine a7 ?_|refine a8 ?_|refine a10 ?_|refine a11 ?_|refine abd ?_|refine abl ?_|refine a1 ?_|refine a2 ?_|refine a3 ?_|refine a3f ?_|refine a9 ?_|refine a14 ?_|refine a15 ?_|refine a16 ?_|refine a18 ?_|refine a21 ?_|refine a25 ?_|refine ai1 ?_|refine ai2 ?_|refine ai3 ?_|refine ai4 ?_|refine ai6 ?_|refine alit ?_|refine da_skip ?_|refine da_nil ?_)|(refine bl ?_;first|refine bbd ?_|refine bbl ?_|refine b1 ?_|refine b14 ?_|refine b17t ?_|refine b17 ?_|refine b25 ?_|refine db_nil ?_)|refine al_cons (fun id hid=>?_)|refine al_nil ?_|(refine jc ?_;first|refine c1 ?_|refine c2 ?_|refine c3 ?_|refine c4 ?_|refine c5 ?_|refine c6 ?_|refine c7 ?_|refine c8 ?_|refine cqa ?_|refine cqk ?_|refine cq ?_)|refine n1 ?_|refine n2 ?_|refine n3 ?_|refine n4 ?_|refine n5 ?_|refine n6 ?_|refine n7 ?_|refine n8 ?_|refine n9 ?_|refine n10 ?_|refine n13 ?_|refine n11 ?_|refine n12 ?_|refine n14 ?_|refine n15 ?_|refine n16 ?_)|(refine c9 (fun h=>?_) (fun h=>?_)<;>((try simp only [Bool.or_eq_true, Bool.and_eq_true, Bool.or_eq_false_iff, Bool.and_eq_false_iff, Bool.not_eq_true', Bool.not_eq_false', decide_eq_true_eq, decide_eq_false_iff_not, Bool.false_eq_true, Bool.true_eq_false, reduceCtorEq] at h) <;> (try simp (disch := omega) only [sb_bt, w64, Int.reduceAdd, Int.reduceToNat, Int.toNat_natCast, not_true_eq_false, false_or] at h) <;> (try (exfalso; omega)))))
    rw [← hs1]
    first | exact ge rfl | exact gvs (by (repeat' (first | exact finl_nil | apply finl_cons | exact Fin.refl _ _ _ | apply fin_pk2 | apply fin_pk3 | apply fin_agg | apply fin_tup | exact fin_nil | exact fin_sl rfl | exact fin_fz (by exact lkp) (by first | assumption | exact St.ns1 (by assumption) | exact St.ns2 (by assumption) | exact St.ns3 (by assumption) | exact St.ns4 (by assumption) | exact St.ns5 (by assumption) | exact St.ns6 (by assumption) | exact St.ns7 (by assumption) | exact St.ns8 (by assumption) | exact St.ns9 (by assumption) | exact St.ns10 (by assumption) | exact St.ns11 (by assumption) | exact St.ns12 (by assumption) | exact St.ns13 (by assumption) | exact St.ns14 (by assumption) | exact St.ns10 (by assumption) | exact St.ns11 (by assumption) | exact St.ns12 (by assumption) | exact St.ns13 (by assumption) | exact St.ns14 (by assumption)) (by first | exact rfl | assumption | (simp only [List.length_map, List.length_append, List.length_cons, List.length_nil]; done) | (simp only [List.length_map, List.length_append, List.length_cons, List.length_nil]; omega)) rfl (fun _ => rfl) | exact fin_eq rfl)))
  · obtain ⟨h1, h2, h3⟩ := dropc hd
    have h4 := get_map cc h3
    rw [hd, classesGo] at hs1
    repeat' (first|(first|(refine jl ?_;first|refine j7 ?_|refine j8 ?_|refine j10 ?_|refine j11 ?_|refine jtf ?_|refine jb ?_|refine jbl ?_|refine j1 ?_|refine j2 ?_|refine j3 ?_|refine j3f ?_|refine j4 ?_|refine j5 ?_|refine j6 ?_|refine j9 ?_|refine j12 (fun id hid=>?_)|refine j13 (fun id hid=>?_)|refine j14 ?_|refine j15 ?_|refine j17t ?_|refine j17 ?_|refine j16 ?_|refine j18 ?_|refine j19 ?_|refine j20 ?_|refine j21 ?_|refine j23 ?_|refine j24 ?_|refine j25 ?_|refine j26 ?_|refine jeq ?_|refine jeqq ?_|refine jne ?_|refine jneq ?_|refine jxe ?_|refine jxn ?_|refine jcbq ?_|refine ji1 ?_|refine ji2 ?_|refine ji3 ?_|refine ji4 ?_|refine ji5 ?_|refine ji6 ?_|refine j22 (fun id hid=>?_)|refine lj_to rfl rfl rfl (q_meet (by exact lkp) _) ?_|refine jmm (fun id2 hid2 => ?_)|refine jbfn ?_|refine lj_to rfl rfl rfl (q_contains_meet _ _ c.attrs) ?_|refine jlit ?_|refine jmk ?_|refine jap ?_)|(refine dl ?_;first|refine d7 ?_|refine d8 ?_|refine d10 ?_|refine d11 ?_|refine dtf ?_|refine dbd ?_|refine dbl ?_|refine d1 ?_|refine d2 ?_|refine d3 ?_|refine d3f ?_|refine d4 ?_|refine d9 ?_|refine d14 ?_|refine d14a ?_|refine d15 ?_|refine d16 ?_|refine d18 ?_|refine d19 ?_|refine d20 ?_|refine d21 ?_|refine d25 ?_|refine d17 ?_|refine deq ?_|refine deqq ?_|refine dne ?_|refine dneq ?_|refine dxe ?_|refine dxn ?_|refine dcb ?_|refine dcbq ?_|refine di1 ?_|refine di2 ?_|refine di3 ?_|refine di4 ?_|refine di6 ?_)|(refine al ?_;first|refine a7 ?_|refine a8 ?_|refine a10 ?_|refine a11 ?_|refine abd ?_|refine abl ?_|refine a1 ?_|refine a2 ?_|refine a3 ?_|refine a3f ?_|refine a9 ?_|refine a14 ?_|refine a15 ?_|refine a16 ?_|refine a18 ?_|refine a21 ?_|refine a25 ?_|refine ai1 ?_|refine ai2 ?_|refine ai3 ?_|refine ai4 ?_|refine ai6 ?_|refine alit ?_|refine da_skip ?_|refine da_nil ?_)|(refine bl ?_;first|refine bbd ?_|refine bbl ?_|refine b1 ?_|refine b14 ?_|refine b17t ?_|refine b17 ?_|refine b25 ?_|refine db_nil ?_)|refine al_cons (fun id hid=>?_)|refine al_nil ?_|(refine jc ?_;first|refine c1 ?_|refine c2 ?_|refine c3 ?_|refine c4 ?_|refine c5 ?_|refine c6 ?_|refine c7 ?_|refine c8 ?_|refine cqa ?_|refine cqk ?_|refine cq ?_)|refine n1 ?_|refine n2 ?_|refine n3 ?_|refine n4 ?_|refine n5 ?_|refine n6 ?_|refine n7 ?_|refine n8 ?_|refine n9 ?_|refine n10 ?_|refine n13 ?_|refine n11 ?_|refine n12 ?_|refine n14 ?_|refine n15 ?_|refine n16 ?_)|(refine c9 (fun h=>?_) (fun h=>?_)<;>((try simp only [Bool.or_eq_true, Bool.and_eq_true, Bool.or_eq_false_iff, Bool.and_eq_false_iff, Bool.not_eq_true', Bool.not_eq_false', decide_eq_true_eq, decide_eq_false_iff_not, Bool.false_eq_true, Bool.true_eq_false, reduceCtorEq] at h) <;> (try simp (disch := omega) only [sb_bt, w64, Int.reduceAdd, Int.reduceToNat, Int.toNat_natCast, not_true_eq_false, false_or] at h) <;> (try (exfalso; omega)))))
    · rw [if_pos h] at hs1
      rw [← hs1]
      first | exact ge rfl | exact gvs (by (repeat' (first | exact finl_nil | apply finl_cons | exact Fin.refl _ _ _ | apply fin_pk2 | apply fin_pk3 | apply fin_agg | apply fin_tup | exact fin_nil | exact fin_sl rfl | exact fin_fz (by exact lkp) (by first | assumption | exact St.ns1 (by assumption) | exact St.ns2 (by assumption) | exact St.ns3 (by assumption) | exact St.ns4 (by assumption) | exact St.ns5 (by assumption) | exact St.ns6 (by assumption) | exact St.ns7 (by assumption) | exact St.ns8 (by assumption) | exact St.ns9 (by assumption) | exact St.ns10 (by assumption) | exact St.ns11 (by assumption) | exact St.ns12 (by assumption) | exact St.ns13 (by assumption) | exact St.ns14 (by assumption) | exact St.ns10 (by assumption) | exact St.ns11 (by assumption) | exact St.ns12 (by assumption) | exact St.ns13 (by assumption) | exact St.ns14 (by assumption)) (by first | exact rfl | assumption | (simp only [List.length_map, List.length_append, List.length_cons, List.length_nil]; done) | (simp only [List.length_map, List.length_append, List.length_cons, List.length_nil]; omega)) rfl (fun _ => rfl) | exact fin_eq rfl)))
    · have hh : hasS c.name ns = false := by assumption
      rw [if_neg (by rw [hh]; decide), if_pos h] at hs1
      rw [← hs1]
      first | exact ge rfl | exact gvs (by (repeat' (first | exact finl_nil | apply finl_cons | exact Fin.refl _ _ _ | apply fin_pk2 | apply fin_pk3 | apply fin_agg | apply fin_tup | exact fin_nil | exact fin_sl rfl | exact fin_fz (by exact lkp) (by first | assumption | exact St.ns1 (by assumption) | exact St.ns2 (by assumption) | exact St.ns3 (by assumption) | exact St.ns4 (by assumption) | exact St.ns5 (by assumption) | exact St.ns6 (by assumption) | exact St.ns7 (by assumption) | exact St.ns8 (by assumption) | exact St.ns9 (by assumption) | exact St.ns10 (by assumption) | exact St.ns11 (by assumption) | exact St.ns12 (by assumption) | exact St.ns13 (by assumption) | exact St.ns14 (by assumption) | exact St.ns10 (by assumption) | exact St.ns11 (by assumption) | exact St.ns12 (by assumption) | exact St.ns13 (by assumption) | exact St.ns14 (by assumption)) (by first | exact rfl | assumption | (simp only [List.length_map, List.length_append, List.length_cons, List.length_nil]; done) | (simp only [List.length_map, List.length_append, List.length_cons, List.length_nil]; omega)) rfl (fun _ => rfl) | exact fin_eq rfl)))
    · have hh : hasS c.name ns = false := by assumption
      rw [if_neg (by rw [hh]; decide), if_neg (by rw [h]; decide)] at hs1
      exact nx_forS (i + 1, putS c.name ns) ⟨by dsimp only; omega, by dsimp only; rw [h2]; exact hs1⟩ (by dsimp only; omega) ⟨⟨_, rfl, wk1 (by omega)⟩, trivial⟩ (St.le_setk (by repeat' (first | exact St.le_refl _ | refine St.le_any ?_)) lkp)
end Go.Proofs.YtcpokdjppedaoaaDoor.Ab

/- What a changed fact has: the plain law. -/
set_option linter.unusedVariables false
set_option linter.unusedSimpArgs false
set_option maxRecDepth 20000
namespace Go.Proofs.YtcpokdjppedaoaaDoor.Ab
open Go

theorem attr_get {nm : ByteArray} {ns : List ByteArray} (h : attrB nm ns = true) : ns[(attrN nm ns).toNat]? = some nm := by
  have h0 := h
  unfold attrB at h
  rw [decide_eq_true_eq] at h
  unfold attrN
  rw [if_neg (by omega)]
  obtain ⟨j, x, h1, h2, h3⟩ := idxG_get (isS nm) ns 0 h
  unfold attrI
  rw [h1]
  have hx : x = nm := by
    have h4 : isS nm x = true := by first | exact h3 | exact h3.1
    simpa [isS] using h4
  subst hx
  simpa using h2
theorem attr_inj {a b : ByteArray} {ns : List ByteArray} (ha : attrB a ns = true) (hb : attrB b ns = true) (h : (attrN a ns).toNat = (attrN b ns).toNat) : a = b := by
  have h1 := attr_get ha
  have h2 := attr_get hb
  rw [h, h2] at h1
  cases h1; rfl
theorem withGo_spec {ns : List ByteArray} : ∀ (s d : List Bd) (vs : List Vl), (withGo ns d s vs).1 = 0 → ns.length = vs.length →
    (∀ b ∈ s, attrB b.name ns = true ∧ valE b.val = 0 ∧ d.any (isB b.name) = false) ∧ (∀ k : Nat, (∀ b ∈ s, (attrN b.name ns).toNat ≠ k) → (withGo ns d s vs).2[k]? = vs[k]?) ∧ (∀ b ∈ s, (withGo ns d s vs).2[(attrN b.name ns).toNat]? = some b.val)
  | [], d, vs, _, _ => ⟨fun b h => (by cases h), fun k _ => rfl, fun b h => (by cases h)⟩
  | b :: r, d, vs, h, hl => by
    unfold withGo at h ⊢
    by_cases ha : attrB b.name ns = false
    · rw [if_pos ha] at h; cases h
    · rw [if_neg ha] at h ⊢
      rw [Bool.not_eq_false] at ha
      by_cases hd : d.any (isB b.name) = true
      · rw [if_pos hd] at h; cases h
      · rw [if_neg hd] at h ⊢
        rw [Bool.not_eq_true] at hd
        by_cases hv : valE b.val = 0
        · rw [if_pos hv] at h ⊢
          obtain ⟨h1, h2, h3⟩ := withGo_spec r (d ++ [b]) (vs.set (attrN b.name ns).toNat b.val) h (by rw [List.length_set]; exact hl)
          have hne : ∀ b' ∈ r, (attrN b'.name ns).toNat ≠ (attrN b.name ns).toNat := fun b' hb' e => by
            obtain ⟨g1, _, g3⟩ := h1 b' hb'
            have := attr_inj g1 ha e
            rw [List.any_append, Bool.or_eq_false_iff] at g3
            have g4 := g3.2
            simp [isB, this] at g4
          have hlt : (attrN b.name ns).toNat < vs.length := by
            rw [← hl]
            exact (List.getElem?_eq_some_iff.1 (attr_get ha)).1
          refine ⟨fun b' hb' => ?_, fun k hk => ?_, fun b' hb' => ?_⟩
          · rcases List.mem_cons.1 hb' with rfl | hb'
            · exact ⟨ha, hv, hd⟩
            · obtain ⟨g1, g2, g3⟩ := h1 b' hb'
              rw [List.any_append, Bool.or_eq_false_iff] at g3
              exact ⟨g1, g2, g3.1⟩
          · rw [h2 k fun b' hb' => hk b' (.tail _ hb'), List.getElem?_set_ne (hk b (.head _))]
          · rcases List.mem_cons.1 hb' with rfl | hb'
            · rw [h2 _ hne, List.getElem?_set_self hlt]
            · exact h3 b' hb'
        · rw [if_neg hv] at h; exact absurd h hv
/-- All that a fact that was changed has. -/
theorem with_spec {l : List Cls} {f : Fc} {n : Int} {sets : List Bd} (h : (withR l f n sets).1 = 0) : checkF l f = 0 ∧ checkF l (withF l f n sets) = 0 ∧ (withF l f n sets).tag = n ∧ (withF l f n sets).cls = f.cls ∧
    (∀ nm, getB l (withF l f n sets) nm = getB l f nm) ∧ (∀ nm, ∀ b ∈ sets, b.name = nm → getV l (withF l f n sets) nm = b.val ∧ getB l (withF l f n sets) nm = true) ∧ (∀ nm, sets.any (isB nm) = false → getV l (withF l f n sets) nm = getV l f nm) := by
  have hlen := withR_len h
  have hF : withF l f n sets = ⟨n, f.cls, (withR l f n sets).2⟩ := by unfold withF; rw [if_pos h]
  have hc0 : checkF l f = 0 := by
    unfold withR at h
    by_cases hc : checkF l f = 0
    · exact hc
    · rw [if_pos hc] at h; exact absurd h hc
  have htn : tagB n = true := by
    unfold withR at h
    rw [if_neg (fun e => e hc0)] at h
    cases ht : tagB n with
    | true => rfl
    | false => rw [if_pos ht] at h; cases h
  obtain ⟨_, c, hc1, hc2, hc3, hc4⟩ := checkF_zero hc0
  have hR : withR l f n sets = withGo c.attrs [] sets f.vals := by
    unfold withR
    rw [if_neg (fun e => e hc0), if_neg (by rw [htn]; decide), hc2]
  rw [hR] at h hF hlen
  obtain ⟨s1, s2, s3⟩ := withGo_spec sets [] f.vals h hc3.symm
  generalize (withGo c.attrs [] sets f.vals).2 = us at *
  have hall : ∀ v ∈ us, valE v = 0 := fun v hv => by
    obtain ⟨k, hk⟩ := List.mem_iff_getElem?.1 hv
    by_cases hex : ∃ b ∈ sets, (attrN b.name c.attrs).toNat = k
    · obtain ⟨b, hb, rfl⟩ := hex
      rw [s3 b hb] at hk
      cases hk
      exact (s1 b hb).2.1
    · rw [s2 k fun b hb e => hex ⟨b, hb, e⟩] at hk
      exact hc4 v (List.mem_of_getElem? hk)
  have hcg : checkF l (withF l f n sets) = 0 := by
    rw [hF]
    unfold checkF
    dsimp only
    rw [if_neg (by rw [htn]; decide), hc1]
    dsimp only
    rw [if_neg (by omega)]
    exact firstE_of hall
  have hog : ofC l (withF l f n sets) = c := by
    rw [hF]
    unfold ofC
    dsimp only
    rw [if_neg (by rw [htn]; decide), hc1]; rfl
  have hvg : (withF l f n sets).vals = us := by rw [hF]
  refine ⟨hc0, hcg, by rw [hF], by rw [hF], fun nm => ?_, fun nm b hb hnm => ?_, fun nm hany => ?_⟩
  · unfold getB
    rw [if_pos hc0, if_pos hcg, hog, hc2]
  · subst hnm
    have ha := (s1 b hb).1
    unfold getV getB
    rw [if_pos hcg, if_pos hcg, hog, if_pos ha, hvg, s3 b hb]
    exact ⟨rfl, ha⟩
  · unfold getV
    rw [if_pos hcg, if_pos hc0, hog, hc2, hvg]
    by_cases ha : attrB nm c.attrs = true
    · rw [if_pos ha, if_pos ha, s2 _ fun b hb e => ?_]
      have := attr_inj (s1 b hb).1 ha e
      rw [List.any_eq_false] at hany
      exact hany b hb (by simp [isB, this])
    · rw [if_neg ha, if_neg ha]
end Go.Proofs.YtcpokdjppedaoaaDoor.Ab

/- Laws of classes: what is set is got. -/
set_option linter.unusedVariables false
set_option linter.unusedSimpArgs false
set_option maxRecDepth 20000
namespace Go.Proofs.YtcpokdjppedaoaaDoor.Ab
open Go
attribute [local irreducible] thn inb endR CJ LJ OpJ DJ DA DB AllocK

set_option maxHeartbeats 2000000 in
theorem l_classSets (l : List Cls) (f : Fc) (n : Int) (sets : List Bd) (nm : ByteArray) : Pure Tryd.prog 5 [.sl none false 2 (l.map cc), .agg (fc f), .agg [.v (.int .i64 n), .sl none false 4 (sets.map bc), .v (.string nm)]] (.v (.bool true)) := by
  refine enterW Tryd.func5 rfl rfl rfl rfl (fun σ => ?_)
  obtain ⟨ft, fn, vs⟩ := f
  have hsl : (sets.map bc).length = sets.length := List.length_map ..
  have k1 := p_light none none false false l ⟨ft, fn, vs⟩ sets
  repeat' (first|(first|(refine jl ?_;first|refine j7 ?_|refine j8 ?_|refine j10 ?_|refine j11 ?_|refine jtf ?_|refine jb ?_|refine jbl ?_|refine j1 ?_|refine j2 ?_|refine j3 ?_|refine j3f ?_|refine j4 ?_|refine j5 ?_|refine j6 ?_|refine j9 ?_|refine j12 (fun id hid=>?_)|refine j13 (fun id hid=>?_)|refine j14 ?_|refine j15 ?_|refine j17t ?_|refine j17 ?_|refine j16 ?_|refine j18 ?_|refine j19 ?_|refine j20 ?_|refine j21 ?_|refine j23 ?_|refine j24 ?_|refine j25 ?_|refine j26 ?_|refine jeq ?_|refine jeqq ?_|refine jne ?_|refine jneq ?_|refine jxe ?_|refine jxn ?_|refine jcbq ?_|refine ji1 ?_|refine ji2 ?_|refine ji3 ?_|refine ji4 ?_|refine ji5 ?_|refine ji6 ?_|refine j22 (fun id hid=>?_)|refine jp (k1) ?_|refine jpy (k1) ?_|refine jcq (hp:=fun hc=>k1) ?_|refine jp (p_awakec) ?_|refine jpy (p_awakec) ?_|refine jcq (hp:=fun hc=>p_awakec) ?_|refine jlit ?_|refine jmk ?_|refine jap ?_)|(refine dl ?_;first|refine d7 ?_|refine d8 ?_|refine d10 ?_|refine d11 ?_|refine dtf ?_|refine dbd ?_|refine dbl ?_|refine d1 ?_|refine d2 ?_|refine d3 ?_|refine d3f ?_|refine d4 ?_|refine d9 ?_|refine d14 ?_|refine d14a ?_|refine d15 ?_|refine d16 ?_|refine d18 ?_|refine d19 ?_|refine d20 ?_|refine d21 ?_|refine d25 ?_|refine d17 ?_|refine deq ?_|refine deqq ?_|refine dne ?_|refine dneq ?_|refine dxe ?_|refine dxn ?_|refine dcb ?_|refine dcbq ?_|refine di1 ?_|refine di2 ?_|refine di3 ?_|refine di4 ?_|refine di6 ?_|refine dp (k1) ?_|refine dpy (k1) ?_|refine dpq (hp:=fun hc=>k1) ?_|refine dp (p_awakec) ?_|refine dpy (p_awakec) ?_|refine dpq (hp:=fun hc=>p_awakec) ?_)|(refine al ?_;first|refine a7 ?_|refine a8 ?_|refine a10 ?_|refine a11 ?_|refine abd ?_|refine abl ?_|refine a1 ?_|refine a2 ?_|refine a3 ?_|refine a3f ?_|refine a9 ?_|refine a14 ?_|refine a15 ?_|refine a16 ?_|refine a18 ?_|refine a21 ?_|refine a25 ?_|refine ai1 ?_|refine ai2 ?_|refine ai3 ?_|refine ai4 ?_|refine ai6 ?_|refine alit ?_|refine ap (k1) ?_|refine apy (k1) ?_|refine ap (p_awakec) ?_|refine apy (p_awakec) ?_|refine da_skip ?_|refine da_nil ?_)|(refine bl ?_;first|refine bbd ?_|refine bbl ?_|refine b1 ?_|refine b14 ?_|refine b17t ?_|refine b17 ?_|refine b25 ?_|refine db_nil ?_)|refine al_cons (fun id hid=>?_)|refine al_nil ?_|(refine jc ?_;first|refine c1 ?_|refine c2 ?_|refine c3 ?_|refine c4 ?_|refine c5 ?_|refine c6 ?_|refine c7 ?_|refine c8 ?_|refine cqa ?_|refine cqk ?_|refine cq ?_)|refine n1 ?_|refine n2 ?_|refine n3 ?_|refine n4 ?_|refine n5 ?_|refine n6 ?_|refine n7 ?_|refine n8 ?_|refine n9 ?_|refine n10 ?_|refine n13 ?_|refine n11 ?_|refine n12 ?_|refine n14 ?_|refine n15 ?_|refine n16 ?_)|(refine c9 (fun h=>?_) (fun h=>?_)<;>(try simp only [Bool.or_eq_true, Bool.and_eq_true, Bool.or_eq_false_iff, Bool.and_eq_false_iff, Bool.not_eq_true', Bool.not_eq_false', decide_eq_true_eq, decide_eq_false_iff_not, Bool.false_eq_true, Bool.true_eq_false, reduceCtorEq] at h)))
  · first | exact ge rfl | exact gvs (by (repeat' (first | exact finl_nil | apply finl_cons | exact Fin.refl _ _ _ | apply fin_pk2 | apply fin_pk3 | apply fin_agg | apply fin_tup | exact fin_nil | exact fin_sl rfl | exact fin_fz (by exact lkp) (by first | assumption | exact St.ns1 (by assumption) | exact St.ns2 (by assumption) | exact St.ns3 (by assumption) | exact St.ns4 (by assumption) | exact St.ns5 (by assumption) | exact St.ns6 (by assumption) | exact St.ns7 (by assumption) | exact St.ns8 (by assumption) | exact St.ns9 (by assumption) | exact St.ns10 (by assumption) | exact St.ns11 (by assumption) | exact St.ns12 (by assumption) | exact St.ns13 (by assumption) | exact St.ns14 (by assumption) | exact St.ns10 (by assumption) | exact St.ns11 (by assumption) | exact St.ns12 (by assumption) | exact St.ns13 (by assumption) | exact St.ns14 (by assumption)) (by first | exact rfl | assumption | (simp only [List.length_map, List.length_append, List.length_cons, List.length_nil]; done) | (simp only [List.length_map, List.length_append, List.length_cons, List.length_nil]; omega)) rfl (fun _ => rfl) | exact fin_eq rfl)))
  · obtain ⟨hlt, hnm⟩ := h
    obtain ⟨⟨_, a2, a3, a4⟩, a5, a6, a7, _, a8⟩ := lightP_of (lightB_iff hlt)
    dsimp only at a2 a3 a7
    have k2 := p_withA none none false false l ⟨ft, fn, vs⟩ n sets (by show vs.length ≤ _; omega)
    have k3 := p_classes none false l
    repeat' (first|(first|(refine jl ?_;first|refine j7 ?_|refine j8 ?_|refine j10 ?_|refine j11 ?_|refine jtf ?_|refine jb ?_|refine jbl ?_|refine j1 ?_|refine j2 ?_|refine j3 ?_|refine j3f ?_|refine j4 ?_|refine j5 ?_|refine j6 ?_|refine j9 ?_|refine j12 (fun id hid=>?_)|refine j13 (fun id hid=>?_)|refine j14 ?_|refine j15 ?_|refine j17t ?_|refine j17 ?_|refine j16 ?_|refine j18 ?_|refine j19 ?_|refine j20 ?_|refine j21 ?_|refine j23 ?_|refine j24 ?_|refine j25 ?_|refine j26 ?_|refine jeq ?_|refine jeqq ?_|refine jne ?_|refine jneq ?_|refine jxe ?_|refine jxn ?_|refine jcbq ?_|refine ji1 ?_|refine ji2 ?_|refine ji3 ?_|refine ji4 ?_|refine ji5 ?_|refine ji6 ?_|refine j22 (fun id hid=>?_)|refine jp (k2) ?_|refine jpy (k2) ?_|refine jcq (hp:=fun hc=>k2) ?_|refine jp (k3) ?_|refine jpy (k3) ?_|refine jcq (hp:=fun hc=>k3) ?_|refine jp (p_awakec) ?_|refine jpy (p_awakec) ?_|refine jcq (hp:=fun hc=>p_awakec) ?_|refine jlit ?_|refine jmk ?_|refine jap ?_)|(refine dl ?_;first|refine d7 ?_|refine d8 ?_|refine d10 ?_|refine d11 ?_|refine dtf ?_|refine dbd ?_|refine dbl ?_|refine d1 ?_|refine d2 ?_|refine d3 ?_|refine d3f ?_|refine d4 ?_|refine d9 ?_|refine d14 ?_|refine d14a ?_|refine d15 ?_|refine d16 ?_|refine d18 ?_|refine d19 ?_|refine d20 ?_|refine d21 ?_|refine d25 ?_|refine d17 ?_|refine deq ?_|refine deqq ?_|refine dne ?_|refine dneq ?_|refine dxe ?_|refine dxn ?_|refine dcb ?_|refine dcbq ?_|refine di1 ?_|refine di2 ?_|refine di3 ?_|refine di4 ?_|refine di6 ?_|refine dp (k2) ?_|refine dpy (k2) ?_|refine dpq (hp:=fun hc=>k2) ?_|refine dp (k3) ?_|refine dpy (k3) ?_|refine dpq (hp:=fun hc=>k3) ?_|refine dp (p_awakec) ?_|refine dpy (p_awakec) ?_|refine dpq (hp:=fun hc=>p_awakec) ?_)|(refine al ?_;first|refine a7 ?_|refine a8 ?_|refine a10 ?_|refine a11 ?_|refine abd ?_|refine abl ?_|refine a1 ?_|refine a2 ?_|refine a3 ?_|refine a3f ?_|refine a9 ?_|refine a14 ?_|refine a15 ?_|refine a16 ?_|refine a18 ?_|refine a21 ?_|refine a25 ?_|refine ai1 ?_|refine ai2 ?_|refine ai3 ?_|refine ai4 ?_|refine ai6 ?_|refine alit ?_|refine ap (k2) ?_|refine apy (k2) ?_|refine ap (k3) ?_|refine apy (k3) ?_|refine ap (p_awakec) ?_|refine apy (p_awakec) ?_|refine da_skip ?_|refine da_nil ?_)|(refine bl ?_;first|refine bbd ?_|refine bbl ?_|refine b1 ?_|refine b14 ?_|refine b17t ?_|refine b17 ?_|refine b25 ?_|refine db_nil ?_)|refine al_cons (fun id hid=>?_)|refine al_nil ?_|(refine jc ?_;first|refine c1 ?_|refine c2 ?_|refine c3 ?_|refine c4 ?_|refine c5 ?_|refine c6 ?_|refine c7 ?_|refine c8 ?_|refine cqa ?_|refine cqk ?_|refine cq ?_)|refine n1 ?_|refine n2 ?_|refine n3 ?_|refine n4 ?_|refine n5 ?_|refine n6 ?_|refine n7 ?_|refine n8 ?_|refine n9 ?_|refine n10 ?_|refine n13 ?_|refine n11 ?_|refine n12 ?_|refine n14 ?_|refine n15 ?_|refine n16 ?_)|(refine c9 (fun h=>?_) (fun h=>?_)<;>(try simp only [Bool.or_eq_true, Bool.and_eq_true, Bool.or_eq_false_iff, Bool.and_eq_false_iff, Bool.not_eq_true', Bool.not_eq_false', decide_eq_true_eq, decide_eq_false_iff_not, Bool.false_eq_true, Bool.true_eq_false, reduceCtorEq] at h)))
    · first | exact ge rfl | exact gvs (by (repeat' (first | exact finl_nil | apply finl_cons | exact Fin.refl _ _ _ | apply fin_pk2 | apply fin_pk3 | apply fin_agg | apply fin_tup | exact fin_nil | exact fin_sl rfl | exact fin_fz (by exact lkp) (by first | assumption | exact St.ns1 (by assumption) | exact St.ns2 (by assumption) | exact St.ns3 (by assumption) | exact St.ns4 (by assumption) | exact St.ns5 (by assumption) | exact St.ns6 (by assumption) | exact St.ns7 (by assumption) | exact St.ns8 (by assumption) | exact St.ns9 (by assumption) | exact St.ns10 (by assumption) | exact St.ns11 (by assumption) | exact St.ns12 (by assumption) | exact St.ns13 (by assumption) | exact St.ns14 (by assumption) | exact St.ns10 (by assumption) | exact St.ns11 (by assumption) | exact St.ns12 (by assumption) | exact St.ns13 (by assumption) | exact St.ns14 (by assumption)) (by first | exact rfl | assumption | (simp only [List.length_map, List.length_append, List.length_cons, List.length_nil]; done) | (simp only [List.length_map, List.length_append, List.length_cons, List.length_nil]; omega)) rfl (fun _ => rfl) | exact fin_eq rfl)))
    · have hw : (withR l ⟨ft, fn, vs⟩ n sets).1 = 0 := h.1
      obtain ⟨s0, s1, s2, s3, s4, s5, s6⟩ := with_spec hw
      have k4 := p_ccheck none false l (withF l ⟨ft, fn, vs⟩ n sets)
      rw [s1] at k4
      have k5 := p_get none false l ⟨ft, fn, vs⟩ nm
      have k6 := p_get none false l (withF l ⟨ft, fn, vs⟩ n sets) nm
      have s4' := s4 nm
      have s5' := s5 nm
      have s6' := s6 nm
      generalize getV l (withF l ⟨ft, fn, vs⟩ n sets) nm = nowV at *
      generalize getB l (withF l ⟨ft, fn, vs⟩ n sets) nm = nowB at *
      generalize getV l ⟨ft, fn, vs⟩ nm = wasV at *
      generalize getB l ⟨ft, fn, vs⟩ nm = wasB at *
      generalize withF l ⟨ft, fn, vs⟩ n sets = g at *
      obtain ⟨gt, gn, gs⟩ := g
      dsimp only at s2 s3
      subst s2; subst s3
      repeat' (first|(first|(refine jl ?_;first|refine j7 ?_|refine j8 ?_|refine j10 ?_|refine j11 ?_|refine jtf ?_|refine jb ?_|refine jbl ?_|refine j1 ?_|refine j2 ?_|refine j3 ?_|refine j3f ?_|refine j4 ?_|refine j5 ?_|refine j6 ?_|refine j9 ?_|refine j12 (fun id hid=>?_)|refine j13 (fun id hid=>?_)|refine j14 ?_|refine j15 ?_|refine j17t ?_|refine j17 ?_|refine j16 ?_|refine j18 ?_|refine j19 ?_|refine j20 ?_|refine j21 ?_|refine j23 ?_|refine j24 ?_|refine j25 ?_|refine j26 ?_|refine jeq ?_|refine jeqq ?_|refine jne ?_|refine jneq ?_|refine jxe ?_|refine jxn ?_|refine jcbq ?_|refine ji1 ?_|refine ji2 ?_|refine ji3 ?_|refine ji4 ?_|refine ji5 ?_|refine ji6 ?_|refine j22 (fun id hid=>?_)|refine jp (k4) ?_|refine jpy (k4) ?_|refine jcq (hp:=fun hc=>k4) ?_|refine jp (k5) ?_|refine jpy (k5) ?_|refine jcq (hp:=fun hc=>k5) ?_|refine jp (k6) ?_|refine jpy (k6) ?_|refine jcq (hp:=fun hc=>k6) ?_|refine jlit ?_|refine jmk ?_|refine jap ?_)|(refine dl ?_;first|refine d7 ?_|refine d8 ?_|refine d10 ?_|refine d11 ?_|refine dtf ?_|refine dbd ?_|refine dbl ?_|refine d1 ?_|refine d2 ?_|refine d3 ?_|refine d3f ?_|refine d4 ?_|refine d9 ?_|refine d14 ?_|refine d14a ?_|refine d15 ?_|refine d16 ?_|refine d18 ?_|refine d19 ?_|refine d20 ?_|refine d21 ?_|refine d25 ?_|refine d17 ?_|refine deq ?_|refine deqq ?_|refine dne ?_|refine dneq ?_|refine dxe ?_|refine dxn ?_|refine dcb ?_|refine dcbq ?_|refine di1 ?_|refine di2 ?_|refine di3 ?_|refine di4 ?_|refine di6 ?_|refine dp (k4) ?_|refine dpy (k4) ?_|refine dpq (hp:=fun hc=>k4) ?_|refine dp (k5) ?_|refine dpy (k5) ?_|refine dpq (hp:=fun hc=>k5) ?_|refine dp (k6) ?_|refine dpy (k6) ?_|refine dpq (hp:=fun hc=>k6) ?_)|(refine al ?_;first|refine a7 ?_|refine a8 ?_|refine a10 ?_|refine a11 ?_|refine abd ?_|refine abl ?_|refine a1 ?_|refine a2 ?_|refine a3 ?_|refine a3f ?_|refine a9 ?_|refine a14 ?_|refine a15 ?_|refine a16 ?_|refine a18 ?_|refine a21 ?_|refine a25 ?_|refine ai1 ?_|refine ai2 ?_|refine ai3 ?_|refine ai4 ?_|refine ai6 ?_|refine alit ?_|refine ap (k4) ?_|refine apy (k4) ?_|refine ap (k5) ?_|refine apy (k5) ?_|refine ap (k6) ?_|refine apy (k6) ?_|refine da_skip ?_|refine da_nil ?_)|(refine bl ?_;first|refine bbd ?_|refine bbl ?_|refine b1 ?_|refine b14 ?_|refine b17t ?_|refine b17 ?_|refine b25 ?_|refine db_nil ?_)|refine al_cons (fun id hid=>?_)|refine al_nil ?_|(refine jc ?_;first|refine c1 ?_|refine c2 ?_|refine c3 ?_|refine c4 ?_|refine c5 ?_|refine c6 ?_|refine c7 ?_|refine c8 ?_|refine cqa ?_|refine cqk ?_|refine cq ?_)|refine n1 ?_|refine n2 ?_|refine n3 ?_|refine n4 ?_|refine n5 ?_|refine n6 ?_|refine n7 ?_|refine n8 ?_|refine n9 ?_|refine n10 ?_|refine n13 ?_|refine n11 ?_|refine n12 ?_|refine n14 ?_|refine n15 ?_|refine n16 ?_)|(refine c9 (fun h=>?_) (fun h=>?_)<;>(try simp only [Bool.or_eq_true, Bool.and_eq_true, Bool.or_eq_false_iff, Bool.and_eq_false_iff, Bool.not_eq_true', Bool.not_eq_false', decide_eq_true_eq, decide_eq_false_iff_not, Bool.false_eq_true, Bool.true_eq_false, reduceCtorEq] at h)))
      · exact absurd h (by simp)
      · subst s4'
        refine cj_fors (fun i : Nat => i ≤ sets.length) (fun i => [(14, .v (.int .i64 i)), (13, .v (.bool ((sets.take i).any (isB nm))))]) (fun i => sets.length - i) 0 (Nat.zero_le _) ⟨⟨_, rfl, fun _ _ h => h⟩, ⟨_, rfl, fun _ _ h => h⟩, trivial⟩ (fun i hi => ?_)
        rcases hd : sets.drop i with _ | ⟨b, r⟩
        · have h0 := dropn hd
          have htk : sets.take i = sets := List.take_of_length_le h0
          rw [htk]
          repeat' (first|(first|(refine jl ?_;first|refine j7 ?_|refine j8 ?_|refine j10 ?_|refine j11 ?_|refine jtf ?_|refine jb ?_|refine jbl ?_|refine j1 ?_|refine j2 ?_|refine j3 ?_|refine j3f ?_|refine j4 ?_|refine j5 ?_|refine j6 ?_|refine j9 ?_|refine j12 (fun id hid=>?_)|refine j13 (fun id hid=>?_)|refine j14 ?_|refine j15 ?_|refine j17t ?_|refine j17 ?_|refine j16 ?_|refine j18 ?_|refine j19 ?_|refine j20 ?_|refine j21 ?_|refine j23 ?_|refine j24 ?_|refine j25 ?_|refine j26 ?_|refine jeq ?_|refine jeqq ?_|refine jne ?_|refine jneq ?_|refine jxe ?_|refine jxn ?_|refine jcbq ?_|refine ji1 ?_|refine ji2 ?_|refine ji3 ?_|refine ji4 ?_|refine ji5 ?_|refine ji6 ?_|refine j22 (fun id hid=>?_)|refine jp (p_awakec) ?_|refine jpy (p_awakec) ?_|refine jcq (hp:=fun hc=>p_awakec) ?_|refine jlit ?_|refine jmk ?_|refine jap ?_)|(refine dl ?_;first|refine d7 ?_|refine d8 ?_|refine d10 ?_|refine d11 ?_|refine dtf ?_|refine dbd ?_|refine dbl ?_|refine d1 ?_|refine d2 ?_|refine d3 ?_|refine d3f ?_|refine d4 ?_|refine d9 ?_|refine d14 ?_|refine d14a ?_|refine d15 ?_|refine d16 ?_|refine d18 ?_|refine d19 ?_|refine d20 ?_|refine d21 ?_|refine d25 ?_|refine d17 ?_|refine deq ?_|refine deqq ?_|refine dne ?_|refine dneq ?_|refine dxe ?_|refine dxn ?_|refine dcb ?_|refine dcbq ?_|refine di1 ?_|refine di2 ?_|refine di3 ?_|refine di4 ?_|refine di6 ?_|refine dp (p_awakec) ?_|refine dpy (p_awakec) ?_|refine dpq (hp:=fun hc=>p_awakec) ?_)|(refine al ?_;first|refine a7 ?_|refine a8 ?_|refine a10 ?_|refine a11 ?_|refine abd ?_|refine abl ?_|refine a1 ?_|refine a2 ?_|refine a3 ?_|refine a3f ?_|refine a9 ?_|refine a14 ?_|refine a15 ?_|refine a16 ?_|refine a18 ?_|refine a21 ?_|refine a25 ?_|refine ai1 ?_|refine ai2 ?_|refine ai3 ?_|refine ai4 ?_|refine ai6 ?_|refine alit ?_|refine ap (p_awakec) ?_|refine apy (p_awakec) ?_|refine da_skip ?_|refine da_nil ?_)|(refine bl ?_;first|refine bbd ?_|refine bbl ?_|refine b1 ?_|refine b14 ?_|refine b17t ?_|refine b17 ?_|refine b25 ?_|refine db_nil ?_)|refine al_cons (fun id hid=>?_)|refine al_nil ?_|(refine jc ?_;first|refine c1 ?_|refine c2 ?_|refine c3 ?_|refine c4 ?_|refine c5 ?_|refine c6 ?_|refine c7 ?_|refine c8 ?_|refine cqa ?_|refine cqk ?_|refine cq ?_)|refine n1 ?_|refine n2 ?_|refine n3 ?_|refine n4 ?_|refine n5 ?_|refine n6 ?_|refine n7 ?_|refine n8 ?_|refine n9 ?_|refine n10 ?_|refine n13 ?_|refine n11 ?_|refine n12 ?_|refine n14 ?_|refine n15 ?_|refine n16 ?_)|(refine c9 (fun h=>?_) (fun h=>?_)<;>((try simp only [Bool.or_eq_true, Bool.and_eq_true, Bool.or_eq_false_iff, Bool.and_eq_false_iff, Bool.not_eq_true', Bool.not_eq_false', decide_eq_true_eq, decide_eq_false_iff_not, Bool.false_eq_true, Bool.true_eq_false, reduceCtorEq] at h) <;> (try simp (disch := omega) only [sb_bt, w64, Int.reduceAdd, Int.reduceToNat, Int.toNat_natCast, not_true_eq_false, false_or] at h) <;> (try (exfalso; omega)))))
          refine ge (congrArg (fun b => AV.v (Value.bool b)) ?_)
          cases hany : sets.any (isB nm) with
          | true => simp
          | false =>
            obtain rfl := s6' hany
            simp
        · obtain ⟨h1, h2, h3⟩ := dropc hd
          have h4 := get_map bc h3
          have hmem := List.mem_of_getElem? h3
          repeat' (first|(first|(refine jl ?_;first|refine j7 ?_|refine j8 ?_|refine j10 ?_|refine j11 ?_|refine jtf ?_|refine jb ?_|refine jbl ?_|refine j1 ?_|refine j2 ?_|refine j3 ?_|refine j3f ?_|refine j4 ?_|refine j5 ?_|refine j6 ?_|refine j9 ?_|refine j12 (fun id hid=>?_)|refine j13 (fun id hid=>?_)|refine j14 ?_|refine j15 ?_|refine j17t ?_|refine j17 ?_|refine j16 ?_|refine j18 ?_|refine j19 ?_|refine j20 ?_|refine j21 ?_|refine j23 ?_|refine j24 ?_|refine j25 ?_|refine j26 ?_|refine jeq ?_|refine jeqq ?_|refine jne ?_|refine jneq ?_|refine jxe ?_|refine jxn ?_|refine jcbq ?_|refine ji1 ?_|refine ji2 ?_|refine ji3 ?_|refine ji4 ?_|refine ji5 ?_|refine ji6 ?_|refine j22 (fun id hid=>?_)|refine jlit ?_|refine jmk ?_|refine jap ?_)|(refine dl ?_;first|refine d7 ?_|refine d8 ?_|refine d10 ?_|refine d11 ?_|refine dtf ?_|refine dbd ?_|refine dbl ?_|refine d1 ?_|refine d2 ?_|refine d3 ?_|refine d3f ?_|refine d4 ?_|refine d9 ?_|refine d14 ?_|refine d14a ?_|refine d15 ?_|refine d16 ?_|refine d18 ?_|refine d19 ?_|refine d20 ?_|refine d21 ?_|refine d25 ?_|refine d17 ?_|refine deq ?_|refine deqq ?_|refine dne ?_|refine dneq ?_|refine dxe ?_|refine dxn ?_|refine dcb ?_|refine dcbq ?_|refine di1 ?_|refine di2 ?_|refine di3 ?_|refine di4 ?_|refine di6 ?_)|(refine al ?_;first|refine a7 ?_|refine a8 ?_|refine a10 ?_|refine a11 ?_|refine abd ?_|refine abl ?_|refine a1 ?_|refine a2 ?_|refine a3 ?_|refine a3f ?_|refine a9 ?_|refine a14 ?_|refine a15 ?_|refine a16 ?_|refine a18 ?_|refine a21 ?_|refine a25 ?_|refine ai1 ?_|refine ai2 ?_|refine ai3 ?_|refine ai4 ?_|refine ai6 ?_|refine alit ?_|refine da_skip ?_|refine da_nil ?_)|(refine bl ?_;first|refine bbd ?_|refine bbl ?_|refine b1 ?_|refine b14 ?_|refine b17t ?_|refine b17 ?_|refine b25 ?_|refine db_nil ?_)|refine al_cons (fun id hid=>?_)|refine al_nil ?_|(refine jc ?_;first|refine c1 ?_|refine c2 ?_|refine c3 ?_|refine c4 ?_|refine c5 ?_|refine c6 ?_|refine c7 ?_|refine c8 ?_|refine cqa ?_|refine cqk ?_|refine cq ?_)|refine n1 ?_|refine n2 ?_|refine n3 ?_|refine n4 ?_|refine n5 ?_|refine n6 ?_|refine n7 ?_|refine n8 ?_|refine n9 ?_|refine n10 ?_|refine n13 ?_|refine n11 ?_|refine n12 ?_|refine n14 ?_|refine n15 ?_|refine n16 ?_)|(refine c9 (fun h=>?_) (fun h=>?_)<;>((try simp only [Bool.or_eq_true, Bool.and_eq_true, Bool.or_eq_false_iff, Bool.and_eq_false_iff, Bool.not_eq_true', Bool.not_eq_false', decide_eq_true_eq, decide_eq_false_iff_not, Bool.false_eq_true, Bool.true_eq_false, reduceCtorEq] at h) <;> (try simp (disch := omega) only [sb_bt, w64, Int.reduceAdd, Int.reduceToNat, Int.toNat_natCast, not_true_eq_false, false_or] at h) <;> (try (exfalso; omega)))))
          · obtain ⟨rfl, g2⟩ := s5' b hmem (by assumption)
            exact absurd h (by simp [g2])
          · have hnb : b.name = nm := by assumption
            refine nx_for (i + 1) (by omega) (by omega) ⟨⟨_, rfl, wk1 (by omega)⟩, ⟨_, rfl, Wk.of_eq ?_⟩, trivial⟩
            rw [List.take_add_one, h3, List.any_append]
            simp [isB, hnb, ofLeaf]
          · refine nx_for (i + 1) (by omega) (by omega) ⟨⟨_, rfl, wk1 (by omega)⟩, ⟨_, rfl, Wk.of_eq ?_⟩, trivial⟩
            rw [List.take_add_one, h3, List.any_append]
            simp [isB, h]
end Go.Proofs.YtcpokdjppedaoaaDoor.Ab

/- A fact made anew of all its values: the plain law. -/
set_option linter.unusedVariables false
set_option linter.unusedSimpArgs false
set_option maxRecDepth 20000
namespace Go.Proofs.YtcpokdjppedaoaaDoor.Ab
open Go

theorem dupS_nodup : ∀ (l ns : List ByteArray), dupS ns l = false → l.Nodup ∧ ∀ x ∈ l, x ∉ ns
  | [], ns, _ => ⟨List.nodup_nil, fun x h => (by cases h)⟩
  | a :: r, ns, h => by
    unfold dupS at h
    by_cases ha : hasS a ns = true
    · rw [if_pos ha] at h; cases h
    · rw [if_neg ha] at h
      have hp : putS a ns = ns ++ [a] := by unfold putS; rw [if_neg ha]
      rw [hp] at h
      obtain ⟨h1, h2⟩ := dupS_nodup r _ h
      refine ⟨List.nodup_cons.2 ⟨fun hm => h2 a hm (by simp), h1⟩, fun x hx => ?_⟩
      rcases List.mem_cons.1 hx with rfl | hx
      · exact fun hm => ha (hasS_iff.2 hm)
      · exact fun hm => h2 x hx (by simp [hm])
theorem classes_nodup : ∀ (l : List Cls) (ns : List ByteArray), classesGo ns l = 0 → ∀ c ∈ l, c.attrs.Nodup
  | [], ns, _, c, hc => by cases hc
  | x :: r, ns, h, c, hc => by
    unfold classesGo at h
    by_cases h1 : hasS x.name ns = true
    · rw [if_pos h1] at h; cases h
    · rw [if_neg h1] at h
      by_cases h2 : dupS [] x.attrs = true
      · rw [if_pos h2] at h; cases h
      · rw [if_neg h2] at h
        rcases List.mem_cons.1 hc with rfl | hc
        · exact (dupS_nodup _ _ (by simpa using h2)).1
        · exact classes_nodup r _ h c hc
theorem attr_mem {nm : ByteArray} {ns : List ByteArray} (h : nm ∈ ns) : attrB nm ns = true := by
  unfold attrB
  rw [decide_eq_true_eq]
  unfold attrI
  have := idxG_lt (isS nm) ns 0
  by_cases hlt : idxG (isS nm) ns 0 < 0
  · have := this.1 hlt nm h
    simp [isS] at this
  · omega
theorem attr_at {ns : List ByteArray} (hn : ns.Nodup) {i : Nat} {a : ByteArray} (h : ns[i]? = some a) : (attrN a ns).toNat = i := by
  have h1 := attr_get (attr_mem (List.mem_of_getElem? h))
  obtain ⟨hi, e1⟩ := List.getElem?_eq_some_iff.1 h
  obtain ⟨hj, e2⟩ := List.getElem?_eq_some_iff.1 h1
  have hp := List.pairwise_iff_getElem.1 hn
  rcases Nat.lt_trichotomy (attrN a ns).toNat i with hlt | heq | hgt
  · exact absurd (e2.trans e1.symm) (hp _ _ hj hi hlt)
  · exact heq
  · exact absurd (e1.trans e2.symm) (hp _ _ hi hj hgt)
def zipB (ns : List ByteArray) (vs : List Vl) : List Bd := List.zipWith (fun a v => ⟨a, v⟩) ns vs
theorem zipB_get {ns : List ByteArray} {vs : List Vl} {i : Nat} {a : ByteArray} {v : Vl} (h1 : ns[i]? = some a) (h2 : vs[i]? = some v) : (zipB ns vs)[i]? = some ⟨a, v⟩ := by
  simp [zipB, List.getElem?_zipWith, h1, h2]
theorem zipB_mem {ns : List ByteArray} {vs : List Vl} {b : Bd} (h : b ∈ zipB ns vs) : ∃ i : Nat, ns[i]? = some b.name ∧ vs[i]? = some b.val := by
  obtain ⟨i, hi⟩ := List.mem_iff_getElem?.1 h
  simp only [zipB, List.getElem?_zipWith] at hi
  cases h1 : ns[i]? with
  | none => simp [h1] at hi
  | some a =>
    cases h2 : vs[i]? with
    | none => simp [h1, h2] at hi
    | some v =>
      simp [h1, h2] at hi
      subst hi
      exact ⟨i, h1, h2⟩
theorem zipB_names (ns : List ByteArray) (vs : List Vl) (h : ns.length = vs.length) : (zipB ns vs).map Bd.name = ns := by
  apply List.ext_getElem?
  intro i
  rw [List.getElem?_map, zipB, List.getElem?_zipWith]
  cases h1 : ns[i]? with
  | none => simp
  | some a =>
    have : i < vs.length := by rw [← h]; exact (List.getElem?_eq_some_iff.1 h1).1
    rw [List.getElem?_eq_getElem this]
    simp
theorem withGo_ok {ns : List ByteArray} : ∀ (s d : List Bd) (vs : List Vl), (∀ b ∈ s, attrB b.name ns = true ∧ valE b.val = 0) → ((d ++ s).map Bd.name).Nodup → (withGo ns d s vs).1 = 0
  | [], d, vs, _, _ => rfl
  | b :: r, d, vs, h, hn => by
    unfold withGo
    obtain ⟨h1, h2⟩ := h b (.head _)
    have hd : d.any (isB b.name) = false := by
      rw [List.any_eq_false]
      intro x hx e
      simp only [isB, decide_eq_true_eq] at e
      rw [List.map_append, List.map_cons, List.nodup_append] at hn
      exact hn.2.2 x.name (List.mem_map.2 ⟨x, hx, rfl⟩) b.name (.head _) e
    rw [if_neg (by rw [h1]; decide), if_neg (by rw [hd]; decide), if_pos h2]
    exact withGo_ok r _ _ (fun x hx => h x (.tail _ hx)) (by rw [List.append_assoc]; exact hn)
theorem same_spec {l : List Cls} {f : Fc} (h : checkF l f = 0) (hcl : classesGo [] l = 0) : ∃ c, findC f.cls l = some c ∧ c.attrs.length = f.vals.length ∧ (withR l f f.tag []).1 = 0 ∧ withF l f f.tag [] = f ∧ makeR l f.tag f.cls (zipB c.attrs f.vals) = 0 ∧ makeF l f.tag f.cls (zipB c.attrs f.vals) = f := by
  obtain ⟨ht, c, hc1, hc2, hc3, hc4⟩ := checkF_zero h
  have hw : withR l f f.tag [] = (0, f.vals) := by
    unfold withR
    rw [if_neg (fun e => e h), if_neg (by rw [ht]; decide), withGo]
  have hnd := classes_nodup l [] hcl c (findC_mem hc1)
  have hce : checkF l (emptyF c f.cls) = 0 := by
    unfold checkF emptyF
    dsimp only
    rw [if_neg (by decide), hc1]
    dsimp only
    rw [if_neg (by rw [List.length_replicate]; omega)]
    exact firstE_of fun v hv => by rw [(List.mem_replicate.1 hv).2]; decide
  have hoe : ofC l (emptyF c f.cls) = c := by
    unfold ofC emptyF
    dsimp only
    rw [if_neg (by decide), hc1]; rfl
  have hR : withR l (emptyF c f.cls) f.tag (zipB c.attrs f.vals) = withGo c.attrs [] (zipB c.attrs f.vals) (emptyF c f.cls).vals := by
    unfold withR
    rw [if_neg (fun e => e hce), if_neg (by rw [ht]; decide), hoe]
  have hok : (withGo c.attrs [] (zipB c.attrs f.vals) (emptyF c f.cls).vals).1 = 0 := withGo_ok _ _ _ (fun b hb => by
    obtain ⟨i, g1, g2⟩ := zipB_mem hb
    exact ⟨attr_mem (List.mem_of_getElem? g1), hc4 _ (List.mem_of_getElem? g2)⟩) (by rw [List.nil_append, zipB_names _ _ hc3.symm]; exact hnd)
  have hle : c.attrs.length = (emptyF c f.cls).vals.length := by unfold emptyF; rw [List.length_replicate]
  obtain ⟨_, _, s3⟩ := withGo_spec _ _ _ hok hle
  have hlen := withGo_len _ _ _ _ hok
  have hus : (withGo c.attrs [] (zipB c.attrs f.vals) (emptyF c f.cls).vals).2 = f.vals := by
    apply List.ext_getElem?
    intro i
    by_cases hi : i < f.vals.length
    · have g1 : c.attrs[i]? = some c.attrs[i] := List.getElem?_eq_getElem (by omega)
      have g2 : f.vals[i]? = some f.vals[i] := List.getElem?_eq_getElem hi
      have := s3 _ (List.mem_of_getElem? (zipB_get g1 g2))
      dsimp only at this
      rw [attr_at hnd g1] at this
      rw [this, g2]
    · rw [List.getElem?_eq_none (by omega), List.getElem?_eq_none (by omega)]
  refine ⟨c, hc1, hc3.symm, by rw [hw], ?_, ?_, ?_⟩
  · unfold withF; rw [hw, if_pos rfl]
  · unfold makeR; rw [hc1]; dsimp only; rw [hR, hok]
  · unfold makeF withF; rw [hc1]; dsimp only; rw [hR, hok, if_pos rfl, hus]; rfl
end Go.Proofs.YtcpokdjppedaoaaDoor.Ab
