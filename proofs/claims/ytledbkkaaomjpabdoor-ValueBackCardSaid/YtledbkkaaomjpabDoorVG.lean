/- Values: the laws of their texts and bytes. -/
import Derived.Test.YtledbkkaaomjpabDoorVF
set_option linter.unusedVariables false
set_option linter.unusedSimpArgs false
namespace Go.Proofs.YtledbkkaaomjpabDoor.Ab
open Go
attribute [local irreducible] thn inb endR CJ LJ OpJ DJ

section
variable {P : Program} {l : List Oper} {c : List (List Nat)} {m nt : Nat} {σ σ0 σ1 : St} {K : Fr → Prop} {i : Nat} {fr : Fr} {rest : List Oper} {t : Tmp} {op : Op} {ty : TypeId} {pos : String} {aft : Array Edge} {av : AV}
/-- A slice's beginning, under a guard that is not known. -/
theorem dcutq {st et : TypeId} {x : Operand} {hi : Option Operand} {nl : Option Bool} {full : Bool} {lb : List UInt8} {k : Int} {j u : Nat} {w cc : Bool} {a : AV} (h : DJ P l c m σ0 σ1 K (i + 1) rest ((t, .mb cc (.sl nl false 1 (bys (lb.take k.toNat)))) :: fr)) (him : Nat.beq i m = false := by exact rfl) (hj : dstOf l j = some u := by exact rfl) (hl : lk fr u = some a := by exact rfl) (hg : gc a w = some cc := by exact rfl)
    (ht : P.underlying st = some (.slice et) := by exact rfl) (hs : sizeIs P et = some 1 := by exact rfl) (hx : ev (strip fr) x = some (.sl nl full 1 (bys lb)) := by exact rfl) (hhi : bound (ev (strip fr)) (bys lb).length hi = some k := by exact rfl)
    (hn : Needs cc fr (Op.slice st x none hi none).operands.toList := by repeat' (first | exact True.intro | refine And.intro ?_ ?_ | exact nd0 rfl | exact nd1 rfl | exact nd2 rfl | exact nd3 rfl | exact nd4 rfl)) (h0 : cc = true → 0 ≤ k := by intro h; simp only [length_bys] at *; omega) (h1 : cc = true → k ≤ lb.length := by intro h; simp only [length_bys] at *; omega) :
    DJ P l c m σ0 σ1 K i (⟨some t, .slice st x none hi none, ty, pos, aft, some (j, w)⟩ :: rest) fr :=
  have e : ∀ (σ : St) (R : Option AV → St → Prop), R (some (.sl nl false 1 (bys (lb.take k.toNat)))) σ → R (some (.sl nl false 1 (((bys lb).take k.toNat).drop (0 : Int).toNat))) σ := fun σ R hR => by
    rw [bys_take]; exact hR
  dj_q him hj hl hg hn (fun hc R hR => opj_cut_sl (l := 0) rfl ht hs hx rfl hhi (by omega) (h0 hc) (by rw [length_bys]; exact h1 hc) (e _ _ hR)) (fun hc R hR => opj_cut_sl (l := 0) rfl ht hs hx rfl hhi (by omega) (h0 hc) (by rw [length_bys]; exact h1 hc) (e _ _ hR)) h
end
theorem put_len {k n : Int} {s : ByteArray} (h0 : 0 ≤ k) (h : checkE k n s = 0) : 0 < (putV k n s).length ∧ (putV k n s).length ≤ 300 := by
  have hk := checkE_kind h
  have hn := checkE_ok h
  unfold putV
  rw [if_neg (by omega)]
  by_cases h1 : k = 1
  · rw [if_pos h1, List.length_cons, (beNat_signB n hn).1, length_be]; omega
  · rw [if_neg h1]
    by_cases h2 : k = 2
    · rw [if_pos h2, List.length_cons]
      have hz := checkE_size h h2
      unfold textB
      rw [if_neg (by omega), List.length_cons, bl_len]; omega
    · rw [if_neg h2]; simp
theorem same_iff {k n k' n' : Int} {s s' : ByteArray} : sameV k n s k' n' s' = true ↔ k = k' ∧ n = n' ∧ s = s' := by simp [sameV]
theorem toA_eq {a b : List UInt8} : (({ data := a.toArray } : ByteArray) = { data := b.toArray }) ↔ a = b :=
  ⟨fun e => by have := congrArg (fun x : ByteArray => x.data.toList) e; simpa using this, fun e => by rw [e]⟩
theorem l_valueApart (k n : Int) (s : ByteArray) (k' n' : Int) (s' : ByteArray) (hk : 0 ≤ k) (hk' : 0 ≤ k') : Pure Tryd.prog 6 [vv k n s, vv k' n' s'] (.v (.bool true)) := by
  refine enterW Tryd.func6 rfl rfl rfl rfl (fun σ => ?_)
  repeat' (first|(first|(refine jl ?_;first|refine j7 ?_|refine j8 ?_|refine j10 ?_|refine j11 ?_|refine jtf ?_|refine j1 ?_|refine j2 ?_|refine j3 ?_|refine j3f ?_|refine j4 ?_|refine j5 ?_|refine j6 ?_|refine j9 ?_|refine j12 (fun id hid=>?_)|refine j13 (fun id hid=>?_)|refine j14 ?_|refine j15 ?_|refine j17 ?_|refine j16 ?_|refine j18 ?_|refine j19 ?_|refine j20 ?_|refine j21 ?_|refine j23 ?_|refine j24 ?_|refine j25 ?_|refine j26 ?_|refine jeq ?_|refine jeqq ?_|refine jne ?_|refine jneq ?_|refine jcbq ?_|refine j22 (fun id hid=>?_)|refine jp (p_awakev) ?_|refine jpy (p_awakev) ?_|refine jcq (hp:=fun hc=>p_awakev) ?_|refine jp (p_check _ _ _) ?_|refine jpy (p_check _ _ _) ?_|refine jcq (hp:=fun hc=>p_check _ _ _) ?_|refine jp (p_putv _ _ _ hk) ?_|refine jpy (p_putv _ _ _ hk) ?_|refine jcq (hp:=fun hc=>p_putv _ _ _ hk) ?_|refine jp (p_putv _ _ _ hk') ?_|refine jpy (p_putv _ _ _ hk') ?_|refine jcq (hp:=fun hc=>p_putv _ _ _ hk') ?_|refine jp (p_textv _ _ _) ?_|refine jpy (p_textv _ _ _) ?_|refine jcq (hp:=fun hc=>p_textv _ _ _) ?_)|(refine dl ?_;first|refine d7 ?_|refine d8 ?_|refine d10 ?_|refine d11 ?_|refine dtf ?_|refine d1 ?_|refine d2 ?_|refine d3 ?_|refine d3f ?_|refine d4 ?_|refine d9 ?_|refine d14 ?_|refine d14a ?_|refine d15 ?_|refine d16 ?_|refine d18 ?_|refine d19 ?_|refine d20 ?_|refine d21 ?_|refine d17 ?_|refine deq ?_|refine deqq ?_|refine dne ?_|refine dneq ?_|refine dcb ?_|refine dcbq ?_|refine dp (p_awakev) ?_|refine dpy (p_awakev) ?_|refine dpq (hp:=fun hc=>p_awakev) ?_|refine dp (p_check _ _ _) ?_|refine dpy (p_check _ _ _) ?_|refine dpq (hp:=fun hc=>p_check _ _ _) ?_|refine dp (p_putv _ _ _ hk) ?_|refine dpy (p_putv _ _ _ hk) ?_|refine dpq (hp:=fun hc=>p_putv _ _ _ hk) ?_|refine dp (p_putv _ _ _ hk') ?_|refine dpy (p_putv _ _ _ hk') ?_|refine dpq (hp:=fun hc=>p_putv _ _ _ hk') ?_|refine dp (p_textv _ _ _) ?_|refine dpy (p_textv _ _ _) ?_|refine dpq (hp:=fun hc=>p_textv _ _ _) ?_|refine dcutq ?_)|(refine jc ?_;first|refine c1 ?_|refine c2 ?_|refine c3 ?_|refine c4 ?_|refine c5 ?_|refine c6 ?_|refine c7 ?_|refine c8 ?_|refine cq ?_)|refine n1 ?_|refine n2 ?_|refine n3 ?_|refine n4 ?_|refine n5 ?_|refine n6 ?_|refine n7 ?_|refine n8 ?_|refine n9 ?_|refine n10 ?_|refine n13 ?_|refine n11 ?_|refine n12 ?_|refine n14 ?_|refine n15 ?_|refine n16 ?_)|(refine c9 (fun h=>?_) (fun h=>?_)<;>(try simp only [Bool.or_eq_true, Bool.and_eq_true, Bool.or_eq_false_iff, Bool.and_eq_false_iff, Bool.not_eq_true', Bool.not_eq_false', decide_eq_true_eq, decide_eq_false_iff_not, Bool.false_eq_true, Bool.true_eq_false, reduceCtorEq] at h)))
  · exact ge rfl
  · exfalso; omega
  · refine ge (congrArg (fun b => AV.v (Value.bool b)) ?_)
    obtain ⟨c, c'⟩ := h
    show (decide (textV k n s = textV k' n' s') == sameV k n s k' n' s' && decide (({ data := (putV k n s).toArray } : ByteArray) = { data := (putV k' n' s').toArray }) == sameV k n s k' n' s' && _ == sameV k n s k' n' s' && true) = true
    by_cases he : sameV k n s k' n' s' = true
    · obtain ⟨rfl, rfl, rfl⟩ := same_iff.1 he
      rw [he]
      simp [length_bys]
    · rw [Bool.not_eq_true] at he
      rw [he]
      have e1 : decide (textV k n s = textV k' n' s') = false := decide_eq_false fun e => by rw [text_inj hk c hk' c' e] at he; cases he
      have e2 : decide (({ data := (putV k n s).toArray } : ByteArray) = { data := (putV k' n' s').toArray }) = false := decide_eq_false fun e => by
        rw [put_begins hk c hk' c' [] (by rw [List.append_nil]; exact (toA_eq.1 e).symm)] at he; cases he
      rw [e1, e2]
      simp only [Bool.and_true, beq_self_eq_true, Bool.true_and, beq_iff_eq, Bool.and_eq_false_iff, decide_eq_false_iff_not]
      by_cases hle : (putV k n s).length ≤ (putV k' n' s').length
      · right
        intro e
        rw [toA_eq, length_bys, length_bys, if_neg (by omega), Int.toNat_natCast] at e
        have := put_begins hk c hk' c' ((putV k' n' s').drop (putV k n s).length) (by
          have h9 := List.take_append_drop (putV k n s).length (putV k' n' s')
          rw [e] at h9
          exact h9.symm)
        rw [this] at he; cases he
      · left
        rw [length_bys, length_bys]
        omega
theorem l_valueBack (k n : Int) (s : ByteArray) (l : List UInt8) (hk : 0 ≤ k) : Pure Tryd.prog 7 [vv k n s, .sl none false 1 (bys l)] (.v (.bool true)) := by
  refine enterW Tryd.func7 rfl rfl rfl rfl (fun σ => ?_)
  repeat' (first|(first|(refine jl ?_;first|refine j7 ?_|refine j8 ?_|refine j10 ?_|refine j11 ?_|refine jtf ?_|refine j1 ?_|refine j2 ?_|refine j3 ?_|refine j3f ?_|refine j4 ?_|refine j5 ?_|refine j6 ?_|refine j9 ?_|refine j12 (fun id hid=>?_)|refine j13 (fun id hid=>?_)|refine j14 ?_|refine j15 ?_|refine j17 ?_|refine j16 ?_|refine j18 ?_|refine j19 ?_|refine j20 ?_|refine j21 ?_|refine j23 ?_|refine j24 ?_|refine j25 ?_|refine j26 ?_|refine jeq ?_|refine jeqq ?_|refine jne ?_|refine jneq ?_|refine jcbq ?_|refine j22 (fun id hid=>?_)|refine jp (p_awakev) ?_|refine jpy (p_awakev) ?_|refine jcq (hp:=fun hc=>p_awakev) ?_|refine jp (p_check _ _ _) ?_|refine jpy (p_check _ _ _) ?_|refine jcq (hp:=fun hc=>p_check _ _ _) ?_|refine jp (p_putv _ _ _ hk) ?_|refine jpy (p_putv _ _ _ hk) ?_|refine jcq (hp:=fun hc=>p_putv _ _ _ hk) ?_|refine jp (p_textv _ _ _) ?_|refine jpy (p_textv _ _ _) ?_|refine jcq (hp:=fun hc=>p_textv _ _ _) ?_|refine jp (p_parse _) ?_|refine jpy (p_parse _) ?_|refine jcq (hp:=fun hc=>p_parse _) ?_)|(refine dl ?_;first|refine d7 ?_|refine d8 ?_|refine d10 ?_|refine d11 ?_|refine dtf ?_|refine d1 ?_|refine d2 ?_|refine d3 ?_|refine d3f ?_|refine d4 ?_|refine d9 ?_|refine d14 ?_|refine d14a ?_|refine d15 ?_|refine d16 ?_|refine d18 ?_|refine d19 ?_|refine d20 ?_|refine d21 ?_|refine d17 ?_|refine deq ?_|refine deqq ?_|refine dne ?_|refine dneq ?_|refine dcb ?_|refine dcbq ?_|refine dp (p_awakev) ?_|refine dpy (p_awakev) ?_|refine dpq (hp:=fun hc=>p_awakev) ?_|refine dp (p_check _ _ _) ?_|refine dpy (p_check _ _ _) ?_|refine dpq (hp:=fun hc=>p_check _ _ _) ?_|refine dp (p_putv _ _ _ hk) ?_|refine dpy (p_putv _ _ _ hk) ?_|refine dpq (hp:=fun hc=>p_putv _ _ _ hk) ?_|refine dp (p_textv _ _ _) ?_|refine dpy (p_textv _ _ _) ?_|refine dpq (hp:=fun hc=>p_textv _ _ _) ?_|refine dp (p_parse _) ?_|refine dpy (p_parse _) ?_|refine dpq (hp:=fun hc=>p_parse _) ?_)|(refine jc ?_;first|refine c1 ?_|refine c2 ?_|refine c3 ?_|refine c4 ?_|refine c5 ?_|refine c6 ?_|refine c7 ?_|refine c8 ?_|refine cq ?_)|refine n1 ?_|refine n2 ?_|refine n3 ?_|refine n4 ?_|refine n5 ?_|refine n6 ?_|refine n7 ?_|refine n8 ?_|refine n9 ?_|refine n10 ?_|refine n13 ?_|refine n11 ?_|refine n12 ?_|refine n14 ?_|refine n15 ?_|refine n16 ?_)|(refine c9 (fun h=>?_) (fun h=>?_)<;>(try simp only [Bool.or_eq_true, Bool.and_eq_true, Bool.or_eq_false_iff, Bool.and_eq_false_iff, Bool.not_eq_true', Bool.not_eq_false', decide_eq_true_eq, decide_eq_false_iff_not, Bool.false_eq_true, Bool.true_eq_false, reduceCtorEq] at h)))
  · exact ge rfl
  · refine ge (congrArg (fun b => AV.v (Value.bool b)) ?_)
    rw [putV, if_pos h]
    simp [length_bys]
  · exfalso
    have hc : checkE k n s = 0 := by assumption
    obtain ⟨h1, h2⟩ := put_len hk hc
    rw [parse_text hk hc, length_bys] at h
    simp only [hc, not_true_eq_false, or_false, false_or] at h
    omega
  · have hc : checkE k n s = 0 := by assumption
    obtain ⟨h1, h2⟩ := put_len hk hc
    have h3 : l.length ≤ 200 := by
      have h9 : ¬200 < s.size ∧ ¬200 < (bys l).length := by omega
      rw [length_bys] at h9; omega
    have hw : IntKind.i64.wrap (((bys (putV k n s)).length : Int) - 1) = (((putV k n s).length - 1 : Nat) : Int) := by rw [length_bys, w64 (by omega) (by omega)]; omega
    refine jlit ?_
    repeat (first|(refine jl ?_;first|refine j7 ?_|refine j8 ?_|refine j10 ?_|refine j11 ?_|refine jtf ?_|refine j1 ?_|refine j2 ?_|refine j3 ?_|refine j3f ?_|refine j4 ?_|refine j5 ?_|refine j6 ?_|refine j9 ?_|refine j12 (fun id hid=>?_)|refine j13 (fun id hid=>?_)|refine j14 ?_|refine j15 ?_|refine j17 ?_|refine j16 ?_|refine j18 ?_|refine j19 ?_|refine j20 ?_|refine j21 ?_|refine j23 ?_|refine j24 ?_|refine j25 ?_|refine j26 ?_|refine jeq ?_|refine jeqq ?_|refine jne ?_|refine jneq ?_|refine jcbq ?_|refine j22 (fun id hid=>?_))|(refine dl ?_;first|refine d7 ?_|refine d8 ?_|refine d10 ?_|refine d11 ?_|refine dtf ?_|refine d1 ?_|refine d2 ?_|refine d3 ?_|refine d3f ?_|refine d4 ?_|refine d9 ?_|refine d14 ?_|refine d14a ?_|refine d15 ?_|refine d16 ?_|refine d18 ?_|refine d19 ?_|refine d20 ?_|refine d21 ?_|refine d17 ?_|refine deq ?_|refine deqq ?_|refine dne ?_|refine dneq ?_|refine dcb ?_|refine dcbq ?_)|(refine jc ?_;first|refine c1 ?_|refine c2 ?_|refine c3 ?_|refine c4 ?_|refine c5 ?_|refine c6 ?_|refine c7 ?_|refine c8 ?_|refine cq ?_)|refine n1 ?_|refine n2 ?_|refine n3 ?_|refine n4 ?_|refine n5 ?_|refine n6 ?_|refine n7 ?_|refine n8 ?_|refine n9 ?_|refine n10 ?_|refine n13 ?_|refine n11 ?_|refine n12 ?_|refine n14 ?_|refine n15 ?_|refine n16 ?_)
    refine lj_fc rfl (fun R hR => opj_append_new (sz := 1) (by_ := 1) (news := bys (putV k n s)) rfl rfl ⟨rfl, rfl, rfl, by decide⟩ rfl rfl (.inl rfl) rfl rfl (fun e => by have := congrArg List.length e; rw [length_bys, List.length_nil] at this; omega) (by rw [length_bys]; show (0 + _) * 1 ≤ _; omega) (by decide) hR) (fun a ha => ?_)
    repeat (first|(refine jl ?_;first|refine j7 ?_|refine j8 ?_|refine j10 ?_|refine j11 ?_|refine jtf ?_|refine j1 ?_|refine j2 ?_|refine j3 ?_|refine j3f ?_|refine j4 ?_|refine j5 ?_|refine j6 ?_|refine j9 ?_|refine j12 (fun id hid=>?_)|refine j13 (fun id hid=>?_)|refine j14 ?_|refine j15 ?_|refine j17 ?_|refine j16 ?_|refine j18 ?_|refine j19 ?_|refine j20 ?_|refine j21 ?_|refine j23 ?_|refine j24 ?_|refine j25 ?_|refine j26 ?_|refine jeq ?_|refine jeqq ?_|refine jne ?_|refine jneq ?_|refine jcbq ?_|refine j22 (fun id hid=>?_))|(refine dl ?_;first|refine d7 ?_|refine d8 ?_|refine d10 ?_|refine d11 ?_|refine dtf ?_|refine d1 ?_|refine d2 ?_|refine d3 ?_|refine d3f ?_|refine d4 ?_|refine d9 ?_|refine d14 ?_|refine d14a ?_|refine d15 ?_|refine d16 ?_|refine d18 ?_|refine d19 ?_|refine d20 ?_|refine d21 ?_|refine d17 ?_|refine deq ?_|refine deqq ?_|refine dne ?_|refine dneq ?_|refine dcb ?_|refine dcbq ?_)|(refine jc ?_;first|refine c1 ?_|refine c2 ?_|refine c3 ?_|refine c4 ?_|refine c5 ?_|refine c6 ?_|refine c7 ?_|refine c8 ?_|refine cq ?_)|refine n1 ?_|refine n2 ?_|refine n3 ?_|refine n4 ?_|refine n5 ?_|refine n6 ?_|refine n7 ?_|refine n8 ?_|refine n9 ?_|refine n10 ?_|refine n13 ?_|refine n11 ?_|refine n12 ?_|refine n14 ?_|refine n15 ?_|refine n16 ?_)
    refine lj_fc rfl (fun R hR => opj_append_own (sz := 1) (by_ := 1) (news := bys l) rfl rfl ⟨rfl, rfl, rfl, by decide⟩ rfl rfl ha (List.length_append ..).symm rfl rfl (by rw [length_bys, length_bys]; show ((0 + _) + _) * 1 ≤ _; omega) (by decide) hR) (fun b hb => ?_)
    refine lj_freeze 79 (els := bys (putV k n s ++ l)) rfl ((St.set_same _ _ _).trans (by rw [bys_append]; rfl)) (by simp only [length_bys, List.length_append]; show (0 + _) + _ = _; omega) (by decide) ?_
    rw [St.del_set hb]
    have hl1 : (putV k n s ++ l).length ≤ 140737488355328 := by rw [List.length_append]; omega
    repeat (first|(refine jl ?_;first|refine j7 ?_|refine j8 ?_|refine j10 ?_|refine j11 ?_|refine jtf ?_|refine j1 ?_|refine j2 ?_|refine j3 ?_|refine j3f ?_|refine j4 ?_|refine j5 ?_|refine j6 ?_|refine j9 ?_|refine j12 (fun id hid=>?_)|refine j13 (fun id hid=>?_)|refine j14 ?_|refine j15 ?_|refine j17 ?_|refine j16 ?_|refine j18 ?_|refine j19 ?_|refine j20 ?_|refine j21 ?_|refine j23 ?_|refine j24 ?_|refine j25 ?_|refine j26 ?_|refine jeq ?_|refine jeqq ?_|refine jne ?_|refine jneq ?_|refine jcbq ?_|refine j22 (fun id hid=>?_)|refine jp (p_getv none false (putV k n s ++ l) hl1) ?_|refine jpy (p_getv none false (putV k n s ++ l) hl1) ?_|refine jcq (hp:=fun hc=>p_getv none false (putV k n s ++ l) hl1) ?_)|(refine dl ?_;first|refine d7 ?_|refine d8 ?_|refine d10 ?_|refine d11 ?_|refine dtf ?_|refine d1 ?_|refine d2 ?_|refine d3 ?_|refine d3f ?_|refine d4 ?_|refine d9 ?_|refine d14 ?_|refine d14a ?_|refine d15 ?_|refine d16 ?_|refine d18 ?_|refine d19 ?_|refine d20 ?_|refine d21 ?_|refine d17 ?_|refine deq ?_|refine deqq ?_|refine dne ?_|refine dneq ?_|refine dcb ?_|refine dcbq ?_|refine dp (p_getv none false (putV k n s ++ l) hl1) ?_|refine dpy (p_getv none false (putV k n s ++ l) hl1) ?_|refine dpq (hp:=fun hc=>p_getv none false (putV k n s ++ l) hl1) ?_)|(refine jc ?_;first|refine c1 ?_|refine c2 ?_|refine c3 ?_|refine c4 ?_|refine c5 ?_|refine c6 ?_|refine c7 ?_|refine c8 ?_|refine cq ?_)|refine n1 ?_|refine n2 ?_|refine n3 ?_|refine n4 ?_|refine n5 ?_|refine n6 ?_|refine n7 ?_|refine n8 ?_|refine n9 ?_|refine n10 ?_|refine n13 ?_|refine n11 ?_|refine n12 ?_|refine n14 ?_|refine n15 ?_|refine n16 ?_)
    rw [hw]
    refine lj_v rfl (av := .sl none false 1 (bys ((putV k n s).take ((putV k n s).length - 1)))) (fun R hR => opj_cut_sl (l := 0) (h := (((putV k n s).length - 1 : Nat) : Int)) rfl rfl rfl rfl rfl rfl (by omega) (by omega) (by rw [length_bys]; omega) (by simpa [bys_take] using hR)) ?_
    have hl2 : ((putV k n s).take ((putV k n s).length - 1)).length ≤ 140737488355328 := by rw [List.length_take]; omega
    repeat (first|(refine jl ?_;first|refine j7 ?_|refine j8 ?_|refine j10 ?_|refine j11 ?_|refine jtf ?_|refine j1 ?_|refine j2 ?_|refine j3 ?_|refine j3f ?_|refine j4 ?_|refine j5 ?_|refine j6 ?_|refine j9 ?_|refine j12 (fun id hid=>?_)|refine j13 (fun id hid=>?_)|refine j14 ?_|refine j15 ?_|refine j17 ?_|refine j16 ?_|refine j18 ?_|refine j19 ?_|refine j20 ?_|refine j21 ?_|refine j23 ?_|refine j24 ?_|refine j25 ?_|refine j26 ?_|refine jeq ?_|refine jeqq ?_|refine jne ?_|refine jneq ?_|refine jcbq ?_|refine j22 (fun id hid=>?_)|refine jp (p_getv none false ((putV k n s).take ((putV k n s).length - 1)) hl2) ?_|refine jpy (p_getv none false ((putV k n s).take ((putV k n s).length - 1)) hl2) ?_|refine jcq (hp:=fun hc=>p_getv none false ((putV k n s).take ((putV k n s).length - 1)) hl2) ?_|refine jp (p_awakev) ?_|refine jpy (p_awakev) ?_|refine jcq (hp:=fun hc=>p_awakev) ?_)|(refine dl ?_;first|refine d7 ?_|refine d8 ?_|refine d10 ?_|refine d11 ?_|refine dtf ?_|refine d1 ?_|refine d2 ?_|refine d3 ?_|refine d3f ?_|refine d4 ?_|refine d9 ?_|refine d14 ?_|refine d14a ?_|refine d15 ?_|refine d16 ?_|refine d18 ?_|refine d19 ?_|refine d20 ?_|refine d21 ?_|refine d17 ?_|refine deq ?_|refine deqq ?_|refine dne ?_|refine dneq ?_|refine dcb ?_|refine dcbq ?_|refine dp (p_getv none false ((putV k n s).take ((putV k n s).length - 1)) hl2) ?_|refine dpy (p_getv none false ((putV k n s).take ((putV k n s).length - 1)) hl2) ?_|refine dpq (hp:=fun hc=>p_getv none false ((putV k n s).take ((putV k n s).length - 1)) hl2) ?_|refine dp (p_awakev) ?_|refine dpy (p_awakev) ?_|refine dpq (hp:=fun hc=>p_awakev) ?_)|(refine jc ?_;first|refine c1 ?_|refine c2 ?_|refine c3 ?_|refine c4 ?_|refine c5 ?_|refine c6 ?_|refine c7 ?_|refine c8 ?_|refine cq ?_)|refine n1 ?_|refine n2 ?_|refine n3 ?_|refine n4 ?_|refine n5 ?_|refine n6 ?_|refine n7 ?_|refine n8 ?_|refine n9 ?_|refine n10 ?_|refine n13 ?_|refine n11 ?_|refine n12 ?_|refine n14 ?_|refine n15 ?_|refine n16 ?_)
    refine ge (congrArg (fun b => AV.v (Value.bool b)) ?_)
    rw [get_put hk hc, get_cut hk hc]
    simp [length_bys]
end Go.Proofs.YtledbkkaaomjpabDoor.Ab
