/- The texts CI, G1, G2, G3, O1, O2, one behind the other. -/
import Derived.Test.YtcpokdjppedaoaaDoorM1
import Derived.Test.YtcpokdjppedaoaaDoorM2
import Derived.Test.YtcpokdjppedaoaaDoorM3
import Derived.Test.YtcpokdjppedaoaaDoorM4
import Derived.Test.YtcpokdjppedaoaaDoorM5
import Derived.Test.YtcpokdjppedaoaaDoorM6
import Derived.Test.YtcpokdjppedaoaaDoorM7
import Derived.Test.YtcpokdjppedaoaaDoorRows
import Derived.WalkKit
import Derived.ProofKit
import Derived.OpenShut
import Derived.ChangeOld
import Derived.Below
import Derived.Lib.SmallJoins
/- Laws of classes: a fact made anew is itself. -/
set_option linter.unusedVariables false
set_option linter.unusedSimpArgs false
set_option maxRecDepth 20000
namespace Go.Proofs.YtcpokdjppedaoaaDoor.Ab
open Go
attribute [local irreducible] thn inb endR CJ LJ OpJ DJ DA DB AllocK

theorem sameF_self (f : Fc) : sameF f f = true := by simp [sameF]
set_option maxHeartbeats 2000000 in
theorem l_classSame (l : List Cls) (f : Fc) : Pure Tryd.prog 6 [.sl none false 2 (l.map cc), .agg (fc f)] (.v (.bool true)) := by
  refine enterW Tryd.func6 rfl rfl rfl rfl (fun σ => ?_)
  obtain ⟨ft, fn, vs⟩ := f
  have hvl : (vs.map vc).length = vs.length := List.length_map ..
  have k1 : Pure Tryd.prog 9 [.sl none false 2 (l.map cc), .agg (fc ⟨ft, fn, vs⟩), .sl (some true) true 1 []] (.v (.bool (lightB l ⟨ft, fn, vs⟩ []))) := (p_light none none false false l ⟨ft, fn, vs⟩ []).wka ⟨Wk.refl _, Wk.refl _, Wk.nil _ _ _ _, trivial⟩
  have k2 := p_ccheck none false l ⟨ft, fn, vs⟩
  have k3 := p_classes none false l
  repeat' (first|(first|(refine jl ?_;first|refine j7 ?_|refine j8 ?_|refine j10 ?_|refine j11 ?_|refine jtf ?_|refine jb ?_|refine jbl ?_|refine j1 ?_|refine j2 ?_|refine j3 ?_|refine j3f ?_|refine j4 ?_|refine j5 ?_|refine j6 ?_|refine j9 ?_|refine j12 (fun id hid=>?_)|refine j13 (fun id hid=>?_)|refine j14 ?_|refine j15 ?_|refine j17t ?_|refine j17 ?_|refine j16 ?_|refine j18 ?_|refine j19 ?_|refine j20 ?_|refine j21 ?_|refine j23 ?_|refine j24 ?_|refine j25 ?_|refine j26 ?_|refine jeq ?_|refine jeqq ?_|refine jne ?_|refine jneq ?_|refine jxe ?_|refine jxn ?_|refine jcbq ?_|refine ji1 ?_|refine ji2 ?_|refine ji3 ?_|refine ji4 ?_|refine ji5 ?_|refine ji6 ?_|refine j22 (fun id hid=>?_)|refine jp (k1) ?_|refine jpy (k1) ?_|refine jcq (hp:=fun hc=>k1) ?_|refine jp (k2) ?_|refine jpy (k2) ?_|refine jcq (hp:=fun hc=>k2) ?_|refine jp (k3) ?_|refine jpy (k3) ?_|refine jcq (hp:=fun hc=>k3) ?_|refine jp (p_awakec) ?_|refine jpy (p_awakec) ?_|refine jcq (hp:=fun hc=>p_awakec) ?_|refine jlit ?_|refine jmk ?_|refine jap ?_)|(refine dl ?_;first|refine d7 ?_|refine d8 ?_|refine d10 ?_|refine d11 ?_|refine dtf ?_|refine dbd ?_|refine dbl ?_|refine d1 ?_|refine d2 ?_|refine d3 ?_|refine d3f ?_|refine d4 ?_|refine d9 ?_|refine d14 ?_|refine d14a ?_|refine d15 ?_|refine d16 ?_|refine d18 ?_|refine d19 ?_|refine d20 ?_|refine d21 ?_|refine d25 ?_|refine d17 ?_|refine deq ?_|refine deqq ?_|refine dne ?_|refine dneq ?_|refine dxe ?_|refine dxn ?_|refine dcb ?_|refine dcbq ?_|refine di1 ?_|refine di2 ?_|refine di3 ?_|refine di4 ?_|refine di6 ?_|refine dp (k1) ?_|refine dpy (k1) ?_|refine dpq (hp:=fun hc=>k1) ?_|refine dp (k2) ?_|refine dpy (k2) ?_|refine dpq (hp:=fun hc=>k2) ?_|refine dp (k3) ?_|refine dpy (k3) ?_|refine dpq (hp:=fun hc=>k3) ?_|refine dp (p_awakec) ?_|refine dpy (p_awakec) ?_|refine dpq (hp:=fun hc=>p_awakec) ?_)|(refine al ?_;first|refine a7 ?_|refine a8 ?_|refine a10 ?_|refine a11 ?_|refine abd ?_|refine abl ?_|refine a1 ?_|refine a2 ?_|refine a3 ?_|refine a3f ?_|refine a9 ?_|refine a14 ?_|refine a15 ?_|refine a16 ?_|refine a18 ?_|refine a21 ?_|refine a25 ?_|refine ai1 ?_|refine ai2 ?_|refine ai3 ?_|refine ai4 ?_|refine ai6 ?_|refine alit ?_|refine ap (k1) ?_|refine apy (k1) ?_|refine ap (k2) ?_|refine apy (k2) ?_|refine ap (k3) ?_|refine apy (k3) ?_|refine ap (p_awakec) ?_|refine apy (p_awakec) ?_|refine da_skip ?_|refine da_nil ?_)|(refine bl ?_;first|refine bbd ?_|refine bbl ?_|refine b1 ?_|refine b14 ?_|refine b17t ?_|refine b17 ?_|refine b25 ?_|refine db_nil ?_)|refine al_cons (fun id hid=>?_)|refine al_nil ?_|(refine jc ?_;first|refine c1 ?_|refine c2 ?_|refine c3 ?_|refine c4 ?_|refine c5 ?_|refine c6 ?_|refine c7 ?_|refine c8 ?_|refine cqa ?_|refine cqk ?_|refine cq ?_)|refine n1 ?_|refine n2 ?_|refine n3 ?_|refine n4 ?_|refine n5 ?_|refine n6 ?_|refine n7 ?_|refine n8 ?_|refine n9 ?_|refine n10 ?_|refine n13 ?_|refine n11 ?_|refine n12 ?_|refine n14 ?_|refine n15 ?_|refine n16 ?_)|(refine c9 (fun h=>?_) (fun h=>?_)<;>(try simp only [Bool.or_eq_true, Bool.and_eq_true, Bool.or_eq_false_iff, Bool.and_eq_false_iff, Bool.not_eq_true', Bool.not_eq_false', decide_eq_true_eq, decide_eq_false_iff_not, Bool.false_eq_true, Bool.true_eq_false, reduceCtorEq] at h)))
  · first | exact ge rfl | exact gvs (by (repeat' (first | exact finl_nil | apply finl_cons | exact Fin.refl _ _ _ | apply fin_pk2 | apply fin_pk3 | apply fin_agg | apply fin_tup | exact fin_nil | exact fin_sl rfl | exact fin_fz (by exact lkp) (by first | assumption | exact St.ns1 (by assumption) | exact St.ns2 (by assumption) | exact St.ns3 (by assumption) | exact St.ns4 (by assumption) | exact St.ns5 (by assumption) | exact St.ns6 (by assumption) | exact St.ns7 (by assumption) | exact St.ns8 (by assumption) | exact St.ns9 (by assumption) | exact St.ns10 (by assumption) | exact St.ns11 (by assumption) | exact St.ns12 (by assumption) | exact St.ns13 (by assumption) | exact St.ns14 (by assumption) | exact St.ns10 (by assumption) | exact St.ns11 (by assumption) | exact St.ns12 (by assumption) | exact St.ns13 (by assumption) | exact St.ns14 (by assumption)) (by first | exact rfl | assumption | (simp only [List.length_map, List.length_append, List.length_cons, List.length_nil]; done) | (simp only [List.length_map, List.length_append, List.length_cons, List.length_nil]; omega)) rfl (fun _ => rfl) | exact fin_eq rfl)))
  · obtain ⟨⟨hlt, hchk⟩, hcl⟩ := h
    obtain ⟨⟨_, a2, a3, _⟩, a5, a6, a7, _, _⟩ := lightP_of (lightB_iff hlt)
    dsimp only at a2 a3 a7
    obtain ⟨c, hc1, hc3, g1, g2, g3, g4⟩ := same_spec hchk hcl
    dsimp only at hc1 hc3 g1 g2 g3 g4
    have k4 : Pure Tryd.prog 13 [.sl none false 2 (l.map cc), .agg (fc ⟨ft, fn, vs⟩), .v (.int .i64 ft), .sl (some true) true 1 []] (.tup [.agg (fc ⟨ft, fn, vs⟩), .v (.int .i64 0)]) := by
      have := p_withA none none false false l ⟨ft, fn, vs⟩ ft [] (by show vs.length ≤ _; omega)
      rw [g1, g2] at this
      exact this.wka ⟨Wk.refl _, Wk.refl _, Wk.refl _, Wk.nil _ _ _ _, trivial⟩
    have k5 := p_find none false l fn
    rw [hc1] at k5
    dsimp only [Option.getD, Option.isSome] at k5
    have k6 := p_csame ⟨ft, fn, vs⟩ ⟨ft, fn, vs⟩
    rw [sameF_self] at k6
    have hal : (c.attrs.map str1).length = vs.length := by rw [List.length_map]; exact hc3
    have k7 := p_make none none false false l ft fn (zipB c.attrs vs) a5 (fun b hb => by
      obtain ⟨i, _, g⟩ := zipB_mem hb
      exact a7 _ (List.mem_of_getElem? g))
    rw [g3, g4] at k7
    repeat' (first|(first|(refine jl ?_;first|refine j7 ?_|refine j8 ?_|refine j10 ?_|refine j11 ?_|refine jtf ?_|refine jb ?_|refine jbl ?_|refine j1 ?_|refine j2 ?_|refine j3 ?_|refine j3f ?_|refine j4 ?_|refine j5 ?_|refine j6 ?_|refine j9 ?_|refine j12 (fun id hid=>?_)|refine j13 (fun id hid=>?_)|refine j14 ?_|refine j15 ?_|refine j17t ?_|refine j17 ?_|refine j16 ?_|refine j18 ?_|refine j19 ?_|refine j20 ?_|refine j21 ?_|refine j23 ?_|refine j24 ?_|refine j25 ?_|refine j26 ?_|refine jeq ?_|refine jeqq ?_|refine jne ?_|refine jneq ?_|refine jxe ?_|refine jxn ?_|refine jcbq ?_|refine ji1 ?_|refine ji2 ?_|refine ji3 ?_|refine ji4 ?_|refine ji5 ?_|refine ji6 ?_|refine j22 (fun id hid=>?_)|refine jp (k4) ?_|refine jpy (k4) ?_|refine jcq (hp:=fun hc=>k4) ?_|refine jp (k5) ?_|refine jpy (k5) ?_|refine jcq (hp:=fun hc=>k5) ?_|refine jp (k6) ?_|refine jpy (k6) ?_|refine jcq (hp:=fun hc=>k6) ?_|refine jlit ?_|refine jmk ?_|refine jap ?_)|(refine dl ?_;first|refine d7 ?_|refine d8 ?_|refine d10 ?_|refine d11 ?_|refine dtf ?_|refine dbd ?_|refine dbl ?_|refine d1 ?_|refine d2 ?_|refine d3 ?_|refine d3f ?_|refine d4 ?_|refine d9 ?_|refine d14 ?_|refine d14a ?_|refine d15 ?_|refine d16 ?_|refine d18 ?_|refine d19 ?_|refine d20 ?_|refine d21 ?_|refine d25 ?_|refine d17 ?_|refine deq ?_|refine deqq ?_|refine dne ?_|refine dneq ?_|refine dxe ?_|refine dxn ?_|refine dcb ?_|refine dcbq ?_|refine di1 ?_|refine di2 ?_|refine di3 ?_|refine di4 ?_|refine di6 ?_|refine dp (k4) ?_|refine dpy (k4) ?_|refine dpq (hp:=fun hc=>k4) ?_|refine dp (k5) ?_|refine dpy (k5) ?_|refine dpq (hp:=fun hc=>k5) ?_|refine dp (k6) ?_|refine dpy (k6) ?_|refine dpq (hp:=fun hc=>k6) ?_)|(refine al ?_;first|refine a7 ?_|refine a8 ?_|refine a10 ?_|refine a11 ?_|refine abd ?_|refine abl ?_|refine a1 ?_|refine a2 ?_|refine a3 ?_|refine a3f ?_|refine a9 ?_|refine a14 ?_|refine a15 ?_|refine a16 ?_|refine a18 ?_|refine a21 ?_|refine a25 ?_|refine ai1 ?_|refine ai2 ?_|refine ai3 ?_|refine ai4 ?_|refine ai6 ?_|refine alit ?_|refine ap (k4) ?_|refine apy (k4) ?_|refine ap (k5) ?_|refine apy (k5) ?_|refine ap (k6) ?_|refine apy (k6) ?_|refine da_skip ?_|refine da_nil ?_)|(refine bl ?_;first|refine bbd ?_|refine bbl ?_|refine b1 ?_|refine b14 ?_|refine b17t ?_|refine b17 ?_|refine b25 ?_|refine db_nil ?_)|refine al_cons (fun id hid=>?_)|refine al_nil ?_|(refine jc ?_;first|refine c1 ?_|refine c2 ?_|refine c3 ?_|refine c4 ?_|refine c5 ?_|refine c6 ?_|refine c7 ?_|refine c8 ?_|refine cqa ?_|refine cqk ?_|refine cq ?_)|refine n1 ?_|refine n2 ?_|refine n3 ?_|refine n4 ?_|refine n5 ?_|refine n6 ?_|refine n7 ?_|refine n8 ?_|refine n9 ?_|refine n10 ?_|refine n13 ?_|refine n11 ?_|refine n12 ?_|refine n14 ?_|refine n15 ?_|refine n16 ?_)|(refine c9 (fun h=>?_) (fun h=>?_)<;>(try simp only [Bool.or_eq_true, Bool.and_eq_true, Bool.or_eq_false_iff, Bool.and_eq_false_iff, Bool.not_eq_true', Bool.not_eq_false', decide_eq_true_eq, decide_eq_false_iff_not, Bool.false_eq_true, Bool.true_eq_false, reduceCtorEq] at h)))
    · exact absurd h (by rw [hal, hvl]; simp)
    · clear h
      first | refine cj_id 3 (fun b3 e => ?_) | refine lj_id 3 (fun b3 e => ?_)
      subst e
      first | refine cj_id 5 (fun b5 e => ?_) | refine lj_id 5 (fun b5 e => ?_)
      subst e
      first | refine cj_id 7 (fun b7 e => ?_) | refine lj_id 7 (fun b7 e => ?_)
      subst e
      refine cj_name (fun τ hτ => ?_)
      have t3 : τ b3 = some (.row 3 25 [fc ⟨ft, fn, vs⟩]) := by rw [hτ]; exact lkp
      have t7 : τ b7 = some (.row 2 54 [cc c]) := by rw [hτ]; exact lkp
      have hle : σ.le τ := by rw [hτ]; repeat' (first | exact St.le_refl _ | refine St.le_any ?_)
      clear hτ
      refine cj_ghost (ghost_nil (t := 9) 4 51 rfl (fun w0 hw0 => ?_))
      refine cj_for (fun s : Nat × Nat => s.1 ≤ vs.length ∧ τ s.2 = none) (fun s => [(10, .v (.int .i64 s.1)), (9, .osl s.2 4 0 s.1)]) (fun s => τ.set s.2 (.row 4 51 (((zipB c.attrs vs).take s.1).map bc))) (fun s => vs.length - s.1) (0, w0) ⟨Nat.zero_le _, hw0⟩ ⟨⟨_, rfl, fun _ _ h => h⟩, ⟨_, rfl, fun _ _ h => h⟩, trivial⟩ (St.le_refl _) (fun s hs => ?_)
      obtain ⟨i, w⟩ := s
      obtain ⟨hi, hw⟩ := hs
      dsimp only at hi hw ⊢
      have hzl : (zipB c.attrs vs).length = vs.length := by rw [← List.length_map (f := Bd.name), zipB_names _ _ hc3]; exact hc3
      have hbl : (((zipB c.attrs vs).take i).map bc).length = i := by rw [List.length_map, List.length_take]; omega
      by_cases hlt : i < vs.length
      · obtain ⟨a, ha⟩ : ∃ a, c.attrs[i]? = some a := ⟨_, List.getElem?_eq_getElem (by omega)⟩
        obtain ⟨v, hv⟩ : ∃ v, vs[i]? = some v := ⟨_, List.getElem?_eq_getElem hlt⟩
        have h4 := get_map str1 ha
        have h5 := get_map vc hv
        have hz := zipB_get ha hv
        have hall : (((zipB c.attrs vs).take i).map bc).take i ++ [bc ⟨a, v⟩] = ((zipB c.attrs vs).take (i + 1)).map bc := by
          rw [List.take_of_length_le (by omega), List.take_add_one, hz, List.map_append]; rfl
        repeat' (first|(first|(refine jl ?_;first|refine j7 ?_|refine j8 ?_|refine j10 ?_|refine j11 ?_|refine jtf ?_|refine jb ?_|refine jbl ?_|refine j1 ?_|refine j2 ?_|refine j3 ?_|refine j3f ?_|refine j4 ?_|refine j5 ?_|refine j6 ?_|refine j9 ?_|refine j12 (fun id hid=>?_)|refine j13 (fun id hid=>?_)|refine j14 ?_|refine j15 ?_|refine j17t ?_|refine j17 ?_|refine j16 ?_|refine j18 ?_|refine j19 ?_|refine j20 ?_|refine j21 ?_|refine j23 ?_|refine j24 ?_|refine j25 ?_|refine j26 ?_|refine jeq ?_|refine jeqq ?_|refine jne ?_|refine jneq ?_|refine jxe ?_|refine jxn ?_|refine jcbq ?_|refine ji1 ?_|refine ji2 ?_|refine ji3 ?_|refine ji4 ?_|refine ji5 ?_|refine ji6 ?_|refine j22 (fun id hid=>?_)|refine jlit ?_|refine jmk ?_|refine jap ?_)|(refine dl ?_;first|refine d7 ?_|refine d8 ?_|refine d10 ?_|refine d11 ?_|refine dtf ?_|refine dbd ?_|refine dbl ?_|refine d1 ?_|refine d2 ?_|refine d3 ?_|refine d3f ?_|refine d4 ?_|refine d9 ?_|refine d14 ?_|refine d14a ?_|refine d15 ?_|refine d16 ?_|refine d18 ?_|refine d19 ?_|refine d20 ?_|refine d21 ?_|refine d25 ?_|refine d17 ?_|refine deq ?_|refine deqq ?_|refine dne ?_|refine dneq ?_|refine dxe ?_|refine dxn ?_|refine dcb ?_|refine dcbq ?_|refine di1 ?_|refine di2 ?_|refine di3 ?_|refine di4 ?_|refine di6 ?_)|(refine al ?_;first|refine a7 ?_|refine a8 ?_|refine a10 ?_|refine a11 ?_|refine abd ?_|refine abl ?_|refine a1 ?_|refine a2 ?_|refine a3 ?_|refine a3f ?_|refine a9 ?_|refine a14 ?_|refine a15 ?_|refine a16 ?_|refine a18 ?_|refine a21 ?_|refine a25 ?_|refine ai1 ?_|refine ai2 ?_|refine ai3 ?_|refine ai4 ?_|refine ai6 ?_|refine alit ?_|refine da_skip ?_|refine da_nil ?_)|(refine bl ?_;first|refine bbd ?_|refine bbl ?_|refine b1 ?_|refine b14 ?_|refine b17t ?_|refine b17 ?_|refine b25 ?_|refine db_nil ?_)|refine al_cons (fun id hid=>?_)|refine al_nil ?_|(refine jc ?_;first|refine c1 ?_|refine c2 ?_|refine c3 ?_|refine c4 ?_|refine c5 ?_|refine c6 ?_|refine c7 ?_|refine cqe 13 false ?_|refine c8 ?_|refine cqa ?_|refine cqk ?_|refine cq ?_)|refine n1 ?_|refine n2 ?_|refine n3 ?_|refine n4 ?_|refine n5 ?_|refine n6 ?_|refine n7 ?_|refine n8 ?_|refine n9 ?_|refine n10 ?_|refine n13 ?_|refine n11 ?_|refine n12 ?_|refine n14 ?_|refine n15 ?_|refine n16 ?_)|(refine c9 (fun h=>?_) (fun h=>?_)<;>((try simp only [Bool.or_eq_true, Bool.and_eq_true, Bool.or_eq_false_iff, Bool.and_eq_false_iff, Bool.not_eq_true', Bool.not_eq_false', decide_eq_true_eq, decide_eq_false_iff_not, Bool.false_eq_true, Bool.true_eq_false, reduceCtorEq] at h) <;> (try simp (disch := omega) only [sb_bt, w64, Int.reduceAdd, Int.reduceToNat, Int.toNat_natCast, not_true_eq_false, false_or] at h) <;> (try (exfalso; omega)))))
        all_goals (clear k1 k2 k3 k4 k5 k6 k7)
        refine bapo (n := i) (m := i + 1) (news := [bc ⟨a, v⟩]) (fun w' hw' => ?_) hall rfl (hn := by omega) (hb := by dsimp only [List.length]; omega)
        repeat (first|(refine jl ?_;first|refine j7 ?_|refine j8 ?_|refine j10 ?_|refine j11 ?_|refine jtf ?_|refine jb ?_|refine jbl ?_|refine j1 ?_|refine j2 ?_|refine j3 ?_|refine j3f ?_|refine j4 ?_|refine j5 ?_|refine j6 ?_|refine j9 ?_|refine j12 (fun id hid=>?_)|refine j13 (fun id hid=>?_)|refine j14 ?_|refine j15 ?_|refine j17t ?_|refine j17 ?_|refine j16 ?_|refine j18 ?_|refine j19 ?_|refine j20 ?_|refine j21 ?_|refine j23 ?_|refine j24 ?_|refine j25 ?_|refine j26 ?_|refine jeq ?_|refine jeqq ?_|refine jne ?_|refine jneq ?_|refine jxe ?_|refine jxn ?_|refine jcbq ?_|refine ji1 ?_|refine ji2 ?_|refine ji3 ?_|refine ji4 ?_|refine ji5 ?_|refine ji6 ?_|refine j22 (fun id hid=>?_)|refine jlit ?_|refine jmk ?_|refine jap ?_)|(refine dl ?_;first|refine d7 ?_|refine d8 ?_|refine d10 ?_|refine d11 ?_|refine dtf ?_|refine dbd ?_|refine dbl ?_|refine d1 ?_|refine d2 ?_|refine d3 ?_|refine d3f ?_|refine d4 ?_|refine d9 ?_|refine d14 ?_|refine d14a ?_|refine d15 ?_|refine d16 ?_|refine d18 ?_|refine d19 ?_|refine d20 ?_|refine d21 ?_|refine d25 ?_|refine d17 ?_|refine deq ?_|refine deqq ?_|refine dne ?_|refine dneq ?_|refine dxe ?_|refine dxn ?_|refine dcb ?_|refine dcbq ?_|refine di1 ?_|refine di2 ?_|refine di3 ?_|refine di4 ?_|refine di6 ?_)|(refine al ?_;first|refine a7 ?_|refine a8 ?_|refine a10 ?_|refine a11 ?_|refine abd ?_|refine abl ?_|refine a1 ?_|refine a2 ?_|refine a3 ?_|refine a3f ?_|refine a9 ?_|refine a14 ?_|refine a15 ?_|refine a16 ?_|refine a18 ?_|refine a21 ?_|refine a25 ?_|refine ai1 ?_|refine ai2 ?_|refine ai3 ?_|refine ai4 ?_|refine ai6 ?_|refine alit ?_|refine da_skip ?_|refine da_nil ?_)|(refine bl ?_;first|refine bbd ?_|refine bbl ?_|refine b1 ?_|refine b14 ?_|refine b17t ?_|refine b17 ?_|refine b25 ?_|refine db_nil ?_)|refine al_cons (fun id hid=>?_)|refine al_nil ?_|(refine jc ?_;first|refine c1 ?_|refine c2 ?_|refine c3 ?_|refine c4 ?_|refine c5 ?_|refine c6 ?_|refine c7 ?_|refine c8 ?_|refine cqa ?_|refine cqk ?_|refine cq ?_)|refine n1 ?_|refine n2 ?_|refine n3 ?_|refine n4 ?_|refine n5 ?_|refine n6 ?_|refine n7 ?_|refine n8 ?_|refine n9 ?_|refine n10 ?_|refine n13 ?_|refine n11 ?_|refine n12 ?_|refine n14 ?_|refine n15 ?_|refine n16 ?_)
        exact nx_forS (i + 1, w') ⟨by dsimp only; omega, St.ns1 hw'⟩ (by dsimp only; omega) ⟨⟨_, rfl, wk1 (by omega)⟩, ⟨_, rfl, Wk.refl _⟩, trivial⟩ (St.le_setk (St.le_any (St.le_del (St.le_any (St.le_refl _) hw) hw) (St.ns1 hw')) (St.set_same _ _ _))
      · obtain rfl : i = vs.length := by omega
        have htk : (zipB c.attrs vs).take vs.length = zipB c.attrs vs := List.take_of_length_le (by omega)
        rw [htk] at hbl ⊢
        refine cj_freeze 9 (els := (zipB c.attrs vs).map bc) rfl (St.set_same _ _ _) hbl.symm (by decide) ?_
        rw [St.del_set hw]
        repeat' (first|(first|(refine jl ?_;first|refine j7 ?_|refine j8 ?_|refine j10 ?_|refine j11 ?_|refine jtf ?_|refine jb ?_|refine jbl ?_|refine j1 ?_|refine j2 ?_|refine j3 ?_|refine j3f ?_|refine j4 ?_|refine j5 ?_|refine j6 ?_|refine j9 ?_|refine j12 (fun id hid=>?_)|refine j13 (fun id hid=>?_)|refine j14 ?_|refine j15 ?_|refine j17t ?_|refine j17 ?_|refine j16 ?_|refine j18 ?_|refine j19 ?_|refine j20 ?_|refine j21 ?_|refine j23 ?_|refine j24 ?_|refine j25 ?_|refine j26 ?_|refine jeq ?_|refine jeqq ?_|refine jne ?_|refine jneq ?_|refine jxe ?_|refine jxn ?_|refine jcbq ?_|refine ji1 ?_|refine ji2 ?_|refine ji3 ?_|refine ji4 ?_|refine ji5 ?_|refine ji6 ?_|refine j22 (fun id hid=>?_)|refine jp (k7) ?_|refine jpy (k7) ?_|refine jcq (hp:=fun hc=>k7) ?_|refine jp (k6) ?_|refine jpy (k6) ?_|refine jcq (hp:=fun hc=>k6) ?_|refine jp (p_awakec) ?_|refine jpy (p_awakec) ?_|refine jcq (hp:=fun hc=>p_awakec) ?_|refine jlit ?_|refine jmk ?_|refine jap ?_)|(refine dl ?_;first|refine d7 ?_|refine d8 ?_|refine d10 ?_|refine d11 ?_|refine dtf ?_|refine dbd ?_|refine dbl ?_|refine d1 ?_|refine d2 ?_|refine d3 ?_|refine d3f ?_|refine d4 ?_|refine d9 ?_|refine d14 ?_|refine d14a ?_|refine d15 ?_|refine d16 ?_|refine d18 ?_|refine d19 ?_|refine d20 ?_|refine d21 ?_|refine d25 ?_|refine d17 ?_|refine deq ?_|refine deqq ?_|refine dne ?_|refine dneq ?_|refine dxe ?_|refine dxn ?_|refine dcb ?_|refine dcbq ?_|refine di1 ?_|refine di2 ?_|refine di3 ?_|refine di4 ?_|refine di6 ?_|refine dp (k7) ?_|refine dpy (k7) ?_|refine dpq (hp:=fun hc=>k7) ?_|refine dp (k6) ?_|refine dpy (k6) ?_|refine dpq (hp:=fun hc=>k6) ?_|refine dp (p_awakec) ?_|refine dpy (p_awakec) ?_|refine dpq (hp:=fun hc=>p_awakec) ?_)|(refine al ?_;first|refine a7 ?_|refine a8 ?_|refine a10 ?_|refine a11 ?_|refine abd ?_|refine abl ?_|refine a1 ?_|refine a2 ?_|refine a3 ?_|refine a3f ?_|refine a9 ?_|refine a14 ?_|refine a15 ?_|refine a16 ?_|refine a18 ?_|refine a21 ?_|refine a25 ?_|refine ai1 ?_|refine ai2 ?_|refine ai3 ?_|refine ai4 ?_|refine ai6 ?_|refine alit ?_|refine ap (k7) ?_|refine apy (k7) ?_|refine ap (k6) ?_|refine apy (k6) ?_|refine ap (p_awakec) ?_|refine apy (p_awakec) ?_|refine da_skip ?_|refine da_nil ?_)|(refine bl ?_;first|refine bbd ?_|refine bbl ?_|refine b1 ?_|refine b14 ?_|refine b17t ?_|refine b17 ?_|refine b25 ?_|refine db_nil ?_)|refine al_cons (fun id hid=>?_)|refine al_nil ?_|(refine jc ?_;first|refine c1 ?_|refine c2 ?_|refine c3 ?_|refine c4 ?_|refine c5 ?_|refine c6 ?_|refine c7 ?_|refine c8 ?_|refine cqa ?_|refine cqk ?_|refine cq ?_)|refine n1 ?_|refine n2 ?_|refine n3 ?_|refine n4 ?_|refine n5 ?_|refine n6 ?_|refine n7 ?_|refine n8 ?_|refine n9 ?_|refine n10 ?_|refine n13 ?_|refine n11 ?_|refine n12 ?_|refine n14 ?_|refine n15 ?_|refine n16 ?_)|(refine c9 (fun h=>?_) (fun h=>?_)<;>((try simp only [Bool.or_eq_true, Bool.and_eq_true, Bool.or_eq_false_iff, Bool.and_eq_false_iff, Bool.not_eq_true', Bool.not_eq_false', decide_eq_true_eq, decide_eq_false_iff_not, Bool.false_eq_true, Bool.true_eq_false, reduceCtorEq] at h) <;> (try simp (disch := omega) only [sb_bt, w64, Int.reduceAdd, Int.reduceToNat, Int.toNat_natCast, not_true_eq_false, false_or] at h) <;> (try (exfalso; omega)))))
        exact ge (congrArg (fun b => AV.v (Value.bool b)) (by simp)) (St.le_any hle (St.none_le hle hid))
end Go.Proofs.YtcpokdjppedaoaaDoor.Ab

/- From a contract over abstract values to the row's own words. -/
set_option linter.unusedVariables false
set_option linter.unusedSimpArgs false
set_option maxRecDepth 20000
namespace Go.Proofs.YtcpokdjppedaoaaDoor.Ab
open Go Go.RowKit Go Go.RowKit

def k0 (w : World) : Cx := { ρ := fun _ => none, top := 0, σ := fun _ => none, base := w.heap.size, w := w }
theorem k0_ok {w : World} (hg : Ground w.heap.size w) : Ok (k0 w) := ⟨fun id h => absurd rfl h, fun id id' b h => absurd rfl h, fun id b h => absurd rfl h, Nat.le_refl _, (fun id o h => by cases h), hg⟩
theorem k0_live (w : World) (b : Nat) : ¬ (k0 w).live b := fun ⟨id, h, _⟩ => h rfl
theorem pure_start {P : Program} {f : FuncId} {args : List AV} {x : Value} (h : Pure P f args (.v x)) (w : World) (hg : Ground w.heap.size w) (vs : List Value) (hv : Reps (k0 w) args vs) : Calls P f vs.toArray w (fun e w' => e = .returned x ∧ Below w.heap.size w w') :=
  (h _ (k0 w) vs rfl (k0_ok hg) hv).mono fun e w' ⟨k', e', h1, h2, h3, h4, h5, h6⟩ => by
    subst h5; subst h1
    cases e with
    | returned v =>
      cases h4
      exact ⟨rfl, h3.os, h3.tape, h3.output, h3.size, fun b hb => (h3.frz b hb (k0_live w b)).1⟩
    | panicked ch => exact h4.elim
    | outgrown => exact h4.elim
theorem reps_nil (k : Cx) : Reps k [] [] := ⟨rfl, fun j a u h _ => by simp at h⟩
theorem reps_cons {k : Cx} {a : AV} {v : Value} {l : List AV} {vs : List Value} (h : Rep k a v) (h' : Reps k l vs) : Reps k (a :: l) (v :: vs) := by
  refine ⟨by simp [h'.1], fun j b u hb hu => ?_⟩
  cases j with
  | zero => simp at hb hu; subst hb; subst hu; exact h
  | succ j => exact h'.2 j b u (by simpa using hb) (by simpa using hu)

/-- What is told of a slice of integers that came in. -/
def IsRow (k : IntKind) (w : World) (a : Option Addr) (len cap : Nat) (zs : List Int) : Prop :=
  (a = none ∧ len = 0 ∧ cap = 0 ∧ zs = []) ∨
  ∃ x, a = some x ∧ len ≤ cap ∧ cap ≤ maxLen ∧ zs.length = cap ∧ (∀ i, i < zs.length → w.cell? (x.add i) = some (.int k (zs.getD i 0))) ∧ ∀ n ∈ zs, (Lit.int k n).wf = true
theorem okWide_spot {P : Program} {w : World} {base : Nat} {t e : TypeId} {a : Addr} {len cap : Nat} (ht : P.underlying t = some (.slice e)) (h : Value.okWide P w .any base t (.slice (some a) len cap)) : a.spot = none ∧ a.block < w.heap.size := by
  have h' : Cell.ok P w .any base t (.slice (some a) len cap) := by
    simpa [Value.okWide, Cell.okWide, ht] using h
  have h2 : len ≤ cap ∧ (cap : Int) ≤ IntKind.i64.max ∧ w.has P .any base a e cap := by simpa [Cell.ok, ht] using h'
  obtain ⟨_, _, _, h3, row, cells, h4, _⟩ := h2
  refine ⟨h3, ?_⟩
  unfold World.shape? at h4
  split at h4
  · rename_i h5; exact (Array.getElem?_eq_some_iff.1 h5).1
  · cases h4
theorem isrow_rep {P : Program} {w : World} {base : Nat} {t e : TypeId} {k : IntKind} {a : Option Addr} {len cap : Nat} {zs : List Int} (ht : P.underlying t = some (.slice e)) (hw : Value.okWide P w .any base t (.slice a len cap)) (h : IsRow k w a len cap zs) : Rep (k0 w) (.sl none false 1 ((zs.take len).map fun z => [.v (.int k z)])) (.slice a len cap) := by
  rcases h with ⟨rfl, rfl, rfl, rfl⟩ | ⟨x, rfl, h1, h2, h3, h4, h5⟩
  · exact .slnil (by simp)
  · obtain ⟨hs, hlt⟩ := okWide_spot ht hw
    obtain ⟨b, o, spot⟩ := x
    simp only at hs hlt
    subst hs
    have hl : ((zs.take len).map fun z => [AV.v (.int k z)]).length = len := by simp; omega
    have hgoal : Rep (k0 w) (.sl none false 1 ((zs.take len).map fun z => [AV.v (.int k z)])) (.slice (some ⟨b, o, none⟩) ((zs.take len).map fun z => [AV.v (.int k z)]).length cap) := by
      have hget : ∀ (i j : Nat) e a, ((zs.take len).map fun z => [AV.v (.int k z)])[i]? = some e → e[j]? = some a → j = 0 ∧ i < zs.length ∧ a = .v (.int k (zs.getD i 0)) := fun i j e a he ha => by
        simp only [List.getElem?_map, Option.map_eq_some_iff] at he
        obtain ⟨z, hz, rfl⟩ := he
        rw [List.getElem?_take] at hz
        split at hz
        · cases j with
          | zero =>
            have : zs.getD i 0 = z := by rw [List.getD_eq_getElem?_getD, hz]; rfl
            simp at ha
            exact ⟨rfl, (List.getElem?_eq_some_iff.1 hz).1, by rw [← ha, this]⟩
          | succ j => simp at ha
        · cases hz
      refine .sl (f := fun i j => .int k (zs.getD i 0)) (by simp) (by omega) (by omega) (by simp) (fun i e he => ?_) (fun _ => ⟨hlt, k0_live w b⟩) (fun i j e a he ha => ?_) (fun i j e a he ha => ?_)
      · simp only [List.getElem?_map, Option.map_eq_some_iff] at he
        obtain ⟨_, _, rfl⟩ := he
        rfl
      · obtain ⟨rfl, hi, _⟩ := hget i j e a he ha
        have := h4 i hi
        rw [Go.WideShapes.add_plain] at this
        refine ⟨?_, rfl⟩
        simpa [k0] using this
      · obtain ⟨rfl, hi, rfl⟩ := hget i j e a he ha
        exact .v rfl
    rw [hl] at hgoal
    exact hgoal
theorem isrow_mem {k : IntKind} {w : World} {a : Option Addr} {len cap : Nat} {zs : List Int} (h : IsRow k w a len cap zs) : ∀ n ∈ zs, (Lit.int k n).wf = true := by
  rcases h with ⟨_, _, _, rfl⟩ | ⟨_, _, _, _, _, _, h⟩
  · intro n hn; cases hn
  · exact h
theorem wf_u8 {n : Int} (h : (Lit.int .u8 n).wf = true) : 0 ≤ n ∧ n < 256 := by
  have := bounds_u8 h
  omega
theorem wf_i64 {n : Int} (h : (Lit.int .i64 n).wf = true) : -9223372036854775808 ≤ n ∧ n < 9223372036854775808 := by
  have := bounds_i64 h
  omega
theorem isrow_bytes {w : World} {a : Option Addr} {len cap : Nat} {zs : List Int} (h : IsRow .u8 w a len cap zs) : ((zs.take len).map fun z => [AV.v (.int .u8 z)]) = bys ((zs.take len).map fun z => UInt8.ofNat z.toNat) := by
  unfold bys
  rw [List.map_map]
  refine List.map_congr_left fun z hz => ?_
  obtain ⟨h0, h1⟩ := wf_u8 (isrow_mem h z (List.mem_of_mem_take hz))
  simp only [Function.comp_apply, List.cons.injEq, AV.v.injEq, Value.int.injEq, true_and, and_true]
  have : (UInt8.ofNat z.toNat).toNat = z.toNat := by simp; omega
  omega
end Go.Proofs.YtcpokdjppedaoaaDoor.Ab

/- What came in, opened: from the row's own reading to abstract values, for any type of numbers, strings, bools, structs, arrays and slices. -/
set_option linter.unusedVariables false
set_option linter.unusedSimpArgs false
set_option maxRecDepth 20000
namespace Go.Proofs.YtcpokdjppedaoaaDoor.Ab
open Go Go.RowKit

def inFields (P : Program) (R : TypeId → List AV → Prop) : List Field → List AV → Prop
  | [], cs => cs = []
  | f :: fs, cs => ∃ a b, cs = a ++ b ∧ a.length = P.cellsOf f.type ∧ R f.type a ∧ inFields P R fs b
def inElems (R : List AV → Prop) (sz : Nat) : Nat → List AV → Prop
  | 0, cs => cs = []
  | n + 1, cs => ∃ a b, cs = a ++ b ∧ a.length = sz ∧ R a ∧ inElems R sz n b
/-- The cells of a value of type t. -/
def isAV (P : Program) : Nat → TypeId → List AV → Prop
  | 0, _, _ => False
  | n + 1, t, cs => match P.underlying t with
    | some .bool => ∃ b, cs = [.v (.bool b)]
    | some (.int k) => ∃ m, cs = [.v (.int k m)] ∧ (Lit.int k m).wf = true
    | some .string => ∃ s, cs = [.v (.string s)] ∧ s.size ≤ maxLen
    | some (.slice e) => ∃ els, cs = [.sl none false (P.cellsOf e) els] ∧ els.length ≤ maxLen ∧ ∀ el ∈ els, el.length = P.cellsOf e ∧ isAV P n e el
    | some (.struct fs) => inFields P (isAV P n) fs.toList cs
    | some (.array m e) => inElems (isAV P n e) (P.cellsOf e) m cs
    | _ => False
def tile (P : Program) : List Field → Nat → Option Nat
  | [], o => some o
  | f :: fs, o => if f.offset = o then tile P fs (o + P.cellsOf f.type) else none
/-- Types that are opened so. -/
def plainT (P : Program) : Nat → TypeId → Bool
  | 0, _ => false
  | n + 1, t => match P.underlying t with
    | some .bool | some (.int _) | some .string => true
    | some (.slice e) => Nat.blt 0 (P.cellsOf e) && plainT P n e
    | some (.struct fs) => decide (tile P fs.toList 0 = some (P.cellsOf t)) && fs.toList.all (fun f => plainT P n f.type)
    | some (.array m e) => decide (m * P.cellsOf e = P.cellsOf t) && plainT P n e
    | _ => false
theorem CellsRep.append {k : Cx} {a b : List AV} {u v : List Value} (h : CellsRep k a u) (h' : CellsRep k b v) : CellsRep k (a ++ b) (u ++ v) := by
  refine ⟨by simp [h.1, h'.1], fun j x y hx hy => ?_⟩
  rcases Nat.lt_or_ge j a.length with hlt | hge
  · rw [List.getElem?_append_left hlt] at hx
    rw [List.getElem?_append_left (by rw [h.1]; exact hlt)] at hy
    exact h.2 j x y hx hy
  · rw [List.getElem?_append_right hge] at hx
    rw [List.getElem?_append_right (by rw [h.1]; exact hge), h.1] at hy
    exact h'.2 _ x y hx hy
theorem cellsRep_one {k : Cx} {a : AV} {u : Value} (h1 : u.oneCell' = true) (h : Rep k a u) : CellsRep k [a] [u] := by
  refine ⟨rfl, fun j x y hx hy => ?_⟩
  cases j with
  | zero => simp at hx hy; subst hx; subst hy; exact ⟨h1, h⟩
  | succ j => simp at hx
theorem cellsRep_nil (k : Cx) : CellsRep k [] [] := ⟨rfl, fun j x y hx => by simp at hx⟩
section
variable {H : Type} {enc : TypeId × Value → H} {P : Program} {w : World} {held : Bool}
theorem open_fields {n fuel : Nat} (ih : ∀ (t : TypeId) (cs : List Value) (x : DataW H × List MemPlace), plainT P n t = true → DataW.trod enc P w 0 (fun _ => true) held fuel t cs = some x → ∃ avs, isAV P n t avs ∧ CellsRep (k0 w) avs cs) :
    ∀ (fs : List Field) (o e : Nat) (cs : List Value), tile P fs o = some e → cs.length = e → fs.all (fun f => plainT P n f.type) = true →
      (∀ f ∈ fs, ∃ x, DataW.trod enc P w 0 (fun _ => true) held fuel f.type ((cs.drop f.offset).take (P.cellsOf f.type)) = some x) → ∃ avs, inFields P (isAV P n) fs avs ∧ CellsRep (k0 w) avs (cs.drop o) ∧ o ≤ e
  | [], o, e, cs, ht, hl, _, _ => by
    simp only [tile, Option.some.injEq] at ht
    exact ⟨[], rfl, by rw [List.drop_of_length_le (by omega)]; exact cellsRep_nil _, by omega⟩
  | f :: fs, o, e, cs, ht, hl, hp, hx => by
    unfold tile at ht
    split at ht
    · rename_i ho
      rw [List.all_cons, Bool.and_eq_true] at hp
      obtain ⟨avs, h1, h2, h3⟩ := open_fields ih fs _ e cs ht hl hp.2 (fun g hg => hx g (.tail _ hg))
      obtain ⟨x, hx1⟩ := hx f (.head _)
      obtain ⟨a, h4, h5⟩ := ih f.type _ x hp.1 hx1
      rw [ho] at h5
      refine ⟨a ++ avs, ⟨a, avs, rfl, ?_, h4, h1⟩, ?_, by omega⟩
      · rw [← h5.1, List.length_take, List.length_drop]; omega
      · have e1 : cs.drop o = (cs.drop o).take (P.cellsOf f.type) ++ cs.drop (o + P.cellsOf f.type) := by
          rw [← List.drop_drop, List.take_append_drop]
        rw [e1]
        exact h5.append h2
    · cases ht
theorem open_elems {n fuel : Nat} {e : TypeId} (ih : ∀ (cs : List Value) (x : DataW H × List MemPlace), DataW.trod enc P w 0 (fun _ => true) held fuel e cs = some x → ∃ avs, isAV P n e avs ∧ CellsRep (k0 w) avs cs) :
    ∀ (m : Nat) (cs : List Value), cs.length = m * P.cellsOf e → (∀ i, i < m → ∃ x, DataW.trod enc P w 0 (fun _ => true) held fuel e ((cs.drop (i * P.cellsOf e)).take (P.cellsOf e)) = some x) → ∃ avs, inElems (isAV P n e) (P.cellsOf e) m avs ∧ CellsRep (k0 w) avs cs
  | 0, cs, hl, _ => by
    have : cs = [] := List.eq_nil_of_length_eq_zero (by simpa using hl)
    subst this
    exact ⟨[], rfl, cellsRep_nil _⟩
  | m + 1, cs, hl, hx => by
    have hl' : cs.length = m * P.cellsOf e + P.cellsOf e := by rw [hl, Nat.add_mul, Nat.one_mul]
    obtain ⟨x, hx0⟩ := hx 0 (by omega)
    rw [Nat.zero_mul, List.drop_zero] at hx0
    obtain ⟨a, h1, h2⟩ := ih _ x hx0
    obtain ⟨b, h3, h4⟩ := open_elems ih m (cs.drop (P.cellsOf e)) (by rw [List.length_drop]; omega) (fun i hi => by
      obtain ⟨y, hy⟩ := hx (i + 1) (by omega)
      rw [Nat.add_mul, Nat.one_mul] at hy
      rw [List.drop_drop, Nat.add_comm (P.cellsOf e)]
      exact ⟨y, hy⟩)
    refine ⟨a ++ b, ⟨a, b, rfl, by rw [← h2.1, List.length_take]; omega, h1, h3⟩, ?_⟩
    rw [← List.take_append_drop (P.cellsOf e) cs]
    exact h2.append h4
theorem cells_get {a : Addr} {n : Nat} {cs : List Value} (h : w.cells? 0 a n = some cs) : cs.length = n ∧ ∀ j, j < n → ∃ u, cs[j]? = some u ∧ w.cell? (a.add j) = some u := by
  unfold World.cells? at h
  rw [if_pos (Nat.zero_le _)] at h
  refine ⟨by simpa using mapM_some_length h, fun j hj => ?_⟩
  have := mapM_some_get h j j (by simp [hj])
  have hl : j < cs.length := by rw [show cs.length = n by simpa using mapM_some_length h]; exact hj
  exact ⟨cs[j], List.getElem?_eq_getElem hl, by rw [this, List.getElem?_eq_getElem hl]⟩
theorem cell_plain {a : Addr} {u : Value} (h : w.cell? a = some u) : a.spot = none ∧ a.block < w.heap.size := by
  unfold World.cell? at h
  split at h
  · rename_i c t f hb
    split at h
    · cases h
    · rename_i hs
      exact ⟨by cases hh : a.spot <;> simp_all, (Array.getElem?_eq_some_iff.1 hb).1⟩
  · cases h
theorem choose_list {α : Type} {Q : Nat → α → Prop} : ∀ (n : Nat), (∀ i, i < n → ∃ x, Q i x) → ∃ l : List α, l.length = n ∧ ∀ i x, l[i]? = some x → Q i x
  | 0, _ => ⟨[], rfl, fun i x h => by simp at h⟩
  | n + 1, h => by
    obtain ⟨l, h1, h2⟩ := choose_list n (fun i hi => h i (by omega))
    obtain ⟨x, hx⟩ := h n (by omega)
    refine ⟨l ++ [x], by simp [h1], fun i y hy => ?_⟩
    rcases Nat.lt_or_ge i l.length with hlt | hge
    · rw [List.getElem?_append_left hlt] at hy
      exact h2 i y hy
    · rw [List.getElem?_append_right hge] at hy
      rcases Nat.eq_zero_or_pos (i - l.length) with h0 | h0
      · rw [h0] at hy
        simp at hy
        subst hy
        rwa [show i = n by omega]
      · rw [List.getElem?_eq_none (by simp; omega)] at hy
        cases hy
theorem open_cells : ∀ (n : Nat) (t : TypeId) (fuel : Nat) (cs : List Value) (x : DataW H × List MemPlace), plainT P n t = true → DataW.trod enc P w 0 (fun _ => true) held fuel t cs = some x → ∃ avs, isAV P n t avs ∧ CellsRep (k0 w) avs cs
  | 0, _, _, _, _, h, _ => by cases h
  | n + 1, t, fuel, cs, x, hp, h => by
    unfold plainT at hp
    split at hp
    · rename_i ht
      obtain ⟨b, rfl, _⟩ := DataW.trod_bool ht h
      exact ⟨_, by simp only [isAV, ht]; exact ⟨b, rfl⟩, cellsRep_one rfl (.v rfl)⟩
    · rename_i kk ht
      obtain ⟨m, rfl, _, hw⟩ := DataW.trod_int ht h
      exact ⟨_, by simp only [isAV, ht]; exact ⟨m, rfl, hw⟩, cellsRep_one rfl (.v rfl)⟩
    · rename_i ht
      obtain ⟨s, rfl, _, hs⟩ := DataW.trod_string ht h
      exact ⟨_, by simp only [isAV, ht]; exact ⟨s, rfl, hs⟩, cellsRep_one rfl (.v rfl)⟩
    · rename_i e ht
      rw [Bool.and_eq_true, Nat.blt_eq] at hp
      obtain ⟨hpos, hpe⟩ := hp
      rcases DataW.trod_slice ht h with ⟨rfl, _⟩ | ⟨a, len, cap, elems, rest, fu, rfl, rfl, _, _, hlc, hcm, hel, hget, hsp, _⟩
      · exact ⟨_, by simp only [isAV, ht]; exact ⟨[], rfl, by simp [maxLen], fun el h => by cases h⟩, cellsRep_one rfl (.slnil (by simp))⟩
      · obtain ⟨hrl, hrest⟩ := hsp rfl
        have hcell : ∀ i, i < len → ∃ (el : List AV × (Nat → Value)), (el.1.length = P.cellsOf e ∧ isAV P n e el.1) ∧ ∀ j b, el.1[j]? = some b → w.cell? ((a.add (i * P.cellsOf e)).add j) = some (el.2 j) ∧ (el.2 j).oneCell' = true ∧ Rep (k0 w) b (el.2 j) := fun i hi => by
          have h1 := hget i hi
          rw [List.getElem?_eq_getElem (show i < elems.length by omega), Option.bind_eq_some_iff] at h1
          obtain ⟨ci, h2, h3⟩ := h1
          obtain ⟨avs, h4, h5⟩ := open_cells n e fu ci _ hpe h3
          obtain ⟨h6, h7⟩ := cells_get h2
          refine ⟨(avs, fun j => (ci[j]?).getD undef), ⟨by rw [← h6, h5.1], h4⟩, fun j b hb => ?_⟩
          have hj : j < ci.length := by rw [h5.1]; exact (List.getElem?_eq_some_iff.1 hb).1
          obtain ⟨u, h8, h9⟩ := h7 j (by omega)
          simp only [h8, Option.getD_some]
          exact ⟨h9, h5.2 j b u hb h8⟩
        obtain ⟨els, hl, hels⟩ := choose_list len hcell
        have hav : isAV P (n + 1) t [.sl none false (P.cellsOf e) (els.map (·.1))] := by
          simp only [isAV, ht]
          refine ⟨els.map (·.1), rfl, by rw [List.length_map]; omega, fun el hm => ?_⟩
          obtain ⟨p, hpm, rfl⟩ := List.mem_map.1 hm
          obtain ⟨i, hi⟩ := List.mem_iff_getElem?.1 hpm
          exact (hels i p hi).1
        refine ⟨_, hav, cellsRep_one rfl ?_⟩
        by_cases hc0 : cap = 0
        · subst hc0
          have h0 : len = 0 := by omega
          subst h0
          rw [List.eq_nil_of_length_eq_zero hl]
          exact .sle (by simp)
        · have hplain : ∃ b o, a = ⟨b, o, none⟩ ∧ b < w.heap.size := by
            have hfirst : ∃ cs, w.cells? 0 a (P.cellsOf e) = some cs := by
              by_cases hl0 : 0 < len
              · have h1 := hget 0 hl0
                rw [List.getElem?_eq_getElem (show 0 < elems.length by omega), Option.bind_eq_some_iff] at h1
                obtain ⟨ci, h2, _⟩ := h1
                rw [Nat.zero_mul] at h2
                exact ⟨ci, by simpa [Addr.add] using h2⟩
              · have h1 := hrest 0 (by omega)
                rw [List.getElem?_eq_getElem (show 0 < rest.length by omega), Option.bind_eq_some_iff] at h1
                obtain ⟨ci, h2, _⟩ := h1
                rw [show len + 0 = 0 by omega, Nat.zero_mul] at h2
                exact ⟨ci, by simpa [Addr.add] using h2⟩
            obtain ⟨ci, h2⟩ := hfirst
            obtain ⟨_, h7⟩ := cells_get h2
            obtain ⟨u, _, h9⟩ := h7 0 hpos
            have := cell_plain h9
            simp only [Addr.add, if_true] at this
            obtain ⟨b, o, s⟩ := a
            obtain ⟨h10, h11⟩ := this
            simp only at h10 h11
            subst h10
            exact ⟨b, o, rfl, h11⟩
          obtain ⟨b, o, rfl, hb⟩ := hplain
          have hgoal : Rep (k0 w) (.sl none false (P.cellsOf e) (els.map (·.1))) (.slice (some ⟨b, o, none⟩) (els.map (·.1)).length cap) := by
            have hat : ∀ (i j : Nat) (q : List AV) (c : AV), (els.map (·.1))[i]? = some q → q[j]? = some c → ∃ p, els[i]? = some p ∧ p.1 = q ∧ w.cell? ⟨b, o + (i * P.cellsOf e + j), none⟩ = some (p.2 j) ∧ (p.2 j).oneCell' = true ∧ Rep (k0 w) c (p.2 j) := fun i j q c hq hc => by
              rw [List.getElem?_map, Option.map_eq_some_iff] at hq
              obtain ⟨p, hp1, rfl⟩ := hq
              obtain ⟨_, h12⟩ := hels i p hp1
              obtain ⟨h13, h14⟩ := h12 j c hc
              refine ⟨p, hp1, rfl, ?_, h14⟩
              have e1 : ((⟨b, o, none⟩ : Addr).add (i * P.cellsOf e)).add j = ⟨b, o + (i * P.cellsOf e + j), none⟩ := by
                rw [Addr.add_mid, Addr.add_mid, Nat.add_assoc]
              rwa [e1] at h13
            refine .sl (f := fun i j => ((els[i]?).map (fun p => p.2 j)).getD undef) (by simp) (by rw [List.length_map]; omega) (by rw [List.length_map]; omega) (by simp) (fun i q hq => ?_) (fun _ => ⟨hb, k0_live w b⟩) (fun i j q c hq hc => ?_) (fun i j q c hq hc => ?_)
            · rw [List.getElem?_map, Option.map_eq_some_iff] at hq
              obtain ⟨p, hp1, rfl⟩ := hq
              exact (hels i p hp1).1.1
            · obtain ⟨p, h15, _, h16, h17, _⟩ := hat i j q c hq hc
              simp only [h15, Option.map_some, Option.getD_some]
              exact ⟨h16, h17⟩
            · obtain ⟨p, h15, _, h16, h17, h18⟩ := hat i j q c hq hc
              simp only [h15, Option.map_some, Option.getD_some]
              exact h18
          rw [List.length_map, hl] at hgoal
          exact hgoal
    · rename_i fs ht
      rw [Bool.and_eq_true, decide_eq_true_eq] at hp
      obtain ⟨xs, fu, rfl, _, hl, hxl, hf⟩ := DataW.trod_struct ht h
      obtain ⟨avs, h1, h2, _⟩ := open_fields (fun t cs x => open_cells n t fu cs x) fs.toList 0 _ cs hp.1 hl hp.2 (fun f hfm => by
        obtain ⟨i, hi⟩ := List.mem_iff_getElem?.1 hfm
        have hi' : fs[i]? = some f := by simpa using hi
        have hlt : i < xs.length := by rw [hxl]; exact (Array.getElem?_eq_some_iff.1 hi').1
        exact ⟨xs[i], by rw [hf i f hi', List.getElem?_eq_getElem hlt]⟩)
      exact ⟨avs, by simp only [isAV, ht]; exact h1, by simpa using h2⟩
    · rename_i m e ht
      rw [Bool.and_eq_true, decide_eq_true_eq] at hp
      obtain ⟨xs, fu, rfl, _, hl, hxl, hf⟩ := DataW.trod_array ht h
      obtain ⟨avs, h1, h2⟩ := open_elems (fun cs x => open_cells n e fu cs x hp.2) m cs (by rw [hl, hp.1]) (fun i hi => ⟨xs[i], by rw [hf i hi, List.getElem?_eq_getElem (by omega)]⟩)
      exact ⟨avs, by simp only [isAV, ht]; exact h1, h2⟩
    · cases hp
/-- An argument. -/
def argAV (P : Program) (t : TypeId) (avs : List AV) : AV := match P.underlying t with
  | some (.struct _) | some (.array _ _) => .agg avs
  | _ => avs.headD (.tup [])
theorem open_arg {n base : Nat} {t : TypeId} {v : Value} {d : DataW H} {ps : List MemPlace} (hp : plainT P n t = true) (hv : Value.okWide P w .any base t v) (h : DataW.Trod enc P w 0 (fun _ => true) held t v d ps) : ∃ avs, isAV P n t avs ∧ Rep (k0 w) (argAV P t avs) v := by
  obtain ⟨fuel, hf⟩ := h
  obtain ⟨avs, h1, h2⟩ := open_cells n t fuel _ _ hp hf
  refine ⟨avs, h1, ?_⟩
  have hagg : (∃ cs, v = .agg cs) → Rep (k0 w) (.agg avs) v := by
    rintro ⟨cs, rfl⟩
    have h3 : (Value.agg cs).cells = cs := rfl
    rw [h3] at h2
    exact .agg (by simpa using h2.1) (fun j u hu => by
      have hj : j < avs.length := by rw [← h2.1]; simpa using (Array.getElem?_eq_some_iff.1 hu).1
      exact (h2.2 j _ u (List.getElem?_eq_getElem hj) (by simpa using hu)).1) (fun j a u ha hu => (h2.2 j a u ha (by simpa using hu)).2)
  have hone : v.cells.toList = [v] → Rep (k0 w) (avs.headD (.tup [])) v := fun h3 => by
    rw [h3] at h2
    obtain ⟨h4, h5⟩ := h2
    match avs, h4 with
    | [a], _ => exact (h5 0 a v rfl rfl).2
  cases n with
  | zero => cases hp
  | succ n =>
    unfold plainT at hp
    unfold argAV
    split at hp
    · rename_i ht
      rw [ht]
      simp only [Value.okWide, ht, Cell.okWide, Cell.ok] at hv
      exact hone (by cases v <;> first | rfl | (simp at hv))
    · rename_i kk ht
      rw [ht]
      simp only [Value.okWide, ht, Cell.okWide, Cell.ok] at hv
      exact hone (by cases v <;> first | rfl | (simp at hv))
    · rename_i ht
      rw [ht]
      simp only [Value.okWide, ht, Cell.okWide, Cell.ok] at hv
      exact hone (by cases v <;> first | rfl | (simp at hv))
    · rename_i e ht; rw [ht]; obtain ⟨a, l, c, rfl⟩ := Go.WideShapes.okWide_slice ht hv; exact hone rfl
    · rename_i fs ht; rw [ht]; obtain ⟨cs, rfl, _⟩ := Go.WideShapes.okWide_struct ht hv; exact hagg ⟨cs, rfl⟩
    · rename_i m e ht
      rw [ht]
      have : ∃ cs, v = .agg cs := by
        simp only [Value.okWide, ht] at hv
        obtain ⟨cs, h1, _⟩ := hv
        exact ⟨cs, h1⟩
      exact hagg this
    · cases hp
theorem list_of {α β : Type} {g : α → β} {Q : α → Prop} : ∀ (l : List β), (∀ b ∈ l, ∃ x, b = g x ∧ Q x) → ∃ xs : List α, l = xs.map g ∧ ∀ x ∈ xs, Q x
  | [], _ => ⟨[], rfl, fun x h => by cases h⟩
  | b :: l, h => by
    obtain ⟨x, rfl, hq⟩ := h b (.head _)
    obtain ⟨xs, rfl, h2⟩ := list_of l (fun c hc => h c (.tail _ hc))
    exact ⟨x :: xs, rfl, fun y hy => by
      rcases List.mem_cons.1 hy with rfl | hy
      · exact hq
      · exact h2 y hy⟩
end
end Go.Proofs.YtcpokdjppedaoaaDoor.Ab

/- Bytes that came in, opened. -/
set_option linter.unusedVariables false
set_option linter.unusedSimpArgs false
set_option maxRecDepth 20000
namespace Go.Proofs.YtcpokdjppedaoaaDoor.Ab
open Go Go.RowKit
theorem open_bytes {P : Program} {n : Nat} {t e : TypeId} {avs : List AV} (ht : P.underlying t = some (.slice e)) (he : P.underlying e = some (.int .u8)) (hc : P.cellsOf e = 1) (h : isAV P (n + 2) t avs) : ∃ l : List UInt8, avs = [.sl none false 1 (bys l)] ∧ l.length ≤ maxLen := by
  simp only [isAV, ht, he, hc] at h
  obtain ⟨els, rfl, hl, h⟩ := h
  obtain ⟨xs, rfl, _⟩ := list_of (g := fun b : UInt8 => [AV.v (.int .u8 b.toNat)]) (Q := fun _ => True) els (fun el hel => by
    obtain ⟨_, m, rfl, hm⟩ := h el hel
    obtain ⟨h0, h1⟩ := wf_u8 hm
    refine ⟨UInt8.ofNat m.toNat, ?_, trivial⟩
    have : (UInt8.ofNat m.toNat).toNat = m.toNat := by simp; omega
    simp only [this, List.cons.injEq, AV.v.injEq, Value.int.injEq, true_and, and_true]
    omega)
  exact ⟨xs, rfl, by simpa using hl⟩
end Go.Proofs.YtcpokdjppedaoaaDoor.Ab

/- Classes, facts and what changes them, that came in, opened. -/
set_option linter.unusedVariables false
set_option linter.unusedSimpArgs false
set_option maxRecDepth 20000
namespace Go.Proofs.YtcpokdjppedaoaaDoor.Ab
open Go Go.RowKit
theorem open_list {P : Program} {n : Nat} {t e : TypeId} {sz : Nat} {avs : List AV} {α : Type} (g : α → List AV) (Q : α → Prop) (ht : P.underlying t = some (.slice e)) (hc : P.cellsOf e = sz) (h : isAV P (n + 1) t avs) (he : ∀ el, isAV P n e el → ∃ x, el = g x ∧ Q x) : ∃ l : List α, avs = [.sl none false sz (l.map g)] ∧ (∀ x ∈ l, Q x) ∧ l.length ≤ maxLen := by
  simp only [isAV, ht, hc] at h
  obtain ⟨els, rfl, hl, h⟩ := h
  obtain ⟨xs, rfl, hq⟩ := list_of (g := g) (Q := Q) els (fun el hel => he el (h el hel).2)
  exact ⟨xs, rfl, hq, by simpa using hl⟩
theorem open_v {n : Nat} {avs : List AV} (h : isAV Tryd.prog (n + 2) 42 avs) : ∃ v : Vl, avs = vc v ∧ (0 ≤ v.k ∧ v.k < 256) ∧ (-9223372036854775808 ≤ v.n ∧ v.n < 9223372036854775808) := by
  obtain ⟨a, r1, rfl, _, ⟨k, rfl, hk⟩, b, r2, rfl, _, ⟨m, rfl, hm⟩, c, r3, rfl, _, ⟨s, rfl, hs⟩, rfl⟩ := h
  exact ⟨⟨k, m, s⟩, rfl, wf_u8 hk, wf_i64 hm⟩
theorem open_s {n : Nat} {avs : List AV} (h : isAV Tryd.prog (n + 1) 9 avs) : ∃ s : ByteArray, avs = str1 s ∧ True := by
  obtain ⟨s, rfl, _⟩ : ∃ s, avs = [AV.v (.string s)] ∧ s.size ≤ maxLen := h
  exact ⟨s, rfl, trivial⟩
theorem open_c {n : Nat} {avs : List AV} (h : isAV Tryd.prog (n + 3) 54 avs) : ∃ c : Cls, avs = cc c ∧ True := by
  obtain ⟨a, r1, rfl, _, ⟨s, rfl, _⟩, b, r2, rfl, _, hb, rfl⟩ := h
  obtain ⟨l, rfl, _, _⟩ := open_list (e := 9) (sz := 1) str1 (fun _ => True) (by kernel_rfl) (by kernel_rfl) hb (fun el hel => open_s hel)
  exact ⟨⟨s, l⟩, rfl, trivial⟩
theorem open_f {n : Nat} {avs : List AV} (h : isAV Tryd.prog (n + 4) 25 avs) : ∃ f : Fc, avs = fc f ∧ ∀ v ∈ f.vals, (0 ≤ v.k ∧ v.k < 256) ∧ (-9223372036854775808 ≤ v.n ∧ v.n < 9223372036854775808) := by
  obtain ⟨a, r1, rfl, _, ⟨m, rfl, hm⟩, b, r2, rfl, _, ⟨s, rfl, _⟩, c, r3, rfl, _, hc, rfl⟩ := h
  obtain ⟨l, rfl, hq, _⟩ := open_list (e := 42) (sz := 3) vc (fun v => (0 ≤ v.k ∧ v.k < 256) ∧ (-9223372036854775808 ≤ v.n ∧ v.n < 9223372036854775808)) (by kernel_rfl) (by kernel_rfl) hc (fun el hel => open_v hel)
  exact ⟨⟨m, s, l⟩, rfl, hq⟩
theorem open_b {n : Nat} {avs : List AV} (h : isAV Tryd.prog (n + 3) 51 avs) : ∃ b : Bd, avs = bc b ∧ (0 ≤ b.val.k ∧ b.val.k < 256) := by
  obtain ⟨a, r1, rfl, _, ⟨s, rfl, _⟩, b, r2, rfl, _, hb, rfl⟩ := h
  obtain ⟨v, rfl, hk, _⟩ := open_v hb
  exact ⟨⟨s, v⟩, rfl, hk⟩
theorem open_cs {n : Nat} {avs : List AV} (h : isAV Tryd.prog (n + 4) 22 avs) : ∃ l : List Cls, avs = [.sl none false 2 (l.map cc)] := by
  obtain ⟨l, rfl, _⟩ := open_list (e := 54) (sz := 2) cc (fun _ => True) (by kernel_rfl) (by kernel_rfl) h (fun el hel => open_c hel)
  exact ⟨l, rfl⟩
theorem open_bs {n : Nat} {avs : List AV} (h : isAV Tryd.prog (n + 4) 26 avs) : ∃ l : List Bd, avs = [.sl none false 4 (l.map bc)] := by
  obtain ⟨l, rfl, _⟩ := open_list (e := 51) (sz := 4) bc (fun b => 0 ≤ b.val.k ∧ b.val.k < 256) (by kernel_rfl) (by kernel_rfl) h (fun el hel => open_b hel)
  exact ⟨l, rfl⟩
theorem open_f2 {n : Nat} {avs : List AV} (h : isAV Tryd.prog (n + 5) 44 avs) : ∃ f g : Fc, avs = fc f ++ fc g := by
  obtain ⟨a, r1, rfl, _, ha, b, r2, rfl, _, hb, rfl⟩ := h
  obtain ⟨f, rfl, _⟩ := open_f ha
  obtain ⟨g, rfl, _⟩ := open_f hb
  exact ⟨f, g, by simp⟩
end Go.Proofs.YtcpokdjppedaoaaDoor.Ab

/- What a fact is changed by, opened. -/
set_option linter.unusedVariables false
set_option linter.unusedSimpArgs false
set_option maxRecDepth 20000
namespace Go.Proofs.YtcpokdjppedaoaaDoor.Ab
open Go Go.RowKit
theorem open_how {n : Nat} {avs : List AV} (h : isAV Tryd.prog (n + 5) 28 avs) : ∃ (m : Int) (sets : List Bd) (s : ByteArray), avs = [.v (.int .i64 m), .sl none false 4 (sets.map bc), .v (.string s)] := by
  obtain ⟨a, r1, rfl, _, ⟨m, rfl, hm⟩, b, r2, rfl, _, hb, c, r3, rfl, _, ⟨s, rfl, _⟩, rfl⟩ := h
  obtain ⟨sets, rfl⟩ := open_bs hb
  exact ⟨m, sets, s, rfl⟩
end Go.Proofs.YtcpokdjppedaoaaDoor.Ab
