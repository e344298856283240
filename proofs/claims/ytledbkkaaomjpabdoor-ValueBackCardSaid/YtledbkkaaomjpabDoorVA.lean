/- Values: texts, and what texts tell. -/
import Derived.Test.YtledbkkaaomjpabDoorV9
import Derived.Test.YtledbkkaaomjpabDoorAbY
set_option linter.unusedVariables false
set_option linter.unusedSimpArgs false
namespace Go.Proofs.YtledbkkaaomjpabDoor.Ab
open Go
attribute [local irreducible] thn inb endR CJ LJ OpJ DJ

def textV (k n : Int) (s : ByteArray) : ByteArray := if ¬ checkE k n s = 0 then nilS else if k = 1 then toldS n else if k = 2 then s else nilS
theorem checkE_ok {k n : Int} {s : ByteArray} (h : checkE k n s = 0) : (-1099511627776 ≤ n ∧ n ≤ 1099511627776) := by
  unfold checkE at h
  grind
theorem p_textv (k n : Int) (s : ByteArray) : Pure Tryd.prog 15 [vv k n s] (.v (.string (textV k n s))) := by
  refine enterW Tryd.func15 rfl rfl rfl rfl (fun σ => ?_)
  repeat' (first|(first|(refine jl ?_;first|refine j7 ?_|refine j8 ?_|refine j10 ?_|refine j11 ?_|refine jtf ?_|refine j1 ?_|refine j2 ?_|refine j3 ?_|refine j3f ?_|refine j4 ?_|refine j5 ?_|refine j6 ?_|refine j9 ?_|refine j12 (fun id hid=>?_)|refine j13 (fun id hid=>?_)|refine j14 ?_|refine j15 ?_|refine j17 ?_|refine j16 ?_|refine j18 ?_|refine j19 ?_|refine j20 ?_|refine j21 ?_|refine j23 ?_|refine j24 ?_|refine j25 ?_|refine j26 ?_|refine jeq ?_|refine jeqq ?_|refine jne ?_|refine jneq ?_|refine jcbq ?_|refine j22 (fun id hid=>?_)|refine jp (p_check _ _ _) ?_|refine jpy (p_check _ _ _) ?_|refine jcq (hp:=fun hc=>p_check _ _ _) ?_|refine jp (p_told n (checkE_ok (by omega))) ?_|refine jpy (p_told n (checkE_ok (by omega))) ?_|refine jcq (hp:=fun hc=>p_told n (checkE_ok (by omega))) ?_)|(refine dl ?_;first|refine d7 ?_|refine d8 ?_|refine d10 ?_|refine d11 ?_|refine dtf ?_|refine d1 ?_|refine d2 ?_|refine d3 ?_|refine d3f ?_|refine d4 ?_|refine d9 ?_|refine d14 ?_|refine d14a ?_|refine d15 ?_|refine d16 ?_|refine d18 ?_|refine d19 ?_|refine d20 ?_|refine d21 ?_|refine d17 ?_|refine deq ?_|refine deqq ?_|refine dne ?_|refine dneq ?_|refine dcb ?_|refine dcbq ?_|refine dp (p_check _ _ _) ?_|refine dpy (p_check _ _ _) ?_|refine dpq (hp:=fun hc=>p_check _ _ _) ?_|refine dp (p_told n (checkE_ok (by omega))) ?_|refine dpy (p_told n (checkE_ok (by omega))) ?_|refine dpq (hp:=fun hc=>p_told n (checkE_ok (by omega))) ?_)|(refine jc ?_;first|refine c1 ?_|refine c2 ?_|refine c3 ?_|refine c4 ?_|refine c5 ?_|refine c6 ?_|refine c7 ?_|refine c8 ?_|refine cq ?_)|refine n1 ?_|refine n2 ?_|refine n3 ?_|refine n4 ?_|refine n5 ?_|refine n6 ?_|refine n7 ?_|refine n8 ?_|refine n9 ?_|refine n10 ?_|refine n13 ?_|refine n11 ?_|refine n12 ?_|refine n14 ?_|refine n15 ?_|refine n16 ?_)|(refine c9 (fun h=>?_) (fun h=>?_)<;>(try simp only [Bool.or_eq_true, Bool.and_eq_true, Bool.or_eq_false_iff, Bool.and_eq_false_iff, Bool.not_eq_true', Bool.not_eq_false', decide_eq_true_eq, decide_eq_false_iff_not, Bool.false_eq_true, Bool.true_eq_false, reduceCtorEq] at h)))
  all_goals refine gives (St.le_set _ hid) (fin_one (.wk (Wk.of_eq ?_)))
  all_goals simp only [ofLeaf, AV.v.injEq, Value.string.injEq, true_and]
  all_goals unfold textV nilS
  all_goals grind
theorem p_rtextv (k n : Int) (s : ByteArray) (hz : s.size ≤ 9223372036854775807) : Pure Tryd.prog 16 [vv k n s] (.v (.string (textV k n s))) := by
  refine enterW Tryd.func16 rfl rfl rfl rfl (fun σ => ?_)
  repeat' (first|(first|(refine jl ?_;first|refine j7 ?_|refine j8 ?_|refine j10 ?_|refine j11 ?_|refine jtf ?_|refine j1 ?_|refine j2 ?_|refine j3 ?_|refine j3f ?_|refine j4 ?_|refine j5 ?_|refine j6 ?_|refine j9 ?_|refine j12 (fun id hid=>?_)|refine j13 (fun id hid=>?_)|refine j14 ?_|refine j15 ?_|refine j17 ?_|refine j16 ?_|refine j18 ?_|refine j19 ?_|refine j20 ?_|refine j21 ?_|refine j23 ?_|refine j24 ?_|refine j25 ?_|refine j26 ?_|refine jeq ?_|refine jeqq ?_|refine jne ?_|refine jneq ?_|refine jcbq ?_|refine j22 (fun id hid=>?_)|refine jp (p_rcheck _ _ _ hz) ?_|refine jpy (p_rcheck _ _ _ hz) ?_|refine jcq (hp:=fun hc=>p_rcheck _ _ _ hz) ?_|refine jp (p_rtold _ n (checkE_ok (by omega)) (Nat.le_refl _)) ?_|refine jpy (p_rtold _ n (checkE_ok (by omega)) (Nat.le_refl _)) ?_|refine jcq (hp:=fun hc=>p_rtold _ n (checkE_ok (by omega)) (Nat.le_refl _)) ?_)|(refine dl ?_;first|refine d7 ?_|refine d8 ?_|refine d10 ?_|refine d11 ?_|refine dtf ?_|refine d1 ?_|refine d2 ?_|refine d3 ?_|refine d3f ?_|refine d4 ?_|refine d9 ?_|refine d14 ?_|refine d14a ?_|refine d15 ?_|refine d16 ?_|refine d18 ?_|refine d19 ?_|refine d20 ?_|refine d21 ?_|refine d17 ?_|refine deq ?_|refine deqq ?_|refine dne ?_|refine dneq ?_|refine dcb ?_|refine dcbq ?_|refine dp (p_rcheck _ _ _ hz) ?_|refine dpy (p_rcheck _ _ _ hz) ?_|refine dpq (hp:=fun hc=>p_rcheck _ _ _ hz) ?_|refine dp (p_rtold _ n (checkE_ok (by omega)) (Nat.le_refl _)) ?_|refine dpy (p_rtold _ n (checkE_ok (by omega)) (Nat.le_refl _)) ?_|refine dpq (hp:=fun hc=>p_rtold _ n (checkE_ok (by omega)) (Nat.le_refl _)) ?_)|(refine jc ?_;first|refine c1 ?_|refine c2 ?_|refine c3 ?_|refine c4 ?_|refine c5 ?_|refine c6 ?_|refine c7 ?_|refine c8 ?_|refine cq ?_)|refine n1 ?_|refine n2 ?_|refine n3 ?_|refine n4 ?_|refine n5 ?_|refine n6 ?_|refine n7 ?_|refine n8 ?_|refine n9 ?_|refine n10 ?_|refine n13 ?_|refine n11 ?_|refine n12 ?_|refine n14 ?_|refine n15 ?_|refine n16 ?_)|(refine c9 (fun h=>?_) (fun h=>?_)<;>(try simp only [Bool.or_eq_true, Bool.and_eq_true, Bool.or_eq_false_iff, Bool.and_eq_false_iff, Bool.not_eq_true', Bool.not_eq_false', decide_eq_true_eq, decide_eq_false_iff_not, Bool.false_eq_true, Bool.true_eq_false, reduceCtorEq] at h)))
  all_goals refine gives (St.le_set _ hid) (fin_one (.wk (Wk.of_eq ?_)))
  all_goals simp only [ofLeaf, AV.v.injEq, Value.string.injEq, true_and]
  all_goals unfold textV nilS
  all_goals grind
def parseV (s : ByteArray) : Int × Int × ByteArray × Int :=
  if wordB s = false then (0, 0, ⟨#[]⟩, 6) else if s = nilS then (0, 0, ⟨#[]⟩, 0) else if isNumB s = false then (2, 0, s, 0)
  else if 1099511627776 < numOf s then (0, 0, ⟨#[]⟩, 12) else (1, if minusB s then -(numOf s : Int) else numOf s, ⟨#[]⟩, 0)
theorem wordB_size {s : ByteArray} (h : wordB s = true) : s.size ≤ 24 := by
  unfold wordB at h
  simp only [Bool.and_eq_true, decide_eq_true_eq] at h
  exact h.2.1
theorem p_rparse (s : ByteArray) (hz : s.size ≤ 9223372036854775807) : Pure Tryd.prog 10 [.v (.string s)] (.tup [vv (parseV s).1 (parseV s).2.1 (parseV s).2.2.1, .v (.int .i64 (parseV s).2.2.2)]) := by
  refine enterW Tryd.func10 rfl rfl rfl rfl (fun σ => ?_)
  repeat' (first|(first|(refine jl ?_;first|refine j7 ?_|refine j8 ?_|refine j10 ?_|refine j11 ?_|refine jtf ?_|refine j1 ?_|refine j2 ?_|refine j3 ?_|refine j3f ?_|refine j4 ?_|refine j5 ?_|refine j6 ?_|refine j9 ?_|refine j12 (fun id hid=>?_)|refine j13 (fun id hid=>?_)|refine j14 ?_|refine j15 ?_|refine j17 ?_|refine j16 ?_|refine j18 ?_|refine j19 ?_|refine j20 ?_|refine j21 ?_|refine j23 ?_|refine j24 ?_|refine j25 ?_|refine j26 ?_|refine jeq ?_|refine jeqq ?_|refine jne ?_|refine jneq ?_|refine jcbq ?_|refine j22 (fun id hid=>?_)|refine jp (p_rword _) ?_|refine jpy (p_rword _) ?_|refine jcq (hp:=fun hc=>p_rword _) ?_|refine jp (p_risnum _ hz) ?_|refine jpy (p_risnum _ hz) ?_|refine jcq (hp:=fun hc=>p_risnum _ hz) ?_|refine jp (p_rnumber _ (by simp_all) hz) ?_|refine jpy (p_rnumber _ (by simp_all) hz) ?_|refine jcq (hp:=fun hc=>p_rnumber _ (by simp_all) hz) ?_)|(refine dl ?_;first|refine d7 ?_|refine d8 ?_|refine d10 ?_|refine d11 ?_|refine dtf ?_|refine d1 ?_|refine d2 ?_|refine d3 ?_|refine d3f ?_|refine d4 ?_|refine d9 ?_|refine d14 ?_|refine d14a ?_|refine d15 ?_|refine d16 ?_|refine d18 ?_|refine d19 ?_|refine d20 ?_|refine d21 ?_|refine d17 ?_|refine deq ?_|refine deqq ?_|refine dne ?_|refine dneq ?_|refine dcb ?_|refine dcbq ?_|refine dp (p_rword _) ?_|refine dpy (p_rword _) ?_|refine dpq (hp:=fun hc=>p_rword _) ?_|refine dp (p_risnum _ hz) ?_|refine dpy (p_risnum _ hz) ?_|refine dpq (hp:=fun hc=>p_risnum _ hz) ?_|refine dp (p_rnumber _ (by simp_all) hz) ?_|refine dpy (p_rnumber _ (by simp_all) hz) ?_|refine dpq (hp:=fun hc=>p_rnumber _ (by simp_all) hz) ?_)|(refine jc ?_;first|refine c1 ?_|refine c2 ?_|refine c3 ?_|refine c4 ?_|refine c5 ?_|refine c6 ?_|refine c7 ?_|refine c8 ?_|refine cq ?_)|refine n1 ?_|refine n2 ?_|refine n3 ?_|refine n4 ?_|refine n5 ?_|refine n6 ?_|refine n7 ?_|refine n8 ?_|refine n9 ?_|refine n10 ?_|refine n13 ?_|refine n11 ?_|refine n12 ?_|refine n14 ?_|refine n15 ?_|refine n16 ?_)|(refine c9 (fun h=>?_) (fun h=>?_)<;>(try simp only [Bool.or_eq_true, Bool.and_eq_true, Bool.or_eq_false_iff, Bool.and_eq_false_iff, Bool.not_eq_true', Bool.not_eq_false', decide_eq_true_eq, decide_eq_false_iff_not, Bool.false_eq_true, Bool.true_eq_false, reduceCtorEq] at h)))
  · have e : parseV s = (0, 0, ⟨#[]⟩, 6) := by simp [parseV, h]
    rw [e]
    exact gives (by rw [St.set_set]; exact St.le_set _ hid) (Fin.refl _ _ _)
  · have e : parseV s = (0, 0, ⟨#[]⟩, 0) := by simp_all [parseV, nilS]
    rw [e]
    exact gives (by rw [St.set_set]; exact St.le_set _ hid) (Fin.refl _ _ _)
  · have e : parseV s = (2, 0, s, 0) := by simp_all [parseV, nilS]
    rw [e]
    exact gives (by rw [St.set_set]; exact St.le_set _ hid) (Fin.refl _ _ _)
  · have e : parseV s = (0, 0, ⟨#[]⟩, 12) := by
      have : 1099511627776 < numOf s := by
        unfold capN at h
        cases hm : minusB s <;> rw [hm] at h <;> simp only [Bool.false_eq_true, if_true, if_false] at h <;> omega
      simp_all [parseV, nilS]
    rw [e]
    exact gives (by rw [St.set_set]; exact St.le_set _ hid) (Fin.refl _ _ _)
  · have hlt : ¬ 1099511627776 < numOf s := by
      unfold capN at h
      cases hm : minusB s <;> rw [hm] at h <;> simp only [Bool.false_eq_true, if_true, if_false] at h <;> omega
    have e : parseV s = (1, if minusB s then -(numOf s : Int) else numOf s, ⟨#[]⟩, 0) := by simp_all [parseV, nilS]
    have e2 : min (numOf s) capN = numOf s := by unfold capN; omega
    rw [e, e2]
    exact gives (by rw [St.set_set]; exact St.le_set _ hid) (Fin.refl _ _ _)
theorem allD_get {s : ByteArray} (h : allD s = true) (i : Nat) (hi : i < (bodyS s).size) : dig (bt (bodyS s) i) := digB_get (bodyS s) i 0 h (Nat.zero_le _) hi
theorem p_parse (s : ByteArray) : Pure Tryd.prog 9 [.v (.string s)] (.tup [vv (parseV s).1 (parseV s).2.1 (parseV s).2.2.1, .v (.int .i64 (parseV s).2.2.2)]) := by
  refine enterW Tryd.func9 rfl rfl rfl rfl (fun σ => ?_)
  repeat' (first|(first|(refine jl ?_;first|refine j7 ?_|refine j8 ?_|refine j10 ?_|refine j11 ?_|refine jtf ?_|refine j1 ?_|refine j2 ?_|refine j3 ?_|refine j3f ?_|refine j4 ?_|refine j5 ?_|refine j6 ?_|refine j9 ?_|refine j12 (fun id hid=>?_)|refine j13 (fun id hid=>?_)|refine j14 ?_|refine j15 ?_|refine j17 ?_|refine j16 ?_|refine j18 ?_|refine j19 ?_|refine j20 ?_|refine j21 ?_|refine j23 ?_|refine j24 ?_|refine j25 ?_|refine j26 ?_|refine jeq ?_|refine jeqq ?_|refine jne ?_|refine jneq ?_|refine jcbq ?_|refine j22 (fun id hid=>?_)|refine jp (p_word _) ?_|refine jpy (p_word _) ?_|refine jcq (hp:=fun hc=>p_word _) ?_|refine jp (p_digits _) ?_|refine jpy (p_digits _) ?_|refine jcq (hp:=fun hc=>p_digits _) ?_|refine jp (p_symbol _) ?_|refine jpy (p_symbol _) ?_|refine jcq (hp:=fun hc=>p_symbol _) ?_|refine jp (p_number _) ?_|refine jpy (p_number _) ?_|refine jcq (hp:=fun hc=>p_number _) ?_)|(refine dl ?_;first|refine d7 ?_|refine d8 ?_|refine d10 ?_|refine d11 ?_|refine dtf ?_|refine d1 ?_|refine d2 ?_|refine d3 ?_|refine d3f ?_|refine d4 ?_|refine d9 ?_|refine d14 ?_|refine d14a ?_|refine d15 ?_|refine d16 ?_|refine d18 ?_|refine d19 ?_|refine d20 ?_|refine d21 ?_|refine d17 ?_|refine deq ?_|refine deqq ?_|refine dne ?_|refine dneq ?_|refine dcb ?_|refine dcbq ?_|refine dp (p_word _) ?_|refine dpy (p_word _) ?_|refine dpq (hp:=fun hc=>p_word _) ?_|refine dp (p_digits _) ?_|refine dpy (p_digits _) ?_|refine dpq (hp:=fun hc=>p_digits _) ?_|refine dp (p_symbol _) ?_|refine dpy (p_symbol _) ?_|refine dpq (hp:=fun hc=>p_symbol _) ?_|refine dp (p_number _) ?_|refine dpy (p_number _) ?_|refine dpq (hp:=fun hc=>p_number _) ?_)|(refine jc ?_;first|refine c1 ?_|refine c2 ?_|refine c3 ?_|refine c4 ?_|refine c5 ?_|refine c6 ?_|refine c7 ?_|refine c8 ?_|refine cq ?_)|refine n1 ?_|refine n2 ?_|refine n3 ?_|refine n4 ?_|refine n5 ?_|refine n6 ?_|refine n7 ?_|refine n8 ?_|refine n9 ?_|refine n10 ?_|refine n13 ?_|refine n11 ?_|refine n12 ?_|refine n14 ?_|refine n15 ?_|refine n16 ?_)|(refine c9 (fun h=>?_) (fun h=>?_)<;>(try simp only [Bool.or_eq_true, Bool.and_eq_true, Bool.or_eq_false_iff, Bool.and_eq_false_iff, Bool.not_eq_true', Bool.not_eq_false', decide_eq_true_eq, decide_eq_false_iff_not, Bool.false_eq_true, Bool.true_eq_false, reduceCtorEq] at h)))
  · have e : parseV s = (0, 0, ⟨#[]⟩, 6) := by simp [parseV, h]
    rw [e]
    exact gives (by rw [St.set_set]; exact St.le_set _ hid) (Fin.refl _ _ _)
  · have e : parseV s = (0, 0, ⟨#[]⟩, 0) := by simp_all [parseV, nilS]
    rw [e]
    exact gives (by rw [St.set_set]; exact St.le_set _ hid) (Fin.refl _ _ _)
  · have e : parseV s = (2, 0, s, 0) := by simp_all [parseV, nilS]
    rw [e]
    exact gives (by rw [St.set_set]; exact St.le_set _ hid) (Fin.refl _ _ _)
  rename_i ir hir _ _
  have hsz := wordB_size ‹wordB s = true›
  obtain ⟨hd, hpos⟩ : allD s = true ∧ 0 < (bodyS s).size := by simpa [isNumB] using h
  have hbz : (bodyS s).size ≤ s.size := by
    unfold bodyS; split
    · rw [Lib.ext_size]; omega
    · exact Nat.le_refl _
  have hir2 : ir ≠ id := fun e => by subst e; simp [St.set_same] at hid
  have hv : ∀ n : Nat, numOf s = n → n ≤ 1099511627776 → parseV s = (1, if minusB s then -(n : Int) else n, ⟨#[]⟩, 0) := fun n hn hle => by
    have h1 : ¬ 1099511627776 < numOf s := by omega
    simp_all [parseV, nilS]
  have hbad : 1099511627776 < numOf s → parseV s = (0, 0, ⟨#[]⟩, 12) := fun h1 => by simp_all [parseV, nilS]
  rw [hd]
  simp only [if_true, Bool.true_and]
  refine cj_head (fun x : Nat × Nat => x.1 ≤ (bodyS s).size ∧ x.2 ≤ 1099511627776 ∧ valN x.2 ((bodyS s).data.toList.drop x.1) = numOf s) (fun x => [(28, .it id), (7, .v (.int .i64 x.2)), (2, .ptr ir 3 0 0), (5, .v (.bool (minusB s)))]) (fun x => (σ.set ir (.row 3 23 [[.v (.int .u8 0), .v (.int .i64 0), .v (.string ⟨#[]⟩)]])).set id (.siter (bodyS s) x.1)) (fun x => (bodyS s).size - x.1) (0, 0) ⟨Nat.zero_le _, Nat.zero_le _, rfl⟩ ⟨rfl, rfl, rfl, rfl, trivial⟩ (St.le_refl _) (fun x hx => ?_)
  obtain ⟨p, a⟩ := x
  obtain ⟨hp1, hp2, hp3⟩ := hx
  dsimp only at hp1 hp2 hp3 ⊢
  by_cases hlt : p < (bodyS s).size
  · obtain ⟨e1, e2⟩ := drop_bt (bodyS s) p hlt
    have hdg := allD_get hd p hlt
    have hdec : Utf8.decode (bodyS s) p = (bt (bodyS s) p, 1) := by
      rw [decodeL_rune', e1, Lib.decodeL_ascii _ _ (by omega), e2]
    rw [e1, valN_cons, e2] at hp3
    have hv2 := valN_le ((bodyS s).data.toList.drop (p + 1)) (10 * a + (bt (bodyS s) p - 48))
    have hw : IntKind.i64.wrap (IntKind.i64.wrap ((a : Int) * 10) + IntKind.i64.wrap (IntKind.i32.wrap (((bt (bodyS s) p : Nat) : Int) - 48))) = ((10 * a + (bt (bodyS s) p - 48) : Nat) : Int) := by
      rw [w32 (by omega) (by omega), w64 (n := ((bt (bodyS s) p : Nat) : Int) - 48) (by omega) (by omega), w64 (n := (a : Int) * 10) (by omega) (by omega), w64 (by omega) (by omega)]
      omega
    repeat (first|(refine jl ?_;first|refine j7 ?_|refine j8 ?_|refine j10 ?_|refine j11 ?_|refine jtf ?_|refine j1 ?_|refine j2 ?_|refine j3 ?_|refine j3f ?_|refine j4 ?_|refine j5 ?_|refine j6 ?_|refine j9 ?_|refine j12 (fun id hid=>?_)|refine j13 (fun id hid=>?_)|refine j14 ?_|refine j15 ?_|refine j17 ?_|refine j16 ?_|refine j18 ?_|refine j19 ?_|refine j20 ?_|refine j21 ?_|refine j23 ?_|refine j24 ?_|refine j25 ?_|refine j26 ?_|refine jeq ?_|refine jeqq ?_|refine jne ?_|refine jneq ?_|refine jcbq ?_|refine j22 (fun id hid=>?_))|(refine dl ?_;first|refine d7 ?_|refine d8 ?_|refine d10 ?_|refine d11 ?_|refine dtf ?_|refine d1 ?_|refine d2 ?_|refine d3 ?_|refine d3f ?_|refine d4 ?_|refine d9 ?_|refine d14 ?_|refine d14a ?_|refine d15 ?_|refine d16 ?_|refine d18 ?_|refine d19 ?_|refine d20 ?_|refine d21 ?_|refine d17 ?_|refine deq ?_|refine deqq ?_|refine dne ?_|refine dneq ?_|refine dcb ?_|refine dcbq ?_)|(refine jc ?_;first|refine c1 ?_|refine c2 ?_|refine c3 ?_|refine c4 ?_|refine c5 ?_|refine c6 ?_|refine c7 ?_|refine c8 ?_|refine cq ?_)|refine n1 ?_|refine n2 ?_|refine n3 ?_|refine n4 ?_|refine n5 ?_|refine n6 ?_|refine n7 ?_|refine n8 ?_|refine n9 ?_|refine n10 ?_|refine n13 ?_|refine n11 ?_|refine n12 ?_|refine n14 ?_|refine n15 ?_|refine n16 ?_)
    rw [hdec]
    dsimp only
    rw [hw]
    repeat' (first|(first|(refine jl ?_;first|refine j7 ?_|refine j8 ?_|refine j10 ?_|refine j11 ?_|refine jtf ?_|refine j1 ?_|refine j2 ?_|refine j3 ?_|refine j3f ?_|refine j4 ?_|refine j5 ?_|refine j6 ?_|refine j9 ?_|refine j12 (fun id hid=>?_)|refine j13 (fun id hid=>?_)|refine j14 ?_|refine j15 ?_|refine j17 ?_|refine j16 ?_|refine j18 ?_|refine j19 ?_|refine j20 ?_|refine j21 ?_|refine j23 ?_|refine j24 ?_|refine j25 ?_|refine j26 ?_|refine jeq ?_|refine jeqq ?_|refine jne ?_|refine jneq ?_|refine jcbq ?_|refine j22 (fun id hid=>?_))|(refine dl ?_;first|refine d7 ?_|refine d8 ?_|refine d10 ?_|refine d11 ?_|refine dtf ?_|refine d1 ?_|refine d2 ?_|refine d3 ?_|refine d3f ?_|refine d4 ?_|refine d9 ?_|refine d14 ?_|refine d14a ?_|refine d15 ?_|refine d16 ?_|refine d18 ?_|refine d19 ?_|refine d20 ?_|refine d21 ?_|refine d17 ?_|refine deq ?_|refine deqq ?_|refine dne ?_|refine dneq ?_|refine dcb ?_|refine dcbq ?_)|(refine jc ?_;first|refine c1 ?_|refine c2 ?_|refine c3 ?_|refine c4 ?_|refine c5 ?_|refine c6 ?_|refine c7 ?_|refine c8 ?_|refine cq ?_)|refine n1 ?_|refine n2 ?_|refine n3 ?_|refine n4 ?_|refine n5 ?_|refine n6 ?_|refine n7 ?_|refine n8 ?_|refine n9 ?_|refine n10 ?_|refine n13 ?_|refine n11 ?_|refine n12 ?_|refine n14 ?_|refine n15 ?_|refine n16 ?_)|(refine c9 (fun h=>?_) (fun h=>?_)<;>(try simp only [Bool.or_eq_true, Bool.and_eq_true, Bool.or_eq_false_iff, Bool.and_eq_false_iff, Bool.not_eq_true', Bool.not_eq_false', decide_eq_true_eq, decide_eq_false_iff_not, Bool.false_eq_true, Bool.true_eq_false, reduceCtorEq] at h)))
    · rw [hbad (by omega)]
      exact ge rfl
    · exact nx_thn ⟨(p + 1, 10 * a + (bt (bodyS s) p - 48)), ⟨by simp only; omega, by simp only; omega, hp3⟩, by simp only; omega, ⟨rfl, rfl, rfl, rfl, trivial⟩, by rw [St.set_set]; exact St.le_refl _⟩
  · rw [List.drop_of_length_le (by rw [bl_len]; omega), valN_nil] at hp3
    have hpv := hv a hp3.symm hp2
    rw [hpv]
    repeat' (first|(first|(refine jl ?_;first|refine j7 ?_|refine j8 ?_|refine j10 ?_|refine j11 ?_|refine jtf ?_|refine j1 ?_|refine j2 ?_|refine j3 ?_|refine j3f ?_|refine j4 ?_|refine j5 ?_|refine j6 ?_|refine j9 ?_|refine j12 (fun id hid=>?_)|refine j13 (fun id hid=>?_)|refine j14 ?_|refine j15 ?_|refine j17 ?_|refine j16 ?_|refine j18 ?_|refine j19 ?_|refine j20 ?_|refine j21 ?_|refine j23 ?_|refine j24 ?_|refine j25 ?_|refine j26 ?_|refine jeq ?_|refine jeqq ?_|refine jne ?_|refine jneq ?_|refine jcbq ?_|refine j22 (fun id hid=>?_)|refine jp (p_number _) ?_|refine jpy (p_number _) ?_|refine jcq (hp:=fun hc=>p_number _) ?_)|(refine dl ?_;first|refine d7 ?_|refine d8 ?_|refine d10 ?_|refine d11 ?_|refine dtf ?_|refine d1 ?_|refine d2 ?_|refine d3 ?_|refine d3f ?_|refine d4 ?_|refine d9 ?_|refine d14 ?_|refine d14a ?_|refine d15 ?_|refine d16 ?_|refine d18 ?_|refine d19 ?_|refine d20 ?_|refine d21 ?_|refine d17 ?_|refine deq ?_|refine deqq ?_|refine dne ?_|refine dneq ?_|refine dcb ?_|refine dcbq ?_|refine dp (p_number _) ?_|refine dpy (p_number _) ?_|refine dpq (hp:=fun hc=>p_number _) ?_)|(refine jc ?_;first|refine c1 ?_|refine c2 ?_|refine c3 ?_|refine c4 ?_|refine c5 ?_|refine c6 ?_|refine c7 ?_|refine c8 ?_|refine cq ?_)|refine n1 ?_|refine n2 ?_|refine n3 ?_|refine n4 ?_|refine n5 ?_|refine n6 ?_|refine n7 ?_|refine n8 ?_|refine n9 ?_|refine n10 ?_|refine n13 ?_|refine n11 ?_|refine n12 ?_|refine n14 ?_|refine n15 ?_|refine n16 ?_)|(refine c9 (fun h=>?_) (fun h=>?_)<;>(try simp only [Bool.or_eq_true, Bool.and_eq_true, Bool.or_eq_false_iff, Bool.and_eq_false_iff, Bool.not_eq_true', Bool.not_eq_false', decide_eq_true_eq, decide_eq_false_iff_not, Bool.false_eq_true, Bool.true_eq_false, reduceCtorEq] at h)))
    · rw [h, if_pos rfl]
      refine ge ?_
      rw [w64 (by omega) (by omega), Int.zero_sub]
      rfl
    · rw [h]
      exact ge rfl
end Go.Proofs.YtledbkkaaomjpabDoor.Ab
