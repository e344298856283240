/- Values: numbers read; what may be. -/
import Derived.Test.YtledbkkaaomjpabDoorV7
set_option linter.unusedVariables false
set_option linter.unusedSimpArgs false
namespace Go.Proofs.YtledbkkaaomjpabDoor.Ab
open Go
attribute [local irreducible] thn inb endR CJ LJ OpJ DJ

/-! ### The reference's number -/
def capN : Nat := 1099511627777
theorem p_rnumber (s : ByteArray) (hn : isNumB s = true) (hz : s.size ≤ 9223372036854775807) : Pure Tryd.prog 27 [.v (.string s)] (.v (.int .i64 (if minusB s then -(min (numOf s) capN : Nat) else (min (numOf s) capN : Nat)))) := by
  refine enterW Tryd.func27 rfl rfl rfl rfl (fun σ => ?_)
  obtain ⟨hd, hpos⟩ : allD s = true ∧ 0 < (bodyS s).size := by simpa [isNumB] using hn
  obtain ⟨k, hk, hbd, hk1, hsz⟩ : ∃ k, k ≤ 1 ∧ (bodyS s).data.toList = s.data.toList.drop k ∧ (0 < k → bt s 0 = 45 ∨ bt s 0 = 43) ∧ k < s.size := by
    unfold bodyS at hpos ⊢
    split
    · rename_i h
      rw [if_pos h, Lib.ext_size] at hpos
      exact ⟨1, by omega, Lib.ext_list s 1, fun _ => ((sgnB_iff s).1 h).2, by omega⟩
    · rename_i h
      rw [if_neg h] at hpos
      exact ⟨0, by omega, rfl, fun h => by omega, hpos⟩
  have hdig : ∀ i, k ≤ i → i < s.size → dig (bt s i) := by
    intro i h1 h2
    have h3 : digB (s.data.toList.drop k) = true := by rw [← hbd]; exact hd
    exact digB_get s i k h3 h1 h2
  have hnum : numOf s = valN 0 (s.data.toList.drop k) := by rw [numOf, hbd]
  repeat' (first|(first|(refine jl ?_;first|refine j7 ?_|refine j8 ?_|refine j10 ?_|refine j11 ?_|refine jtf ?_|refine j1 ?_|refine j2 ?_|refine j3 ?_|refine j3f ?_|refine j4 ?_|refine j5 ?_|refine j6 ?_|refine j9 ?_|refine j12 (fun id hid=>?_)|refine j13 (fun id hid=>?_)|refine j14 ?_|refine j15 ?_|refine j17 ?_|refine j16 ?_|refine j18 ?_|refine j19 ?_|refine j20 ?_|refine j21 ?_|refine j23 ?_|refine j24 ?_|refine j25 ?_|refine j26 ?_|refine jeq ?_|refine jeqq ?_|refine jne ?_|refine jneq ?_|refine jcbq ?_|refine j22 (fun id hid=>?_))|(refine dl ?_;first|refine d7 ?_|refine d8 ?_|refine d10 ?_|refine d11 ?_|refine dtf ?_|refine d1 ?_|refine d2 ?_|refine d3 ?_|refine d3f ?_|refine d4 ?_|refine d9 ?_|refine d14 ?_|refine d14a ?_|refine d15 ?_|refine d16 ?_|refine d18 ?_|refine d19 ?_|refine d20 ?_|refine d21 ?_|refine d17 ?_|refine deq ?_|refine deqq ?_|refine dne ?_|refine dneq ?_|refine dcb ?_|refine dcbq ?_)|(refine jc ?_;first|refine c1 ?_|refine c2 ?_|refine c3 ?_|refine c4 ?_|refine c5 ?_|refine c6 ?_|refine c7 ?_|refine c8 ?_|refine cq ?_)|refine n1 ?_|refine n2 ?_|refine n3 ?_|refine n4 ?_|refine n5 ?_|refine n6 ?_|refine n7 ?_|refine n8 ?_|refine n9 ?_|refine n10 ?_|refine n13 ?_|refine n11 ?_|refine n12 ?_|refine n14 ?_|refine n15 ?_|refine n16 ?_)|(refine c9 (fun h=>?_) (fun h=>?_)<;>(try simp only [Bool.or_eq_true, Bool.and_eq_true, Bool.or_eq_false_iff, Bool.and_eq_false_iff, Bool.not_eq_true', Bool.not_eq_false', decide_eq_true_eq, decide_eq_false_iff_not, Bool.false_eq_true, Bool.true_eq_false, reduceCtorEq] at h)))
  refine cj_head (fun x : Nat × Nat => x.1 ≤ s.size ∧ x.2 ≤ capN ∧ (x.1 < k → x.2 = 0) ∧ (k ≤ x.1 → min (valN x.2 (s.data.toList.drop x.1)) capN = min (numOf s) capN)) (fun x => [(0, .v (.string s)), (4, .v (.int .i64 x.1)), (3, .v (.int .i64 x.2))]) (fun _ => σ) (fun x => s.size - x.1) (0, 0) ⟨Nat.zero_le _, Nat.zero_le _, fun _ => rfl, fun h => by have : k = 0 := by { simp only at h; omega }; subst this; rw [hnum]⟩ ⟨rfl, rfl, rfl, trivial⟩ (St.le_refl _) (fun x hx => ?_)
  obtain ⟨i, a⟩ := x
  obtain ⟨hi1, hi2, hi3, hi4⟩ := hx
  simp only at hi1 hi2 hi3 hi4
  have hb := bt_lt s i
  repeat' (first|(first|(refine jl ?_;first|refine j7 ?_|refine j8 ?_|refine j10 ?_|refine j11 ?_|refine jtf ?_|refine j1 ?_|refine j2 ?_|refine j3 ?_|refine j3f ?_|refine j4 ?_|refine j5 ?_|refine j6 ?_|refine j9 ?_|refine j12 (fun id hid=>?_)|refine j13 (fun id hid=>?_)|refine j14 ?_|refine j15 ?_|refine j17 ?_|refine j16 ?_|refine j18 ?_|refine j19 ?_|refine j20 ?_|refine j21 ?_|refine j23 ?_|refine j24 ?_|refine j25 ?_|refine j26 ?_|refine jeq ?_|refine jeqq ?_|refine jne ?_|refine jneq ?_|refine jcbq ?_|refine j22 (fun id hid=>?_))|(refine dl ?_;first|refine d7 ?_|refine d8 ?_|refine d10 ?_|refine d11 ?_|refine dtf ?_|refine d1 ?_|refine d2 ?_|refine d3 ?_|refine d3f ?_|refine d4 ?_|refine d9 ?_|refine d14 ?_|refine d14a ?_|refine d15 ?_|refine d16 ?_|refine d18 ?_|refine d19 ?_|refine d20 ?_|refine d21 ?_|refine d17 ?_|refine deq ?_|refine deqq ?_|refine dne ?_|refine dneq ?_|refine dcb ?_|refine dcbq ?_)|(refine jc ?_;first|refine c1 ?_|refine c2 ?_|refine c3 ?_|refine c4 ?_|refine c5 ?_|refine c6 ?_|refine c7 ?_|refine c8 ?_|refine cq ?_)|refine n1 ?_|refine n2 ?_|refine n3 ?_|refine n4 ?_|refine n5 ?_|refine n6 ?_|refine n7 ?_|refine n8 ?_|refine n9 ?_|refine n10 ?_|refine n13 ?_|refine n11 ?_|refine n12 ?_|refine n14 ?_|refine n15 ?_|refine n16 ?_)|(refine c9 (fun h=>?_) (fun h=>?_)<;>((try simp only [Bool.or_eq_true, Bool.and_eq_true, Bool.or_eq_false_iff, Bool.and_eq_false_iff, Bool.not_eq_true', Bool.not_eq_false', decide_eq_true_eq, decide_eq_false_iff_not, Bool.false_eq_true, Bool.true_eq_false, reduceCtorEq] at h) <;> (try simp (disch := omega) only [sb_bt, w64, Int.reduceAdd, Int.reduceToNat, Int.toNat_natCast, not_true_eq_false, false_or] at h) <;> (try (exfalso; omega)))))
  · have hki : k ≤ i := by
      rcases Nat.lt_or_ge i k with h1 | h1
      · have h0 : i = 0 := by omega
        subst h0
        have := hk1 (by omega)
        omega
      · exact h1
    have hg := hdig i hki (by omega)
    obtain ⟨e1, e2⟩ := drop_bt s i (by omega)
    have h4 := hi4 hki
    rw [e1, valN_cons, e2, ← valN_cap] at h4
    unfold capN at hi2
    refine nx_thn ⟨(i + 1, min (10 * a + (bt s i - 48)) capN), ⟨by simp only; omega, by simp only; omega, fun h => by simp only at h; omega, fun _ => h4⟩, by simp only; omega, ⟨rfl, ?_, ?_, trivial⟩, St.le_refl _⟩
    · show some (AV.v (.int .i64 (IntKind.i64.wrap ((i : Int) + 1)))) = _
      rw [w64 (by omega) (by omega)]; rfl
    · show some (AV.v (.int .i64 (if (1099511627777 : Int) < IntKind.i64.wrap (IntKind.i64.wrap (10 * (a : Int)) + IntKind.i64.wrap (IntKind.u8.wrap (sb s i - 48))) then 1099511627777 else IntKind.i64.wrap (IntKind.i64.wrap (10 * (a : Int)) + IntKind.i64.wrap (IntKind.u8.wrap (sb s i - 48)))))) = some (AV.v (.int .i64 ((min (10 * a + (bt s i - 48)) capN : Nat) : Int)))
      have e3 : sb s i = (bt s i : Int) := rfl
      rw [e3, wu8 (by omega) (by omega), w64 (n := (bt s i : Int) - 48) (by omega) (by omega), w64 (n := 10 * (a : Int)) (by omega) (by omega), w64 (by omega) (by omega)]
      congr 3
      unfold capN
      split <;> omega
  · have hki : i < k := by
      rcases Nat.lt_or_ge i k with h1 | h1
      · exact h1
      · have := hdig i h1 (by omega)
        omega
    have ha := hi3 hki
    subst ha
    refine nx_thn ⟨(i + 1, 0), ⟨by simp only; omega, Nat.zero_le _, fun _ => rfl, fun _ => ?_⟩, by simp only; omega, ⟨rfl, ?_, rfl, trivial⟩, St.le_refl _⟩
    · simp only
      have : k = i + 1 := by omega
      subst this
      rw [← hnum]
    · show some (AV.v (.int .i64 (IntKind.i64.wrap ((i : Int) + 1)))) = _
      rw [w64 (by omega) (by omega)]; rfl
  all_goals
    have hil : i = s.size := by omega
    have h4 := hi4 (by omega)
    rw [hil, List.drop_of_length_le (by rw [bl_len]; omega), valN_nil] at h4
    unfold capN at hi2
    have hm : min (numOf s) capN = a := by unfold capN at h4 ⊢; omega
    rw [hm]
  · have hmn : minusB s = true := by
      unfold minusB
      rw [(sgnB_iff s).2 ⟨by omega, .inl (by omega)⟩, decide_eq_true (by omega)]; rfl
    rw [hmn, if_pos rfl]
    exact gives (St.le_refl _) (fin_one (.wk (Wk.of_eq (by show AV.v (.int .i64 (IntKind.i64.wrap (0 - (a : Int)))) = _; rw [w64 (by omega) (by omega)]; congr 2; omega))))
  · have hmn : minusB s = false := by
      unfold minusB
      rw [decide_eq_false (by omega), Bool.and_false]
    rw [hmn]
    exact gives (St.le_refl _) (Fin.refl _ _ _)
/-! ### Check -/
def nilS : ByteArray := ⟨#[110, 105, 108]⟩
def checkE (k n : Int) (s : ByteArray) : Int :=
  if 2 < k then 9 else if (¬ k = 1 ∧ ¬ n = 0) ∨ (¬ k = 2 ∧ ¬ s = ⟨#[]⟩) then 4 else if n < -1099511627776 ∨ 1099511627776 < n then 12 else if k = 2 ∧ (isNumB s = true ∨ wordB s = false ∨ s = nilS) then 6 else 0
theorem St.le_new {σ : St} {a : Nat} {x : AObj} (ha : σ a = none) : σ.le (σ.set a x) := St.le_set _ ha
theorem p_check (k n : Int) (s : ByteArray) : Pure Tryd.prog 13 [vv k n s] (.v (.int .i64 (checkE k n s))) := by
  refine enterW Tryd.func13 rfl rfl rfl rfl (fun σ => ?_)
  repeat' (first|(first|(refine jl ?_;first|refine j7 ?_|refine j8 ?_|refine j10 ?_|refine j11 ?_|refine jtf ?_|refine j1 ?_|refine j2 ?_|refine j3 ?_|refine j3f ?_|refine j4 ?_|refine j5 ?_|refine j6 ?_|refine j9 ?_|refine j12 (fun id hid=>?_)|refine j13 (fun id hid=>?_)|refine j14 ?_|refine j15 ?_|refine j17 ?_|refine j16 ?_|refine j18 ?_|refine j19 ?_|refine j20 ?_|refine j21 ?_|refine j23 ?_|refine j24 ?_|refine j25 ?_|refine j26 ?_|refine jeq ?_|refine jeqq ?_|refine jne ?_|refine jneq ?_|refine jcbq ?_|refine j22 (fun id hid=>?_)|refine jp (p_digits _) ?_|refine jpy (p_digits _) ?_|refine jcq (hp:=fun hc=>p_digits _) ?_|refine jp (p_word _) ?_|refine jpy (p_word _) ?_|refine jcq (hp:=fun hc=>p_word _) ?_)|(refine dl ?_;first|refine d7 ?_|refine d8 ?_|refine d10 ?_|refine d11 ?_|refine dtf ?_|refine d1 ?_|refine d2 ?_|refine d3 ?_|refine d3f ?_|refine d4 ?_|refine d9 ?_|refine d14 ?_|refine d14a ?_|refine d15 ?_|refine d16 ?_|refine d18 ?_|refine d19 ?_|refine d20 ?_|refine d21 ?_|refine d17 ?_|refine deq ?_|refine deqq ?_|refine dne ?_|refine dneq ?_|refine dcb ?_|refine dcbq ?_|refine dp (p_digits _) ?_|refine dpy (p_digits _) ?_|refine dpq (hp:=fun hc=>p_digits _) ?_|refine dp (p_word _) ?_|refine dpy (p_word _) ?_|refine dpq (hp:=fun hc=>p_word _) ?_)|(refine jc ?_;first|refine c1 ?_|refine c2 ?_|refine c3 ?_|refine c4 ?_|refine c5 ?_|refine c6 ?_|refine c7 ?_|refine c8 ?_|refine cq ?_)|refine n1 ?_|refine n2 ?_|refine n3 ?_|refine n4 ?_|refine n5 ?_|refine n6 ?_|refine n7 ?_|refine n8 ?_|refine n9 ?_|refine n10 ?_|refine n13 ?_|refine n11 ?_|refine n12 ?_|refine n14 ?_|refine n15 ?_|refine n16 ?_)|(refine c9 (fun h=>?_) (fun h=>?_)<;>(try simp only [Bool.or_eq_true, Bool.and_eq_true, Bool.or_eq_false_iff, Bool.and_eq_false_iff, Bool.not_eq_true', Bool.not_eq_false', decide_eq_true_eq, decide_eq_false_iff_not, Bool.false_eq_true, Bool.true_eq_false, reduceCtorEq] at h)))
  all_goals refine gives (St.le_set _ hid) (fin_one (.wk (Wk.of_eq ?_)))
  all_goals simp only [ofLeaf, AV.v.injEq, Value.int.injEq, true_and]
  all_goals unfold checkE nilS
  all_goals grind
theorem p_rcheck (k n : Int) (s : ByteArray) (hz : s.size ≤ 9223372036854775807) : Pure Tryd.prog 14 [vv k n s] (.v (.int .i64 (checkE k n s))) := by
  refine enterW Tryd.func14 rfl rfl rfl rfl (fun σ => ?_)
  repeat' (first|(first|(refine jl ?_;first|refine j7 ?_|refine j8 ?_|refine j10 ?_|refine j11 ?_|refine jtf ?_|refine j1 ?_|refine j2 ?_|refine j3 ?_|refine j3f ?_|refine j4 ?_|refine j5 ?_|refine j6 ?_|refine j9 ?_|refine j12 (fun id hid=>?_)|refine j13 (fun id hid=>?_)|refine j14 ?_|refine j15 ?_|refine j17 ?_|refine j16 ?_|refine j18 ?_|refine j19 ?_|refine j20 ?_|refine j21 ?_|refine j23 ?_|refine j24 ?_|refine j25 ?_|refine j26 ?_|refine jeq ?_|refine jeqq ?_|refine jne ?_|refine jneq ?_|refine jcbq ?_|refine j22 (fun id hid=>?_)|refine jp (p_risnum _ hz) ?_|refine jpy (p_risnum _ hz) ?_|refine jcq (hp:=fun hc=>p_risnum _ hz) ?_|refine jp (p_rword _) ?_|refine jpy (p_rword _) ?_|refine jcq (hp:=fun hc=>p_rword _) ?_)|(refine dl ?_;first|refine d7 ?_|refine d8 ?_|refine d10 ?_|refine d11 ?_|refine dtf ?_|refine d1 ?_|refine d2 ?_|refine d3 ?_|refine d3f ?_|refine d4 ?_|refine d9 ?_|refine d14 ?_|refine d14a ?_|refine d15 ?_|refine d16 ?_|refine d18 ?_|refine d19 ?_|refine d20 ?_|refine d21 ?_|refine d17 ?_|refine deq ?_|refine deqq ?_|refine dne ?_|refine dneq ?_|refine dcb ?_|refine dcbq ?_|refine dp (p_risnum _ hz) ?_|refine dpy (p_risnum _ hz) ?_|refine dpq (hp:=fun hc=>p_risnum _ hz) ?_|refine dp (p_rword _) ?_|refine dpy (p_rword _) ?_|refine dpq (hp:=fun hc=>p_rword _) ?_)|(refine jc ?_;first|refine c1 ?_|refine c2 ?_|refine c3 ?_|refine c4 ?_|refine c5 ?_|refine c6 ?_|refine c7 ?_|refine c8 ?_|refine cq ?_)|refine n1 ?_|refine n2 ?_|refine n3 ?_|refine n4 ?_|refine n5 ?_|refine n6 ?_|refine n7 ?_|refine n8 ?_|refine n9 ?_|refine n10 ?_|refine n13 ?_|refine n11 ?_|refine n12 ?_|refine n14 ?_|refine n15 ?_|refine n16 ?_)|(refine c9 (fun h=>?_) (fun h=>?_)<;>(try simp only [Bool.or_eq_true, Bool.and_eq_true, Bool.or_eq_false_iff, Bool.and_eq_false_iff, Bool.not_eq_true', Bool.not_eq_false', decide_eq_true_eq, decide_eq_false_iff_not, Bool.false_eq_true, Bool.true_eq_false, reduceCtorEq] at h)))
  all_goals refine gives (St.le_set _ hid) (fin_one (.wk (Wk.of_eq ?_)))
  all_goals simp only [ofLeaf, AV.v.injEq, Value.int.injEq, true_and]
  all_goals unfold checkE nilS
  all_goals grind
end Go.Proofs.YtledbkkaaomjpabDoor.Ab
