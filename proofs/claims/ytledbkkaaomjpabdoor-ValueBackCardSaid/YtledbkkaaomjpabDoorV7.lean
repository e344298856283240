/- Values: words that are numbers. -/
import Derived.Test.YtledbkkaaomjpabDoorV6
set_option linter.unusedVariables false
set_option linter.unusedSimpArgs false
namespace Go.Proofs.YtledbkkaaomjpabDoor.Ab
open Go
attribute [local irreducible] thn inb endR CJ LJ OpJ DJ

abbrev dig (n : Nat) : Prop := 48 ≤ n ∧ n ≤ 57
/-- All bytes are digits. -/
def digB : List UInt8 → Bool
  | [] => true
  | b :: l => decide (dig b.toNat) && digB l
/-- A sign stands ahead. -/
def sgnB (s : ByteArray) : Bool := decide (0 < s.size) && (decide (bt s 0 = 45) || decide (bt s 0 = 43))
def bodyS (s : ByteArray) : ByteArray := if sgnB s then s.extract 1 s.size else s
def minusB (s : ByteArray) : Bool := sgnB s && decide (bt s 0 = 45)
def allD (s : ByteArray) : Bool := digB (bodyS s).data.toList
def isNumB (s : ByteArray) : Bool := allD s && decide (0 < (bodyS s).size)
theorem sgnB_iff (s : ByteArray) : sgnB s = true ↔ 0 < s.size ∧ (bt s 0 = 45 ∨ bt s 0 = 43) := by simp [sgnB]
theorem sb0 (s : ByteArray) : sb s 0 = (bt s 0 : Int) := rfl
theorem decodeL_high (b : UInt8) (t : List UInt8) (h : 128 ≤ b.toNat) : 128 ≤ (Lib.decodeL (b :: t)).1 := by
  have hb : b.toNat < 256 := b.toNat_lt
  rw [Lib.decodeL_N]
  unfold Lib.decodeN
  have e : ((b :: t).getD 0 0).toNat = b.toNat := rfl
  rw [e]
  repeat' split
  all_goals dsimp only
  all_goals omega
/-- One step of a walk by code points, as to digits. -/
theorem digB_step (l : List UInt8) (hne : l ≠ []) : digB l = (decide (dig (Lib.decodeL l).1) && digB (l.drop (Lib.decodeL l).2)) := by
  cases l with
  | nil => exact absurd rfl hne
  | cons b t =>
    by_cases hb : b.toNat < 128
    · rw [Lib.decodeL_ascii b t hb]; rfl
    · have := decodeL_high b t (by omega)
      rw [decide_eq_false (by omega : ¬ dig (Lib.decodeL (b :: t)).1), Bool.false_and]
      unfold digB
      rw [decide_eq_false (by omega : ¬ dig b.toNat), Bool.false_and]
theorem ne_empty (s : ByteArray) : (!decide (s = ⟨#[]⟩)) = decide (0 < s.size) := by
  by_cases h : s = ⟨#[]⟩
  · subst h; rfl
  · rw [decide_eq_false h, decide_eq_true]
    · rfl
    · rcases Nat.eq_zero_or_pos s.size with h0 | h0
      · exact absurd (ByteArray.ext (Array.eq_empty_of_size_eq_zero h0)) h
      · exact h0
theorem drop_bt (s : ByteArray) (i : Nat) (h : i < s.size) : s.data.toList.drop i = s.data.toList[i]'(by rw [bl_len]; exact h) :: s.data.toList.drop (i + 1) ∧ (s.data.toList[i]'(by rw [bl_len]; exact h)).toNat = bt s i := by
  have hl : i < s.data.toList.length := by rw [bl_len]; exact h
  refine ⟨(List.drop_eq_getElem_cons hl), ?_⟩
  unfold bt
  rw [List.getD_eq_getElem?_getD, List.getElem?_eq_getElem hl]
  rfl
theorem p_digits (s : ByteArray) : Pure Tryd.prog 25 [.v (.string s)] (.tup [.v (.string (if allD s then bodyS s else ⟨#[]⟩)), .v (.bool (allD s && minusB s)), .v (.bool (isNumB s))]) := by
  refine enterW Tryd.func25 rfl rfl rfl rfl (fun σ => ?_)
  repeat' (first|(first|(refine jl ?_;first|refine j7 ?_|refine j8 ?_|refine j10 ?_|refine j11 ?_|refine jtf ?_|refine j1 ?_|refine j2 ?_|refine j3 ?_|refine j3f ?_|refine j4 ?_|refine j5 ?_|refine j6 ?_|refine j9 ?_|refine j12 (fun id hid=>?_)|refine j13 (fun id hid=>?_)|refine j14 ?_|refine j15 ?_|refine j17 ?_|refine j16 ?_|refine j18 ?_|refine j19 ?_|refine j20 ?_|refine j21 ?_|refine j23 ?_|refine j24 ?_|refine j25 ?_|refine j26 ?_|refine jeq ?_|refine jeqq ?_|refine jne ?_|refine jneq ?_|refine jcbq ?_|refine j22 (fun id hid=>?_))|(refine dl ?_;first|refine d7 ?_|refine d8 ?_|refine d10 ?_|refine d11 ?_|refine dtf ?_|refine d1 ?_|refine d2 ?_|refine d3 ?_|refine d3f ?_|refine d4 ?_|refine d9 ?_|refine d14 ?_|refine d14a ?_|refine d15 ?_|refine d16 ?_|refine d18 ?_|refine d19 ?_|refine d20 ?_|refine d21 ?_|refine d17 ?_|refine deq ?_|refine deqq ?_|refine dne ?_|refine dneq ?_|refine dcb ?_|refine dcbq ?_)|(refine jc ?_;first|refine c1 ?_|refine c2 ?_|refine c3 ?_|refine c4 ?_|refine c5 ?_|refine c6 ?_|refine c7 ?_|refine c8 ?_|refine cq ?_)|refine n1 ?_|refine n2 ?_|refine n3 ?_|refine n4 ?_|refine n5 ?_|refine n6 ?_|refine n7 ?_|refine n8 ?_|refine n9 ?_|refine n10 ?_|refine n13 ?_|refine n11 ?_|refine n12 ?_|refine n14 ?_|refine n15 ?_|refine n16 ?_)|(refine c9 (fun h=>?_) (fun h=>?_)<;>(try simp only [Bool.or_eq_true, Bool.and_eq_true, Bool.or_eq_false_iff, Bool.and_eq_false_iff, Bool.not_eq_true', Bool.not_eq_false', decide_eq_true_eq, decide_eq_false_iff_not, Bool.false_eq_true, Bool.true_eq_false, reduceCtorEq] at h)))
  case' refine_1 =>
    rw [sb0] at h
    have hs : sgnB s = true := (sgnB_iff s).2 (by omega)
    have hb : bodyS s = s.extract 1 s.size := by rw [bodyS, if_pos hs]
    have hm : minusB s = decide (sb s 0 = 45) := by rw [minusB, hs, Bool.true_and, sb0]; exact decide_eq_decide.2 (by omega)
    refine cj_head (fun p : Nat => digB ((bodyS s).data.toList.drop p) = allD s) (fun p => [(27, .it id), (2, .v (.string (bodyS s))), (3, .v (.bool (minusB s)))]) (fun p => σ.set id (.siter (bodyS s) p)) (fun p => (bodyS s).size - p) 0 rfl ⟨rfl, by rw [hb]; rfl, by rw [hm]; rfl, trivial⟩ (by rw [hb]; exact St.le_refl _) (fun p hp => ?_)
  case' refine_2 =>
    rw [sb0] at h
    have hs : sgnB s = false := Bool.eq_false_iff.2 fun e => by have := (sgnB_iff s).1 e; omega
    have hb : bodyS s = s := by rw [bodyS, hs]; rfl
    have hm : minusB s = false := by rw [minusB, hs]; rfl
    refine cj_head (fun p : Nat => digB ((bodyS s).data.toList.drop p) = allD s) (fun p => [(27, .it id), (2, .v (.string (bodyS s))), (3, .v (.bool (minusB s)))]) (fun p => σ.set id (.siter (bodyS s) p)) (fun p => (bodyS s).size - p) 0 rfl ⟨rfl, by rw [hb]; rfl, by rw [hm]; rfl, trivial⟩ (by rw [hb]; exact St.le_refl _) (fun p hp => ?_)
  all_goals
    have hlen := bl_len (bodyS s)
    by_cases hlt : p < (bodyS s).size
  all_goals try rw [List.drop_of_length_le (by omega)] at hp
  all_goals try
    have hne : (bodyS s).data.toList.drop p ≠ [] := fun e => by
      have := congrArg List.length e
      rw [List.length_drop] at this
      simp at this
      omega
    have hstep := digB_step _ hne
    have hdw := Lib.decodeL_width ((bodyS s).data.toList.drop p)
    rw [List.drop_drop, hp] at hstep
  repeat' (first|(first|(refine jl ?_;first|refine j7 ?_|refine j8 ?_|refine j10 ?_|refine j11 ?_|refine jtf ?_|refine j1 ?_|refine j2 ?_|refine j3 ?_|refine j3f ?_|refine j4 ?_|refine j5 ?_|refine j6 ?_|refine j9 ?_|refine j12 (fun id hid=>?_)|refine j13 (fun id hid=>?_)|refine j14 ?_|refine j15 ?_|refine j17 ?_|refine j16 ?_|refine j18 ?_|refine j19 ?_|refine j20 ?_|refine j21 ?_|refine j23 ?_|refine j24 ?_|refine j25 ?_|refine j26 ?_|refine jeq ?_|refine jeqq ?_|refine jne ?_|refine jneq ?_|refine jcbq ?_|refine j22 (fun id hid=>?_))|(refine dl ?_;first|refine d7 ?_|refine d8 ?_|refine d10 ?_|refine d11 ?_|refine dtf ?_|refine d1 ?_|refine d2 ?_|refine d3 ?_|refine d3f ?_|refine d4 ?_|refine d9 ?_|refine d14 ?_|refine d14a ?_|refine d15 ?_|refine d16 ?_|refine d18 ?_|refine d19 ?_|refine d20 ?_|refine d21 ?_|refine d17 ?_|refine deq ?_|refine deqq ?_|refine dne ?_|refine dneq ?_|refine dcb ?_|refine dcbq ?_)|(refine jc ?_;first|refine c1 ?_|refine c2 ?_|refine c3 ?_|refine c4 ?_|refine c5 ?_|refine c6 ?_|refine c7 ?_|refine c8 ?_|refine cq ?_)|refine n1 ?_|refine n2 ?_|refine n3 ?_|refine n4 ?_|refine n5 ?_|refine n6 ?_|refine n7 ?_|refine n8 ?_|refine n9 ?_|refine n10 ?_|refine n13 ?_|refine n11 ?_|refine n12 ?_|refine n14 ?_|refine n15 ?_|refine n16 ?_)|(refine c9 (fun h=>?_) (fun h=>?_)<;>(try simp only [Bool.or_eq_true, Bool.and_eq_true, Bool.or_eq_false_iff, Bool.and_eq_false_iff, Bool.not_eq_true', Bool.not_eq_false', decide_eq_true_eq, decide_eq_false_iff_not, Bool.false_eq_true, Bool.true_eq_false, reduceCtorEq] at h)))
  all_goals try rw [decodeL_rune'] at h
  all_goals first
    | (have ha : allD s = false := by rw [hstep, decide_eq_false (by omega), Bool.false_and]
       exact gives (by rw [St.set_set]; exact St.le_set _ hid) (fin_three (.wk (Wk.of_eq (by rw [ha]; rfl))) (.wk (Wk.of_eq (by rw [ha]; rfl))) (.wk (Wk.of_eq (by rw [isNumB, ha]; rfl)))))
    | (rw [decide_eq_true (by omega), Bool.true_and] at hstep
       exact nx_thn ⟨p + (Utf8.decode (bodyS s) p).2, by rw [decodeL_rune']; exact hstep.symm, by rw [decodeL_rune']; omega, ⟨rfl, rfl, rfl, trivial⟩, by rw [St.set_set]; exact St.le_refl _⟩)
    | (have ha : allD s = true := hp.symm
       refine gives (St.le_set _ hid) (fin_three (.wk (Wk.of_eq (by rw [ha, if_pos rfl]))) (.wk (Wk.of_eq (by rw [ha, Bool.true_and]))) (.wk (Wk.of_eq ?_)))
       rw [isNumB, ha, Bool.true_and, ne_empty])
theorem p_risnum (s : ByteArray) (hz : s.size ≤ 9223372036854775807) : Pure Tryd.prog 26 [.v (.string s)] (.v (.bool (isNumB s))) := by
  refine enterW Tryd.func26 rfl rfl rfl rfl (fun σ => ?_)
  repeat' (first|(first|(refine jl ?_;first|refine j7 ?_|refine j8 ?_|refine j10 ?_|refine j11 ?_|refine jtf ?_|refine j1 ?_|refine j2 ?_|refine j3 ?_|refine j3f ?_|refine j4 ?_|refine j5 ?_|refine j6 ?_|refine j9 ?_|refine j12 (fun id hid=>?_)|refine j13 (fun id hid=>?_)|refine j14 ?_|refine j15 ?_|refine j17 ?_|refine j16 ?_|refine j18 ?_|refine j19 ?_|refine j20 ?_|refine j21 ?_|refine j23 ?_|refine j24 ?_|refine j25 ?_|refine j26 ?_|refine jeq ?_|refine jeqq ?_|refine jne ?_|refine jneq ?_|refine jcbq ?_|refine j22 (fun id hid=>?_))|(refine dl ?_;first|refine d7 ?_|refine d8 ?_|refine d10 ?_|refine d11 ?_|refine dtf ?_|refine d1 ?_|refine d2 ?_|refine d3 ?_|refine d3f ?_|refine d4 ?_|refine d9 ?_|refine d14 ?_|refine d14a ?_|refine d15 ?_|refine d16 ?_|refine d18 ?_|refine d19 ?_|refine d20 ?_|refine d21 ?_|refine d17 ?_|refine deq ?_|refine deqq ?_|refine dne ?_|refine dneq ?_|refine dcb ?_|refine dcbq ?_)|(refine jc ?_;first|refine c1 ?_|refine c2 ?_|refine c3 ?_|refine c4 ?_|refine c5 ?_|refine c6 ?_|refine c7 ?_|refine c8 ?_|refine cq ?_)|refine n1 ?_|refine n2 ?_|refine n3 ?_|refine n4 ?_|refine n5 ?_|refine n6 ?_|refine n7 ?_|refine n8 ?_|refine n9 ?_|refine n10 ?_|refine n13 ?_|refine n11 ?_|refine n12 ?_|refine n14 ?_|refine n15 ?_|refine n16 ?_)|(refine c9 (fun h=>?_) (fun h=>?_)<;>(try simp only [Bool.or_eq_true, Bool.and_eq_true, Bool.or_eq_false_iff, Bool.and_eq_false_iff, Bool.not_eq_true', Bool.not_eq_false', decide_eq_true_eq, decide_eq_false_iff_not, Bool.false_eq_true, Bool.true_eq_false, reduceCtorEq] at h)))
  case' refine_1 =>
    rw [sb0] at h
    have hs : sgnB s = true := (sgnB_iff s).2 (by omega)
    have hb : bodyS s = s.extract 1 s.size := by rw [bodyS, if_pos hs]
    have hlz : (bodyS s).size ≤ s.size := by rw [hb, Lib.ext_size]; omega
    refine cj_head (fun i : Nat => digB ((bodyS s).data.toList.drop i) = allD s ∧ i ≤ (bodyS s).size) (fun i => [(0, .v (.string (bodyS s))), (3, .v (.int .i64 i))]) (fun _ => σ) (fun i => (bodyS s).size - i) 0 ⟨rfl, Nat.zero_le _⟩ ⟨by rw [hb]; rfl, rfl, trivial⟩ (St.le_refl _) (fun i hi => ?_)
  case' refine_2 =>
    rw [sb0] at h
    have hs : sgnB s = false := Bool.eq_false_iff.2 fun e => by have := (sgnB_iff s).1 e; omega
    have hb : bodyS s = s := by rw [bodyS, hs]; rfl
    have hlz : (bodyS s).size ≤ s.size := by rw [hb]; exact Nat.le_refl _
    refine cj_head (fun i : Nat => digB ((bodyS s).data.toList.drop i) = allD s ∧ i ≤ (bodyS s).size) (fun i => [(0, .v (.string (bodyS s))), (3, .v (.int .i64 i))]) (fun _ => σ) (fun i => (bodyS s).size - i) 0 ⟨rfl, Nat.zero_le _⟩ ⟨by rw [hb]; rfl, rfl, trivial⟩ (St.le_refl _) (fun i hi => ?_)
  all_goals
    obtain ⟨hi1, hi2⟩ := hi
    have hlen := bl_len (bodyS s)
  repeat' (first|(first|(refine jl ?_;first|refine j7 ?_|refine j8 ?_|refine j10 ?_|refine j11 ?_|refine jtf ?_|refine j1 ?_|refine j2 ?_|refine j3 ?_|refine j3f ?_|refine j4 ?_|refine j5 ?_|refine j6 ?_|refine j9 ?_|refine j12 (fun id hid=>?_)|refine j13 (fun id hid=>?_)|refine j14 ?_|refine j15 ?_|refine j17 ?_|refine j16 ?_|refine j18 ?_|refine j19 ?_|refine j20 ?_|refine j21 ?_|refine j23 ?_|refine j24 ?_|refine j25 ?_|refine j26 ?_|refine jeq ?_|refine jeqq ?_|refine jne ?_|refine jneq ?_|refine jcbq ?_|refine j22 (fun id hid=>?_))|(refine dl ?_;first|refine d7 ?_|refine d8 ?_|refine d10 ?_|refine d11 ?_|refine dtf ?_|refine d1 ?_|refine d2 ?_|refine d3 ?_|refine d3f ?_|refine d4 ?_|refine d9 ?_|refine d14 ?_|refine d14a ?_|refine d15 ?_|refine d16 ?_|refine d18 ?_|refine d19 ?_|refine d20 ?_|refine d21 ?_|refine d17 ?_|refine deq ?_|refine deqq ?_|refine dne ?_|refine dneq ?_|refine dcb ?_|refine dcbq ?_)|(refine jc ?_;first|refine c1 ?_|refine c2 ?_|refine c3 ?_|refine c4 ?_|refine c5 ?_|refine c6 ?_|refine c7 ?_|refine c8 ?_|refine cq ?_)|refine n1 ?_|refine n2 ?_|refine n3 ?_|refine n4 ?_|refine n5 ?_|refine n6 ?_|refine n7 ?_|refine n8 ?_|refine n9 ?_|refine n10 ?_|refine n13 ?_|refine n11 ?_|refine n12 ?_|refine n14 ?_|refine n15 ?_|refine n16 ?_)|(refine c9 (fun h=>?_) (fun h=>?_)<;>((try simp only [Bool.or_eq_true, Bool.and_eq_true, Bool.or_eq_false_iff, Bool.and_eq_false_iff, Bool.not_eq_true', Bool.not_eq_false', decide_eq_true_eq, decide_eq_false_iff_not, Bool.false_eq_true, Bool.true_eq_false, reduceCtorEq] at h) <;> (try simp (disch := omega) only [sb_bt, w64, Int.reduceAdd, Int.reduceToNat, Int.toNat_natCast, not_true_eq_false, false_or] at h) <;> (try (exfalso; omega)))))
  all_goals first
    | (obtain ⟨e1, e2⟩ := drop_bt (bodyS s) i (by omega)
       have ha : allD s = false := by
         rw [← hi1, e1]
         unfold digB
         rw [e2, decide_eq_false (by omega), Bool.false_and]
       exact gives (St.le_refl _) (fin_one (.wk (Wk.of_eq (by rw [isNumB, ha]; rfl)))))
    | (obtain ⟨e1, e2⟩ := drop_bt (bodyS s) i (by omega)
       have ha : digB ((bodyS s).data.toList.drop (i + 1)) = allD s := by
         rw [← hi1, e1, digB, e2, decide_eq_true (by omega), Bool.true_and]
       exact nx_thn ⟨i + 1, ⟨ha, by omega⟩, by omega, ⟨rfl, by show some (AV.v (.int .i64 (IntKind.i64.wrap ((i : Int) + 1)))) = _; rw [w64 (by omega) (by omega)]; rfl, trivial⟩, St.le_refl _⟩)
    | (have ha : allD s = true := by rw [← hi1, List.drop_of_length_le (by omega)]; rfl
       exact gives (St.le_refl _) (fin_one (.wk (Wk.of_eq (by rw [isNumB, ha, Bool.true_and]; congr 3; exact propext (by omega))))))
/-- The number that digits tell. -/
def valN (a : Nat) (l : List UInt8) : Nat := l.foldl (fun n b => 10 * n + (b.toNat - 48)) a
theorem valN_nil (a : Nat) : valN a [] = a := by unfold valN; exact List.foldl_nil
theorem valN_cons (a : Nat) (b : UInt8) (l : List UInt8) : valN a (b :: l) = valN (10 * a + (b.toNat - 48)) l := by unfold valN; exact List.foldl_cons ..
theorem valN_le : ∀ (l : List UInt8) (a : Nat), a ≤ valN a l
  | [], a => by rw [valN_nil]; exact Nat.le_refl _
  | b :: l, a => by
    have := valN_le l (10 * a + (b.toNat - 48))
    rw [valN_cons]
    omega
theorem valN_cap (m : Nat) : ∀ (l : List UInt8) (a : Nat), min (valN (min a m) l) m = min (valN a l) m
  | [], a => by rw [valN_nil, valN_nil, Nat.min_assoc, Nat.min_self]
  | b :: l, a => by
    rw [valN_cons, valN_cons]
    by_cases h : a ≤ m
    · rw [Nat.min_eq_left h]
    · rw [Nat.min_eq_right (show m ≤ a by omega)]
      have h1 := valN_le l (10 * m + (b.toNat - 48))
      have h2 := valN_le l (10 * a + (b.toNat - 48))
      rw [Nat.min_eq_right (show m ≤ valN (10 * m + (b.toNat - 48)) l by omega), Nat.min_eq_right (show m ≤ valN (10 * a + (b.toNat - 48)) l by omega)]
theorem digB_get (s : ByteArray) (i k : Nat) (h : digB (s.data.toList.drop k) = true) (h1 : k ≤ i) (h2 : i < s.size) : dig (bt s i) := by
  have key : ∀ (n k : Nat), digB (s.data.toList.drop k) = true → k + n < s.size → dig (bt s (k + n)) := by
    intro n
    induction n with
    | zero =>
      intro k h hlt
      obtain ⟨e1, e2⟩ := drop_bt s k (by omega)
      rw [e1, digB, e2] at h
      simp only [Bool.and_eq_true, decide_eq_true_eq] at h
      exact h.1
    | succ n ih =>
      intro k h hlt
      obtain ⟨e1, e2⟩ := drop_bt s k (by omega)
      rw [e1, digB] at h
      simp only [Bool.and_eq_true] at h
      have := ih (k + 1) h.2 (by omega)
      rwa [show k + 1 + n = k + (n + 1) by omega] at this
  have := key (i - k) k h (by omega)
  rwa [show k + (i - k) = i by omega] at this
def numOf (s : ByteArray) : Nat := valN 0 (bodyS s).data.toList
end Go.Proofs.YtledbkkaaomjpabDoor.Ab
