/- Values: words. -/
import Derived.Test.YtledbkkaaomjpabDoorV4
import Derived.Test.YtledbkkaaomjpabDoorV5
import Derived.Lib.ValidLaws
set_option linter.unusedVariables false
set_option linter.unusedSimpArgs false
namespace Go.Proofs.YtledbkkaaomjpabDoor.Ab
open Go
attribute [local irreducible] thn inb endR CJ LJ OpJ DJ

/-- All code points of a text may stand in a word; each one is right. -/
def wordF : Nat → List UInt8 → Bool
  | 0, _ => true
  | n + 1, l => if l = [] then true else if (Lib.decodeL l).1 = 65533 ∧ (Lib.decodeL l).2 = 1 then false else decide (inP (Lib.decodeL l).1) && wordF n (l.drop (Lib.decodeL l).2)
theorem wordF_nil (n : Nat) : wordF n [] = true := by cases n <;> rfl
theorem wordF_fuel : ∀ (n m : Nat) (l : List UInt8), l.length ≤ n → l.length ≤ m → wordF n l = wordF m l
  | 0, m, l, hn, _ => by
    have : l = [] := List.eq_nil_of_length_eq_zero (by omega)
    subst this
    rw [wordF_nil, wordF_nil]
  | n + 1, 0, l, _, hm => by
    have : l = [] := List.eq_nil_of_length_eq_zero (by omega)
    subst this
    rw [wordF_nil, wordF_nil]
  | n + 1, m + 1, l, hn, hm => by
    unfold wordF
    by_cases hne : l = []
    · simp [hne]
    · have hw := Lib.decodeL_width l
      have hl : 0 < l.length := List.length_pos_iff.2 hne
      rw [if_neg hne, if_neg hne, wordF_fuel n m (l.drop (Lib.decodeL l).2) (by rw [List.length_drop]; omega) (by rw [List.length_drop]; omega)]
def wordL (l : List UInt8) : Bool := wordF l.length l
theorem wordL_nil : wordL [] = true := rfl
theorem wordL_step (l : List UInt8) (hne : l ≠ []) : wordL l = if (Lib.decodeL l).1 = 65533 ∧ (Lib.decodeL l).2 = 1 then false else decide (inP (Lib.decodeL l).1) && wordL (l.drop (Lib.decodeL l).2) := by
  have hl : 0 < l.length := List.length_pos_iff.2 hne
  have hw := Lib.decodeL_width l
  obtain ⟨n, hn⟩ : ∃ n, l.length = n + 1 := ⟨l.length - 1, by omega⟩
  unfold wordL
  rw [hn]
  show (if l = [] then true else _) = _
  rw [if_neg hne, wordF_fuel n (l.drop (Lib.decodeL l).2).length _ (by rw [List.length_drop]; omega) (Nat.le_refl _)]
/-- What the walk over a right text tells. -/
theorem wordL_valid (l : List UInt8) (hne : l ≠ []) (hv : Lib.validD l = true) : wordL l = (decide (inP (Lib.decodeL l).1) && wordL (l.drop (Lib.decodeL l).2)) ∧ Lib.validD (l.drop (Lib.decodeL l).2) = true := by
  rw [Lib.validD_step l hne] at hv
  split at hv
  · cases hv
  · rename_i h
    rw [wordL_step l hne, if_neg h]
    exact ⟨rfl, hv⟩
theorem wordL_bad (n : Nat) : ∀ (l : List UInt8), l.length ≤ n → Lib.validD l = false → wordL l = false := by
  induction n with
  | zero =>
    intro l hl hv
    have : l = [] := List.eq_nil_of_length_eq_zero (by omega)
    subst this
    cases hv
  | succ n ih =>
    intro l hl hv
    by_cases hne : l = []
    · subst hne; cases hv
    · have hw := Lib.decodeL_width l
      have hl0 : 0 < l.length := List.length_pos_iff.2 hne
      rw [wordL_step l hne]
      rw [Lib.validD_step l hne] at hv
      split
      · rfl
      · rename_i h
        rw [if_neg h] at hv
        rw [ih _ (by rw [List.length_drop]; omega) hv, Bool.and_false]
def wordB (s : ByteArray) : Bool := decide (0 < s.size) && (decide (s.size ≤ 24) && wordL s.data.toList)
theorem bl_len (s : ByteArray) : s.data.toList.length = s.size := by rw [Array.length_toList]; rfl
theorem decodeL_rune' (s : ByteArray) (pos : Nat) : Utf8.decode s pos = Lib.decodeL (s.data.toList.drop pos) := (Lib.decodeL_drop s pos).symm
theorem p_word (s : ByteArray) : Pure Tryd.prog 11 [.v (.string s)] (.v (.bool (wordB s))) := by
  refine enterW Tryd.func11 rfl rfl rfl rfl (fun σ => ?_)
  repeat' (first|(first|(refine jl ?_;first|refine j7 ?_|refine j8 ?_|refine j10 ?_|refine j11 ?_|refine jtf ?_|refine j1 ?_|refine j2 ?_|refine j3 ?_|refine j3f ?_|refine j4 ?_|refine j5 ?_|refine j6 ?_|refine j9 ?_|refine j12 (fun id hid=>?_)|refine j13 (fun id hid=>?_)|refine j14 ?_|refine j15 ?_|refine j17 ?_|refine j16 ?_|refine j18 ?_|refine j19 ?_|refine j20 ?_|refine j21 ?_|refine j23 ?_|refine j24 ?_|refine j25 ?_|refine j26 ?_|refine jeq ?_|refine jeqq ?_|refine jne ?_|refine jneq ?_|refine jcbq ?_|refine j22 (fun id hid=>?_)|refine jp (p_valid s (by simp only [Bool.and_eq_true, decide_eq_true_eq, Bool.not_eq_true', Bool.or_eq_false_iff, decide_eq_false_iff_not] at hc; omega)) ?_|refine jpy (p_valid s (by simp only [Bool.and_eq_true, decide_eq_true_eq, Bool.not_eq_true', Bool.or_eq_false_iff, decide_eq_false_iff_not] at hc; omega)) ?_|refine jcq (hp:=fun hc=>p_valid s (by simp only [Bool.and_eq_true, decide_eq_true_eq, Bool.not_eq_true', Bool.or_eq_false_iff, decide_eq_false_iff_not] at hc; omega)) ?_)|(refine dl ?_;first|refine d7 ?_|refine d8 ?_|refine d10 ?_|refine d11 ?_|refine dtf ?_|refine d1 ?_|refine d2 ?_|refine d3 ?_|refine d3f ?_|refine d4 ?_|refine d9 ?_|refine d14 ?_|refine d14a ?_|refine d15 ?_|refine d16 ?_|refine d18 ?_|refine d19 ?_|refine d20 ?_|refine d21 ?_|refine d17 ?_|refine deq ?_|refine deqq ?_|refine dne ?_|refine dneq ?_|refine dcb ?_|refine dcbq ?_|refine dp (p_valid s (by simp only [Bool.and_eq_true, decide_eq_true_eq, Bool.not_eq_true', Bool.or_eq_false_iff, decide_eq_false_iff_not] at hc; omega)) ?_|refine dpy (p_valid s (by simp only [Bool.and_eq_true, decide_eq_true_eq, Bool.not_eq_true', Bool.or_eq_false_iff, decide_eq_false_iff_not] at hc; omega)) ?_|refine dpq (hp:=fun hc=>p_valid s (by simp only [Bool.and_eq_true, decide_eq_true_eq, Bool.not_eq_true', Bool.or_eq_false_iff, decide_eq_false_iff_not] at hc; omega)) ?_)|(refine jc ?_;first|refine c1 ?_|refine c2 ?_|refine c3 ?_|refine c4 ?_|refine c5 ?_|refine c6 ?_|refine c7 ?_|refine c8 ?_|refine cq ?_)|refine n1 ?_|refine n2 ?_|refine n3 ?_|refine n4 ?_|refine n5 ?_|refine n6 ?_|refine n7 ?_|refine n8 ?_|refine n9 ?_|refine n10 ?_|refine n13 ?_|refine n11 ?_|refine n12 ?_|refine n14 ?_|refine n15 ?_|refine n16 ?_)|(refine c9 (fun h=>?_) (fun h=>?_)<;>(try simp only [Bool.or_eq_true, Bool.and_eq_true, Bool.or_eq_false_iff, Bool.and_eq_false_iff, Bool.not_eq_true', Bool.not_eq_false', decide_eq_true_eq, decide_eq_false_iff_not, Bool.false_eq_true, Bool.true_eq_false, reduceCtorEq] at h)))
  · refine gives (St.le_refl _) (fin_one (.wk (Wk.of_eq ?_)))
    have hw : wordB s = false := by
      unfold wordB
      rcases h with (h | h) | h
      · rw [decide_eq_false (by omega)]; rfl
      · rw [decide_eq_false (by omega : ¬ s.size ≤ 24)]; simp
      · rw [wordL_bad _ _ (Nat.le_refl _) h]; simp
    rw [hw]
  · obtain ⟨h1, h2⟩ := h
    have hw : wordB s = wordL s.data.toList := by
      unfold wordB
      rw [decide_eq_true (by omega), decide_eq_true (by omega : s.size ≤ 24)]
      rfl
    rw [hw]
    have hlen := bl_len s
    refine cj_head (fun p : Nat => wordL (s.data.toList.drop p) = wordL s.data.toList ∧ Lib.validD (s.data.toList.drop p) = true) (fun p => [(19, .it id)]) (fun p => σ.set id (.siter s p)) (fun p => s.size - p) 0 ⟨rfl, h2⟩ ⟨rfl, trivial⟩ (St.le_refl _) (fun p hp => ?_)
    obtain ⟨hp1, hp2⟩ := hp
    by_cases hlt : p < s.size
    · have hne : s.data.toList.drop p ≠ [] := by
        intro e
        have := congrArg List.length e
        simp at this
        omega
      have hstep := wordL_valid _ hne hp2
      have hdw := Lib.decodeL_width (s.data.toList.drop p)
      rw [List.drop_drop] at hstep
      repeat' (first|(first|(refine jl ?_;first|refine j7 ?_|refine j8 ?_|refine j10 ?_|refine j11 ?_|refine jtf ?_|refine j1 ?_|refine j2 ?_|refine j3 ?_|refine j3f ?_|refine j4 ?_|refine j5 ?_|refine j6 ?_|refine j9 ?_|refine j12 (fun id hid=>?_)|refine j13 (fun id hid=>?_)|refine j14 ?_|refine j15 ?_|refine j17 ?_|refine j16 ?_|refine j18 ?_|refine j19 ?_|refine j20 ?_|refine j21 ?_|refine j23 ?_|refine j24 ?_|refine j25 ?_|refine j26 ?_|refine jeq ?_|refine jeqq ?_|refine jne ?_|refine jneq ?_|refine jcbq ?_|refine j22 (fun id hid=>?_)|refine jp (p_in _) ?_|refine jpy (p_in _) ?_|refine jcq (hp:=fun hc=>p_in _) ?_)|(refine dl ?_;first|refine d7 ?_|refine d8 ?_|refine d10 ?_|refine d11 ?_|refine dtf ?_|refine d1 ?_|refine d2 ?_|refine d3 ?_|refine d3f ?_|refine d4 ?_|refine d9 ?_|refine d14 ?_|refine d14a ?_|refine d15 ?_|refine d16 ?_|refine d18 ?_|refine d19 ?_|refine d20 ?_|refine d21 ?_|refine d17 ?_|refine deq ?_|refine deqq ?_|refine dne ?_|refine dneq ?_|refine dcb ?_|refine dcbq ?_|refine dp (p_in _) ?_|refine dpy (p_in _) ?_|refine dpq (hp:=fun hc=>p_in _) ?_)|(refine jc ?_;first|refine c1 ?_|refine c2 ?_|refine c3 ?_|refine c4 ?_|refine c5 ?_|refine c6 ?_|refine c7 ?_|refine c8 ?_|refine cq ?_)|refine n1 ?_|refine n2 ?_|refine n3 ?_|refine n4 ?_|refine n5 ?_|refine n6 ?_|refine n7 ?_|refine n8 ?_|refine n9 ?_|refine n10 ?_|refine n13 ?_|refine n11 ?_|refine n12 ?_|refine n14 ?_|refine n15 ?_|refine n16 ?_)|(refine c9 (fun h=>?_) (fun h=>?_)<;>(try simp only [Bool.or_eq_true, Bool.and_eq_true, Bool.or_eq_false_iff, Bool.and_eq_false_iff, Bool.not_eq_true', Bool.not_eq_false', decide_eq_true_eq, decide_eq_false_iff_not, Bool.false_eq_true, Bool.true_eq_false, reduceCtorEq] at h)))
      · rw [decodeL_rune'] at h
        refine gives (by rw [St.set_set]; exact St.le_set _ hid) (fin_one (.wk (Wk.of_eq ?_)))
        rw [← hp1, hstep.1, decide_eq_false h]
        rfl
      · rw [decodeL_rune'] at h
        refine nx_thn ⟨p + (Utf8.decode s p).2, ?_, ?_, ⟨rfl, trivial⟩, by rw [St.set_set]; exact St.le_refl _⟩
        · rw [decodeL_rune']
          refine ⟨?_, hstep.2⟩
          rw [← hp1, hstep.1, decide_eq_true h, Bool.true_and]
        · rw [decodeL_rune']
          omega
    · have hnil : s.data.toList.drop p = [] := List.drop_of_length_le (by omega)
      repeat' (first|(first|(refine jl ?_;first|refine j7 ?_|refine j8 ?_|refine j10 ?_|refine j11 ?_|refine jtf ?_|refine j1 ?_|refine j2 ?_|refine j3 ?_|refine j3f ?_|refine j4 ?_|refine j5 ?_|refine j6 ?_|refine j9 ?_|refine j12 (fun id hid=>?_)|refine j13 (fun id hid=>?_)|refine j14 ?_|refine j15 ?_|refine j17 ?_|refine j16 ?_|refine j18 ?_|refine j19 ?_|refine j20 ?_|refine j21 ?_|refine j23 ?_|refine j24 ?_|refine j25 ?_|refine j26 ?_|refine jeq ?_|refine jeqq ?_|refine jne ?_|refine jneq ?_|refine jcbq ?_|refine j22 (fun id hid=>?_))|(refine dl ?_;first|refine d7 ?_|refine d8 ?_|refine d10 ?_|refine d11 ?_|refine dtf ?_|refine d1 ?_|refine d2 ?_|refine d3 ?_|refine d3f ?_|refine d4 ?_|refine d9 ?_|refine d14 ?_|refine d14a ?_|refine d15 ?_|refine d16 ?_|refine d18 ?_|refine d19 ?_|refine d20 ?_|refine d21 ?_|refine d17 ?_|refine deq ?_|refine deqq ?_|refine dne ?_|refine dneq ?_|refine dcb ?_|refine dcbq ?_)|(refine jc ?_;first|refine c1 ?_|refine c2 ?_|refine c3 ?_|refine c4 ?_|refine c5 ?_|refine c6 ?_|refine c7 ?_|refine c8 ?_|refine cq ?_)|refine n1 ?_|refine n2 ?_|refine n3 ?_|refine n4 ?_|refine n5 ?_|refine n6 ?_|refine n7 ?_|refine n8 ?_|refine n9 ?_|refine n10 ?_|refine n13 ?_|refine n11 ?_|refine n12 ?_|refine n14 ?_|refine n15 ?_|refine n16 ?_)|(refine c9 (fun h=>?_) (fun h=>?_)<;>(try simp only [Bool.or_eq_true, Bool.and_eq_true, Bool.or_eq_false_iff, Bool.and_eq_false_iff, Bool.not_eq_true', Bool.not_eq_false', decide_eq_true_eq, decide_eq_false_iff_not, Bool.false_eq_true, Bool.true_eq_false, reduceCtorEq] at h)))
      refine gives (St.le_set _ hid) (fin_one (.wk (Wk.of_eq ?_)))
      rw [← hp1, hnil]
      rfl
/-! ### The reference -/
theorem runeS_dec (s : ByteArray) : runeS s = if (Lib.decodeL s.data.toList).1 = 65533 ∧ (Lib.decodeL s.data.toList).2 = 1 then (0, 0) else Lib.decodeL s.data.toList := by
  unfold runeS
  rw [runeN_dec _ _ _ _ _ (bt_lt s 0) (bt_lt s 1) (bt_lt s 2) (bt_lt s 3), Lib.decodeL_N, bl_len]
  rfl
def inSigns : ByteArray := ⟨#[95, 45, 63, 33, 43, 42, 46]⟩
theorem inSigns_has (i : Nat) (h : i < 7) : inP (bt inSigns i : Int) := by
  have : i = 0 ∨ i = 1 ∨ i = 2 ∨ i = 3 ∨ i = 4 ∨ i = 5 ∨ i = 6 := by omega
  rcases this with rfl | rfl | rfl | rfl | rfl | rfl | rfl <;> decide
theorem inSigns_all (c : Int) (h : inP c) (h1 : c < 128 ∧ (¬97 ≤ c ∨ ¬c ≤ 122) ∧ (¬65 ≤ c ∨ ¬c ≤ 90) ∧ (¬48 ≤ c ∨ ¬c ≤ 57)) : ∃ i, i < 7 ∧ (bt inSigns i : Int) = c := by
  unfold inP at h
  have : c = 95 ∨ c = 45 ∨ c = 63 ∨ c = 33 ∨ c = 43 ∨ c = 42 ∨ c = 46 := by omega
  rcases this with rfl | rfl | rfl | rfl | rfl | rfl | rfl
  · exact ⟨0, by omega, rfl⟩
  · exact ⟨1, by omega, rfl⟩
  · exact ⟨2, by omega, rfl⟩
  · exact ⟨3, by omega, rfl⟩
  · exact ⟨4, by omega, rfl⟩
  · exact ⟨5, by omega, rfl⟩
  · exact ⟨6, by omega, rfl⟩
theorem p_rinword (c : Int) : Pure Tryd.prog 31 [.v (.int .i64 c)] (.v (.bool (decide (inP c)))) := by
  refine enterW Tryd.func31 rfl rfl rfl rfl (fun σ => ?_)
  repeat' (first|(first|(refine jl ?_;first|refine j7 ?_|refine j8 ?_|refine j10 ?_|refine j11 ?_|refine jtf ?_|refine j1 ?_|refine j2 ?_|refine j3 ?_|refine j3f ?_|refine j4 ?_|refine j5 ?_|refine j6 ?_|refine j9 ?_|refine j12 (fun id hid=>?_)|refine j13 (fun id hid=>?_)|refine j14 ?_|refine j15 ?_|refine j17 ?_|refine j16 ?_|refine j18 ?_|refine j19 ?_|refine j20 ?_|refine j21 ?_|refine j23 ?_|refine j24 ?_|refine j25 ?_|refine j26 ?_|refine jeq ?_|refine jeqq ?_|refine jne ?_|refine jneq ?_|refine jcbq ?_|refine j22 (fun id hid=>?_))|(refine dl ?_;first|refine d7 ?_|refine d8 ?_|refine d10 ?_|refine d11 ?_|refine dtf ?_|refine d1 ?_|refine d2 ?_|refine d3 ?_|refine d3f ?_|refine d4 ?_|refine d9 ?_|refine d14 ?_|refine d14a ?_|refine d15 ?_|refine d16 ?_|refine d18 ?_|refine d19 ?_|refine d20 ?_|refine d21 ?_|refine d17 ?_|refine deq ?_|refine deqq ?_|refine dne ?_|refine dneq ?_|refine dcb ?_|refine dcbq ?_)|(refine jc ?_;first|refine c1 ?_|refine c2 ?_|refine c3 ?_|refine c4 ?_|refine c5 ?_|refine c6 ?_|refine c7 ?_|refine c8 ?_|refine cq ?_)|refine n1 ?_|refine n2 ?_|refine n3 ?_|refine n4 ?_|refine n5 ?_|refine n6 ?_|refine n7 ?_|refine n8 ?_|refine n9 ?_|refine n10 ?_|refine n13 ?_|refine n11 ?_|refine n12 ?_|refine n14 ?_|refine n15 ?_|refine n16 ?_)|(refine c9 (fun h=>?_) (fun h=>?_)<;>(try simp only [Bool.or_eq_true, Bool.and_eq_true, Bool.or_eq_false_iff, Bool.and_eq_false_iff, Bool.not_eq_true', Bool.not_eq_false', decide_eq_true_eq, decide_eq_false_iff_not, Bool.false_eq_true, Bool.true_eq_false, reduceCtorEq] at h)))
  · exact gives (St.le_refl _) (fin_one (.wk (in_yes (by unfold inP; omega))))
  · refine cj_head (fun i : Nat => i ≤ 7 ∧ ∀ j, j < i → (bt inSigns j : Int) ≠ c) (fun i => [(3, .v (.string inSigns)), (4, .v (.int .i64 i)), (0, .v (.int .i64 c))]) (fun _ => σ) (fun i => 7 - i) 0 ⟨by omega, fun j h => by omega⟩ ⟨rfl, rfl, rfl, trivial⟩ (St.le_refl _) (fun i hi => ?_)
    obtain ⟨hi1, hi2⟩ := hi
    have hz : inSigns.size = 7 := rfl
    have hb := bt_lt inSigns i
    repeat' (first|(first|(refine jl ?_;first|refine j7 ?_|refine j8 ?_|refine j10 ?_|refine j11 ?_|refine jtf ?_|refine j1 ?_|refine j2 ?_|refine j3 ?_|refine j3f ?_|refine j4 ?_|refine j5 ?_|refine j6 ?_|refine j9 ?_|refine j12 (fun id hid=>?_)|refine j13 (fun id hid=>?_)|refine j14 ?_|refine j15 ?_|refine j17 ?_|refine j16 ?_|refine j18 ?_|refine j19 ?_|refine j20 ?_|refine j21 ?_|refine j23 ?_|refine j24 ?_|refine j25 ?_|refine j26 ?_|refine jeq ?_|refine jeqq ?_|refine jne ?_|refine jneq ?_|refine jcbq ?_|refine j22 (fun id hid=>?_))|(refine dl ?_;first|refine d7 ?_|refine d8 ?_|refine d10 ?_|refine d11 ?_|refine dtf ?_|refine d1 ?_|refine d2 ?_|refine d3 ?_|refine d3f ?_|refine d4 ?_|refine d9 ?_|refine d14 ?_|refine d14a ?_|refine d15 ?_|refine d16 ?_|refine d18 ?_|refine d19 ?_|refine d20 ?_|refine d21 ?_|refine d17 ?_|refine deq ?_|refine deqq ?_|refine dne ?_|refine dneq ?_|refine dcb ?_|refine dcbq ?_)|(refine jc ?_;first|refine c1 ?_|refine c2 ?_|refine c3 ?_|refine c4 ?_|refine c5 ?_|refine c6 ?_|refine c7 ?_|refine c8 ?_|refine cq ?_)|refine n1 ?_|refine n2 ?_|refine n3 ?_|refine n4 ?_|refine n5 ?_|refine n6 ?_|refine n7 ?_|refine n8 ?_|refine n9 ?_|refine n10 ?_|refine n13 ?_|refine n11 ?_|refine n12 ?_|refine n14 ?_|refine n15 ?_|refine n16 ?_)|(refine c9 (fun h=>?_) (fun h=>?_)<;>((try simp only [Bool.or_eq_true, Bool.and_eq_true, Bool.or_eq_false_iff, Bool.and_eq_false_iff, Bool.not_eq_true', Bool.not_eq_false', decide_eq_true_eq, decide_eq_false_iff_not, Bool.false_eq_true, Bool.true_eq_false, reduceCtorEq] at h) <;> (try simp (disch := omega) only [sb_bt, w64, Int.reduceAdd, Int.reduceToNat, Int.toNat_natCast, not_true_eq_false, false_or] at h) <;> (try (exfalso; omega)))))
    · refine gives (St.le_refl _) (fin_one (.wk (in_yes ?_)))
      rw [← h]
      exact inSigns_has i (by omega)
    · exact nx_thn ⟨i + 1, ⟨by omega, fun j hj => by
        by_cases e : j = i
        · rw [e]; exact h
        · exact hi2 j (by omega)⟩, by omega, ⟨rfl, by show some (AV.v (.int .i64 (IntKind.i64.wrap ((i : Int) + 1)))) = _; rw [w64 (by omega) (by omega)]; rfl, rfl, trivial⟩, St.le_refl _⟩
    · rename_i h1
      refine gives (St.le_refl _) (fin_one (.wk (in_no fun hp => ?_)))
      obtain ⟨j, hj, he⟩ := inSigns_all c hp ⟨by omega, by omega, by omega, by omega⟩
      exact hi2 j (by omega) he
theorem wordL_ext (s : ByteArray) (hs : 0 < s.size) : wordL s.data.toList = if (runeS s).2 = 0 then false else decide (inP (runeS s).1) && wordL (s.extract (runeS s).2 s.size).data.toList := by
  have hne : s.data.toList ≠ [] := fun e => by
    have := bl_len s
    rw [e] at this
    exact absurd this (by simp; omega)
  have hw := Lib.decodeL_width s.data.toList
  rw [wordL_step _ hne, runeS_dec]
  split
  · rfl
  · rw [if_neg (by omega), Lib.ext_list]
theorem runeS_le (s : ByteArray) (hs : 0 < s.size) : (runeS s).2 ≤ s.size := by
  have hne : s.data.toList ≠ [] := fun e => by
    have := bl_len s
    rw [e] at this
    exact absurd this (by simp; omega)
  have := Lib.decodeL_le s.data.toList hne
  rw [bl_len] at this
  rw [runeS_dec]
  split
  · exact Nat.zero_le _
  · exact this
theorem p_rword (s : ByteArray) : Pure Tryd.prog 12 [.v (.string s)] (.v (.bool (wordB s))) := by
  refine enterW Tryd.func12 rfl rfl rfl rfl (fun σ => ?_)
  repeat' (first|(first|(refine jl ?_;first|refine j7 ?_|refine j8 ?_|refine j10 ?_|refine j11 ?_|refine jtf ?_|refine j1 ?_|refine j2 ?_|refine j3 ?_|refine j3f ?_|refine j4 ?_|refine j5 ?_|refine j6 ?_|refine j9 ?_|refine j12 (fun id hid=>?_)|refine j13 (fun id hid=>?_)|refine j14 ?_|refine j15 ?_|refine j17 ?_|refine j16 ?_|refine j18 ?_|refine j19 ?_|refine j20 ?_|refine j21 ?_|refine j23 ?_|refine j24 ?_|refine j25 ?_|refine j26 ?_|refine jeq ?_|refine jeqq ?_|refine jne ?_|refine jneq ?_|refine jcbq ?_|refine j22 (fun id hid=>?_))|(refine dl ?_;first|refine d7 ?_|refine d8 ?_|refine d10 ?_|refine d11 ?_|refine dtf ?_|refine d1 ?_|refine d2 ?_|refine d3 ?_|refine d3f ?_|refine d4 ?_|refine d9 ?_|refine d14 ?_|refine d14a ?_|refine d15 ?_|refine d16 ?_|refine d18 ?_|refine d19 ?_|refine d20 ?_|refine d21 ?_|refine d17 ?_|refine deq ?_|refine deqq ?_|refine dne ?_|refine dneq ?_|refine dcb ?_|refine dcbq ?_)|(refine jc ?_;first|refine c1 ?_|refine c2 ?_|refine c3 ?_|refine c4 ?_|refine c5 ?_|refine c6 ?_|refine c7 ?_|refine c8 ?_|refine cq ?_)|refine n1 ?_|refine n2 ?_|refine n3 ?_|refine n4 ?_|refine n5 ?_|refine n6 ?_|refine n7 ?_|refine n8 ?_|refine n9 ?_|refine n10 ?_|refine n13 ?_|refine n11 ?_|refine n12 ?_|refine n14 ?_|refine n15 ?_|refine n16 ?_)|(refine c9 (fun h=>?_) (fun h=>?_)<;>(try simp only [Bool.or_eq_true, Bool.and_eq_true, Bool.or_eq_false_iff, Bool.and_eq_false_iff, Bool.not_eq_true', Bool.not_eq_false', decide_eq_true_eq, decide_eq_false_iff_not, Bool.false_eq_true, Bool.true_eq_false, reduceCtorEq] at h)))
  · refine gives (St.le_refl _) (fin_one (.wk (Wk.of_eq ?_)))
    have hw : wordB s = false := by
      unfold wordB
      rcases h with h | h
      · rw [decide_eq_false (by omega)]; rfl
      · rw [decide_eq_false (by omega : ¬ s.size ≤ 24)]; simp
    rw [hw]
  · have hw : wordB s = wordL s.data.toList := by
      unfold wordB
      rw [decide_eq_true (by omega), decide_eq_true (by omega : s.size ≤ 24)]
      rfl
    rw [hw]
    refine cj_head (fun t : ByteArray => wordL t.data.toList = wordL s.data.toList ∧ t.size ≤ 24) (fun t => [(0, .v (.string t))]) (fun _ => σ) (fun t => t.size) s ⟨rfl, by omega⟩ ⟨rfl, trivial⟩ (St.le_refl _) (fun t ht => ?_)
    obtain ⟨ht1, ht2⟩ := ht
    by_cases h0 : 0 < t.size
    · have hst := wordL_ext t h0
      have hle := runeS_le t h0
      repeat' (first|(first|(refine jl ?_;first|refine j7 ?_|refine j8 ?_|refine j10 ?_|refine j11 ?_|refine jtf ?_|refine j1 ?_|refine j2 ?_|refine j3 ?_|refine j3f ?_|refine j4 ?_|refine j5 ?_|refine j6 ?_|refine j9 ?_|refine j12 (fun id hid=>?_)|refine j13 (fun id hid=>?_)|refine j14 ?_|refine j15 ?_|refine j17 ?_|refine j16 ?_|refine j18 ?_|refine j19 ?_|refine j20 ?_|refine j21 ?_|refine j23 ?_|refine j24 ?_|refine j25 ?_|refine j26 ?_|refine jeq ?_|refine jeqq ?_|refine jne ?_|refine jneq ?_|refine jcbq ?_|refine j22 (fun id hid=>?_)|refine jp (p_rrune t h0) ?_|refine jpy (p_rrune t h0) ?_|refine jcq (hp:=fun hc=>p_rrune t h0) ?_|refine jp (p_rinword _) ?_|refine jpy (p_rinword _) ?_|refine jcq (hp:=fun hc=>p_rinword _) ?_)|(refine dl ?_;first|refine d7 ?_|refine d8 ?_|refine d10 ?_|refine d11 ?_|refine dtf ?_|refine d1 ?_|refine d2 ?_|refine d3 ?_|refine d3f ?_|refine d4 ?_|refine d9 ?_|refine d14 ?_|refine d14a ?_|refine d15 ?_|refine d16 ?_|refine d18 ?_|refine d19 ?_|refine d20 ?_|refine d21 ?_|refine d17 ?_|refine deq ?_|refine deqq ?_|refine dne ?_|refine dneq ?_|refine dcb ?_|refine dcbq ?_|refine dp (p_rrune t h0) ?_|refine dpy (p_rrune t h0) ?_|refine dpq (hp:=fun hc=>p_rrune t h0) ?_|refine dp (p_rinword _) ?_|refine dpy (p_rinword _) ?_|refine dpq (hp:=fun hc=>p_rinword _) ?_)|(refine jc ?_;first|refine c1 ?_|refine c2 ?_|refine c3 ?_|refine c4 ?_|refine c5 ?_|refine c6 ?_|refine c7 ?_|refine c8 ?_|refine cq ?_)|refine n1 ?_|refine n2 ?_|refine n3 ?_|refine n4 ?_|refine n5 ?_|refine n6 ?_|refine n7 ?_|refine n8 ?_|refine n9 ?_|refine n10 ?_|refine n13 ?_|refine n11 ?_|refine n12 ?_|refine n14 ?_|refine n15 ?_|refine n16 ?_)|(refine c9 (fun h=>?_) (fun h=>?_)<;>((try simp only [Bool.or_eq_true, Bool.and_eq_true, Bool.or_eq_false_iff, Bool.and_eq_false_iff, Bool.not_eq_true', Bool.not_eq_false', decide_eq_true_eq, decide_eq_false_iff_not, Bool.false_eq_true, Bool.true_eq_false, reduceCtorEq] at h) <;> (try simp (disch := omega) only [sb_bt, w64, Int.reduceAdd, Int.reduceToNat, Int.toNat_natCast, not_true_eq_false, false_or] at h) <;> (try (exfalso; omega)))))
      · refine gives (St.le_refl _) (fin_one (.wk (Wk.of_eq ?_)))
        rw [← ht1, hst]
        split
        · rfl
        · rename_i hn
          have : ¬ inP ((runeS t).1 : Int) := by
            rcases h with h | h
            · omega
            · exact h
          rw [decide_eq_false this]
          rfl
      · rw [if_neg (by omega), decide_eq_true h.2, Bool.true_and] at hst
        refine nx_thn ⟨t.extract (runeS t).2 t.size, ⟨by rw [← ht1, hst], by rw [Lib.ext_size]; omega⟩, by rw [Lib.ext_size]; omega, ⟨rfl, trivial⟩, St.le_refl _⟩
    · have hnil : t.data.toList = [] := List.eq_nil_of_length_eq_zero (by rw [bl_len]; omega)
      repeat' (first|(first|(refine jl ?_;first|refine j7 ?_|refine j8 ?_|refine j10 ?_|refine j11 ?_|refine jtf ?_|refine j1 ?_|refine j2 ?_|refine j3 ?_|refine j3f ?_|refine j4 ?_|refine j5 ?_|refine j6 ?_|refine j9 ?_|refine j12 (fun id hid=>?_)|refine j13 (fun id hid=>?_)|refine j14 ?_|refine j15 ?_|refine j17 ?_|refine j16 ?_|refine j18 ?_|refine j19 ?_|refine j20 ?_|refine j21 ?_|refine j23 ?_|refine j24 ?_|refine j25 ?_|refine j26 ?_|refine jeq ?_|refine jeqq ?_|refine jne ?_|refine jneq ?_|refine jcbq ?_|refine j22 (fun id hid=>?_))|(refine dl ?_;first|refine d7 ?_|refine d8 ?_|refine d10 ?_|refine d11 ?_|refine dtf ?_|refine d1 ?_|refine d2 ?_|refine d3 ?_|refine d3f ?_|refine d4 ?_|refine d9 ?_|refine d14 ?_|refine d14a ?_|refine d15 ?_|refine d16 ?_|refine d18 ?_|refine d19 ?_|refine d20 ?_|refine d21 ?_|refine d17 ?_|refine deq ?_|refine deqq ?_|refine dne ?_|refine dneq ?_|refine dcb ?_|refine dcbq ?_)|(refine jc ?_;first|refine c1 ?_|refine c2 ?_|refine c3 ?_|refine c4 ?_|refine c5 ?_|refine c6 ?_|refine c7 ?_|refine c8 ?_|refine cq ?_)|refine n1 ?_|refine n2 ?_|refine n3 ?_|refine n4 ?_|refine n5 ?_|refine n6 ?_|refine n7 ?_|refine n8 ?_|refine n9 ?_|refine n10 ?_|refine n13 ?_|refine n11 ?_|refine n12 ?_|refine n14 ?_|refine n15 ?_|refine n16 ?_)|(refine c9 (fun h=>?_) (fun h=>?_)<;>((try simp only [Bool.or_eq_true, Bool.and_eq_true, Bool.or_eq_false_iff, Bool.and_eq_false_iff, Bool.not_eq_true', Bool.not_eq_false', decide_eq_true_eq, decide_eq_false_iff_not, Bool.false_eq_true, Bool.true_eq_false, reduceCtorEq] at h) <;> (try simp (disch := omega) only [sb_bt, w64, Int.reduceAdd, Int.reduceToNat, Int.toNat_natCast, not_true_eq_false, false_or] at h) <;> (try (exfalso; omega)))))
      refine gives (St.le_refl _) (fin_one (.wk (Wk.of_eq ?_)))
      rw [← ht1, hnil]
      rfl
end Go.Proofs.YtledbkkaaomjpabDoor.Ab
