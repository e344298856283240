/- Values: texts tell values apart, and are read as they were. -/
import Derived.Test.YtledbkkaaomjpabDoorVE
set_option linter.unusedVariables false
set_option linter.unusedSimpArgs false
namespace Go.Proofs.YtledbkkaaomjpabDoor.Ab
open Go

theorem sameV_refl' (k n : Int) (s : ByteArray) : sameV k n s k n s = true := by simp [sameV]
theorem digB_append (a b : List UInt8) : digB (a ++ b) = (digB a && digB b) := by
  induction a with
  | nil => rfl
  | cons x a ih => rw [List.cons_append, digB, digB, ih, Bool.and_assoc]
theorem valN_append (a b : List UInt8) (n : Nat) : valN n (a ++ b) = valN (valN n a) b := by unfold valN; exact List.foldl_append ..
theorem dig_dch (n : Nat) : digB [dch n] = true := by
  have := dch_toNat n
  rw [digB, decide_eq_true (by omega : dig (dch n).toNat)]; rfl
theorem dec_dig (m : Nat) (hm : m < 10000000000000000000) : digB (dec m) = true ∧ valN 0 (dec m) = m ∧ dec m ≠ [] := by
  induction m using Nat.strongRecOn with
  | _ m ih =>
    by_cases h : m < 10
    · rw [dec_small m h]
      refine ⟨dig_dch m, ?_, by simp⟩
      rw [valN_cons, valN_nil, dch_toNat]
      omega
    · rw [dec_step m (by omega) hm]
      obtain ⟨h1, h2, _⟩ := ih (m / 10) (by omega) (by omega)
      refine ⟨by rw [digB_append, h1, dig_dch]; rfl, ?_, by simp⟩
      rw [valN_append, h2, valN_cons, valN_nil, dch_toNat]
      omega
theorem inP_dig {c : Int} (h : 48 ≤ c ∧ c ≤ 57) : inP c := by unfold inP; omega
/-- A text of digits, and one with a minus ahead, is a word. -/
theorem wordL_dig : ∀ (l : List UInt8), digB l = true → wordL l = true
  | [], _ => rfl
  | b :: l, h => by
    rw [digB, Bool.and_eq_true, decide_eq_true_eq] at h
    rw [wordL_step _ (by simp), Lib.decodeL_ascii b l (by omega)]
    rw [if_neg (by simp only; omega), decide_eq_true (inP_dig (by simp only; omega)), Bool.true_and]
    exact wordL_dig l h.2
theorem told_facts (n : Int) (hn : -1099511627776 ≤ n ∧ n ≤ 1099511627776) : ∃ l : List UInt8, digB l = true ∧ valN 0 l = n.natAbs ∧ l ≠ [] ∧ l.length ≤ 19 ∧ toldS n = (if n < 0 then ⟨(45 :: l).toArray⟩ else ⟨l.toArray⟩) := by
  by_cases h : n < 0
  · obtain ⟨h1, h2, h3⟩ := dec_dig (-n).toNat (by omega)
    exact ⟨dec (-n).toNat, h1, by rw [h2]; omega, h3, dec_len _, by rw [toldS, if_pos h, if_pos h]⟩
  · obtain ⟨h1, h2, h3⟩ := dec_dig n.toNat (by omega)
    exact ⟨dec n.toNat, h1, by rw [h2]; omega, h3, dec_len _, by rw [toldS, if_neg h, if_neg h]⟩
theorem bt_list (l : List UInt8) : bt ⟨l.toArray⟩ 0 = (l.getD 0 0).toNat := rfl
theorem parse_told (n : Int) (hn : -1099511627776 ≤ n ∧ n ≤ 1099511627776) : parseV (toldS n) = (1, n, ⟨#[]⟩, 0) ∧ isNumB (toldS n) = true := by
  obtain ⟨l, h1, h2, h3, h4, h5⟩ := told_facts n hn
  obtain ⟨b, r, rfl⟩ : ∃ b r, l = b :: r := by
    cases l with
    | nil => exact absurd rfl h3
    | cons b r => exact ⟨b, r, rfl⟩
  have hb : dig b.toNat := by
    rw [digB, Bool.and_eq_true, decide_eq_true_eq] at h1
    exact h1.1
  by_cases h : n < 0
  · rw [if_pos h] at h5
    have hsg : sgnB (toldS n) = true := (sgnB_iff _).2 ⟨by rw [h5, bsz]; simp, .inl (by rw [h5]; rfl)⟩
    have hbody : (bodyS (toldS n)).data.toList = b :: r := by
      rw [bodyS, if_pos hsg, Lib.ext_list, h5]; rfl
    have hbs : 0 < (bodyS (toldS n)).size := by rw [← bl_len, hbody]; simp
    have hnum : isNumB (toldS n) = true := by
      unfold isNumB allD
      rw [hbody, h1, decide_eq_true hbs]; rfl
    have hmi : minusB (toldS n) = true := by
      unfold minusB
      rw [hsg, decide_eq_true (by rw [h5]; rfl)]; rfl
    have hword : wordB (toldS n) = true := by
      unfold wordB
      rw [h5, bsz, decide_eq_true (by simp), decide_eq_true (by rw [List.length_cons]; omega), Bool.true_and, Bool.true_and]
      show wordL (45 :: b :: r) = true
      rw [wordL_step _ (by simp), Lib.decodeL_ascii 45 _ (by decide)]
      rw [if_neg (by decide), decide_eq_true (by decide), Bool.true_and]
      exact wordL_dig _ h1
    have hnil : toldS n ≠ nilS := fun e => by rw [e] at hnum; exact absurd hnum (by decide +kernel)
    have hno : numOf (toldS n) = n.natAbs := by rw [numOf, hbody, h2]
    refine ⟨?_, hnum⟩
    unfold parseV
    rw [if_neg (by rw [hword]; simp), if_neg hnil, if_neg (by rw [hnum]; simp), if_neg (by omega), hmi, if_pos rfl, hno]
    congr 2
    omega
  · rw [if_neg h] at h5
    have hsg : sgnB (toldS n) = false := Bool.eq_false_iff.2 fun e => by
      have h6 := ((sgnB_iff _).1 e).2
      rw [h5] at h6
      have h7 : bt ⟨(b :: r).toArray⟩ 0 = b.toNat := rfl
      rw [h7] at h6
      omega
    have hbody : (bodyS (toldS n)).data.toList = b :: r := by
      rw [bodyS, hsg, h5]; rfl
    have hbs : 0 < (bodyS (toldS n)).size := by rw [← bl_len, hbody]; simp
    have hnum : isNumB (toldS n) = true := by
      unfold isNumB allD
      rw [hbody, h1, decide_eq_true hbs]; rfl
    have hmi : minusB (toldS n) = false := by
      unfold minusB
      rw [hsg]; rfl
    have hword : wordB (toldS n) = true := by
      unfold wordB
      rw [h5, bsz, decide_eq_true (by simp), decide_eq_true (by omega), Bool.true_and, Bool.true_and]
      exact wordL_dig _ h1
    have hnil : toldS n ≠ nilS := fun e => by rw [e] at hnum; exact absurd hnum (by decide +kernel)
    have hno : numOf (toldS n) = n.natAbs := by rw [numOf, hbody, h2]
    refine ⟨?_, hnum⟩
    unfold parseV
    rw [if_neg (by rw [hword]; simp), if_neg hnil, if_neg (by rw [hnum]; simp), if_neg (by omega), hmi, if_neg (by simp), hno]
    congr 2
    omega
/-- A value's text is read as that value. -/
theorem parse_text {k n : Int} {s : ByteArray} (h0 : 0 ≤ k) (h : checkE k n s = 0) : parseV (textV k n s) = (k, n, s, 0) := by
  have hk := checkE_kind h
  unfold textV
  rw [if_neg (by omega)]
  by_cases h1 : k = 1
  · rw [if_pos h1, (parse_told n (checkE_ok h)).1, check_one h h1, h1]
  · rw [if_neg h1]
    by_cases h2 : k = 2
    · rw [if_pos h2]
      obtain ⟨a, b, c, d⟩ := check_two h h2
      unfold parseV
      rw [if_neg (by rw [b]; simp), if_neg d, if_pos c, h2, a]
    · have h3 : k = 0 := by omega
      obtain ⟨a, b⟩ := check_zero h h3
      rw [if_neg h2, h3, a, b]
      decide +kernel
theorem text_inj {k n k' n' : Int} {s s' : ByteArray} (h0 : 0 ≤ k) (h : checkE k n s = 0) (h0' : 0 ≤ k') (h' : checkE k' n' s' = 0) (e : textV k n s = textV k' n' s') : sameV k n s k' n' s' = true := by
  have h1 := parse_text h0 h
  rw [e, parse_text h0' h'] at h1
  simp only [Prod.mk.injEq] at h1
  obtain ⟨rfl, rfl, rfl, _⟩ := h1
  exact sameV_refl' _ _ _
/-- No value's bytes are the beginning of another one's. -/
theorem put_begins {k n k' n' : Int} {s s' : ByteArray} (h0 : 0 ≤ k) (h : checkE k n s = 0) (h0' : 0 ≤ k') (h' : checkE k' n' s' = 0) (r : List UInt8) (e : putV k' n' s' = putV k n s ++ r) : sameV k n s k' n' s' = true := by
  have h1 := get_put h0 h r
  have h2 := get_put h0' h' []
  rw [List.append_nil, e] at h2
  rw [h1] at h2
  simp only [Prod.mk.injEq] at h2
  obtain ⟨rfl, rfl, rfl, _⟩ := h2
  exact sameV_refl' _ _ _
end Go.Proofs.YtledbkkaaomjpabDoor.Ab
