/- Values: a number's text. -/
import Derived.Test.YtledbkkaaomjpabDoorV8
set_option linter.unusedVariables false
set_option linter.unusedSimpArgs false
namespace Go.Proofs.YtledbkkaaomjpabDoor.Ab
open Go
attribute [local irreducible] thn inb endR CJ LJ OpJ DJ

def dch (n : Nat) : UInt8 := UInt8.ofNat (48 + n % 10)
theorem dch_toNat (n : Nat) : (dch n).toNat = 48 + n % 10 := by
  unfold dch
  rw [UInt8.toNat_ofNat']
  omega
/-- A number's digits. -/
def decF : Nat → Nat → List UInt8
  | 0, _ => []
  | f + 1, n => if n < 10 then [dch n] else decF f (n / 10) ++ [dch n]
theorem decF_fuel : ∀ (f g n : Nat), n < 10 ^ f → n < 10 ^ g → 0 < f → 0 < g → decF f n = decF g n
  | 0, _, _, _, _, h, _ => absurd h (by omega)
  | _, 0, _, _, _, _, h => absurd h (by omega)
  | f + 1, g + 1, n, h1, h2, _, _ => by
    unfold decF
    by_cases h : n < 10
    · rw [if_pos h, if_pos h]
    · rw [if_neg h, if_neg h]
      have hf : 0 < f := by
        rcases Nat.eq_zero_or_pos f with h0 | h0
        · subst h0; simp at h1; omega
        · exact h0
      have hg : 0 < g := by
        rcases Nat.eq_zero_or_pos g with h0 | h0
        · subst h0; simp at h2; omega
        · exact h0
      rw [decF_fuel f g (n / 10) (by rw [Nat.pow_succ] at h1; omega) (by rw [Nat.pow_succ] at h2; omega) hf hg]
def dec (n : Nat) : List UInt8 := decF 19 n
theorem dec_small (n : Nat) (h : n < 10) : dec n = [dch n] := by
  show (if n < 10 then _ else _) = _
  rw [if_pos h]
theorem dec_step (n : Nat) (h : 10 ≤ n) (h' : n < 10000000000000000000) : dec n = dec (n / 10) ++ [dch n] := by
  show (if n < 10 then _ else _) = _
  rw [if_neg (by omega), decF_fuel 18 19 (n / 10) (by simp only [Nat.reducePow]; omega) (by simp only [Nat.reducePow]; omega) (by omega) (by omega)]
  rfl
theorem decF_len : ∀ (f n : Nat), (decF f n).length ≤ f
  | 0, _ => Nat.le_refl _
  | f + 1, n => by
    unfold decF
    split
    · simp
    · have := decF_len f (n / 10)
      simp only [List.length_append, List.length_cons, List.length_nil]
      omega
theorem dec_len (n : Nat) : (dec n).length ≤ 19 := decF_len 19 n
/-- What the loop still lays ahead. -/
def outD (m : Nat) (acc : List UInt8) : List UInt8 := if m = 0 ∧ acc ≠ [] then acc else dec m ++ acc
theorem outD_step (m : Nat) (acc : List UInt8) (h : 0 < m ∨ acc = []) (hm : m < 10000000000000000000) : outD (m / 10) (dch m :: acc) = outD m acc := by
  unfold outD
  rw [if_neg (c := m = 0 ∧ acc ≠ []) (by rintro ⟨h1, h2⟩; rcases h with h | h; omega; exact h2 h)]
  by_cases h10 : m < 10
  · rw [if_pos ⟨by omega, by simp⟩, dec_small m h10]; rfl
  · rw [if_neg (by rintro ⟨h1, _⟩; omega), dec_step m (by omega) hm]
    simp
theorem outD_end (acc : List UInt8) (h : acc ≠ []) : outD 0 acc = acc := by rw [outD, if_pos ⟨rfl, h⟩]
theorem outD_nil (m : Nat) : outD m [] = dec m := by
  rw [outD, if_neg (by simp), List.append_nil]
theorem outD_len (m : Nat) (acc : List UInt8) : acc.length ≤ (outD m acc).length := by
  unfold outD
  split
  · exact Nat.le_refl _
  · simp
def toldS (n : Int) : ByteArray := if n < 0 then ⟨(45 :: dec (-n).toNat).toArray⟩ else ⟨(dec n.toNat).toArray⟩
theorem u8_add (m : Nat) : IntKind.u8.wrap (IntKind.i64.wrap (48 + (m : Int).tmod 10)) = ((dch m).toNat : Int) := by
  have h1 : (m : Int).tmod 10 = ((m % 10 : Nat) : Int) := by rw [Int.tmod_eq_emod_of_nonneg (by omega)]; rfl
  rw [h1, w64 (by omega) (by omega), wu8 (by omega) (by omega), dch_toNat]
  omega
theorem p_told (n : Int) (hn : -1099511627776 ≤ n ∧ n ≤ 1099511627776) : Pure Tryd.prog 32 [.v (.int .i64 n)] (.v (.string (toldS n))) := by
  refine enterW Tryd.func32 rfl rfl rfl rfl (fun σ => ?_)
  obtain ⟨m0, mi, hm0, hmi, hlt⟩ : ∃ (m0 : Nat) (mi : Bool), (if mi then (IntKind.i64.wrap (0 - n)) else n) = (m0 : Int) ∧ decide (n < 0) = mi ∧ m0 ≤ 1099511627776 ∧ toldS n = (if mi then ⟨(45 :: dec m0).toArray⟩ else ⟨(dec m0).toArray⟩) := by
    by_cases h : n < 0
    · refine ⟨(-n).toNat, true, ?_, decide_eq_true h, by omega, ?_⟩
      · rw [if_pos rfl, w64 (by omega) (by omega)]; omega
      · rw [toldS, if_pos h, if_pos rfl]
    · refine ⟨n.toNat, false, ?_, decide_eq_false h, by omega, ?_⟩
      · rw [if_neg (by simp)]; omega
      · rw [toldS, if_neg h, if_neg (by simp)]
  obtain ⟨hm1, hm2⟩ := hlt
  rw [hm2]
  repeat (first|(refine jl ?_;first|refine j7 ?_|refine j8 ?_|refine j10 ?_|refine j11 ?_|refine jtf ?_|refine j1 ?_|refine j2 ?_|refine j3 ?_|refine j3f ?_|refine j4 ?_|refine j5 ?_|refine j6 ?_|refine j9 ?_|refine j12 (fun id hid=>?_)|refine j13 (fun id hid=>?_)|refine j14 ?_|refine j15 ?_|refine j17 ?_|refine j16 ?_|refine j18 ?_|refine j19 ?_|refine j20 ?_|refine j21 ?_|refine j23 ?_|refine j24 ?_|refine j25 ?_|refine j26 ?_|refine jeq ?_|refine jeqq ?_|refine jne ?_|refine jneq ?_|refine jcbq ?_|refine j22 (fun id hid=>?_))|(refine dl ?_;first|refine d7 ?_|refine d8 ?_|refine d10 ?_|refine d11 ?_|refine dtf ?_|refine d1 ?_|refine d2 ?_|refine d3 ?_|refine d3f ?_|refine d4 ?_|refine d9 ?_|refine d14 ?_|refine d14a ?_|refine d15 ?_|refine d16 ?_|refine d18 ?_|refine d19 ?_|refine d20 ?_|refine d21 ?_|refine d17 ?_|refine deq ?_|refine deqq ?_|refine dne ?_|refine dneq ?_|refine dcb ?_|refine dcbq ?_)|(refine jc ?_;first|refine c1 ?_|refine c2 ?_|refine c3 ?_|refine c4 ?_|refine c5 ?_|refine c6 ?_|refine c7 ?_|refine c8 ?_|refine cq ?_)|refine n1 ?_|refine n2 ?_|refine n3 ?_|refine n4 ?_|refine n5 ?_|refine n6 ?_|refine n7 ?_|refine n8 ?_|refine n9 ?_|refine n10 ?_|refine n13 ?_|refine n11 ?_|refine n12 ?_|refine n14 ?_|refine n15 ?_|refine n16 ?_)
  rw [hmi]
  repeat' (first|(first|(refine jl ?_;first|refine j7 ?_|refine j8 ?_|refine j10 ?_|refine j11 ?_|refine jtf ?_|refine j1 ?_|refine j2 ?_|refine j3 ?_|refine j3f ?_|refine j4 ?_|refine j5 ?_|refine j6 ?_|refine j9 ?_|refine j12 (fun id hid=>?_)|refine j13 (fun id hid=>?_)|refine j14 ?_|refine j15 ?_|refine j17 ?_|refine j16 ?_|refine j18 ?_|refine j19 ?_|refine j20 ?_|refine j21 ?_|refine j23 ?_|refine j24 ?_|refine j25 ?_|refine j26 ?_|refine jeq ?_|refine jeqq ?_|refine jne ?_|refine jneq ?_|refine jcbq ?_|refine j22 (fun id hid=>?_))|(refine dl ?_;first|refine d7 ?_|refine d8 ?_|refine d10 ?_|refine d11 ?_|refine dtf ?_|refine d1 ?_|refine d2 ?_|refine d3 ?_|refine d3f ?_|refine d4 ?_|refine d9 ?_|refine d14 ?_|refine d14a ?_|refine d15 ?_|refine d16 ?_|refine d18 ?_|refine d19 ?_|refine d20 ?_|refine d21 ?_|refine d17 ?_|refine deq ?_|refine deqq ?_|refine dne ?_|refine dneq ?_|refine dcb ?_|refine dcbq ?_)|(refine jc ?_;first|refine c1 ?_|refine c2 ?_|refine c3 ?_|refine c4 ?_|refine c5 ?_|refine c6 ?_|refine c7 ?_|refine c8 ?_|refine cq ?_)|refine n1 ?_|refine n2 ?_|refine n3 ?_|refine n4 ?_|refine n5 ?_|refine n6 ?_|refine n7 ?_|refine n8 ?_|refine n9 ?_|refine n10 ?_|refine n13 ?_|refine n11 ?_|refine n12 ?_|refine n14 ?_|refine n15 ?_|refine n16 ?_)|(refine c9 (fun h=>?_) (fun h=>?_)<;>(try simp only [Bool.or_eq_true, Bool.and_eq_true, Bool.or_eq_false_iff, Bool.and_eq_false_iff, Bool.not_eq_true', Bool.not_eq_false', decide_eq_true_eq, decide_eq_false_iff_not, Bool.false_eq_true, Bool.true_eq_false, reduceCtorEq] at h)))
  all_goals
    rw [h] at hm0
    simp only [Bool.false_eq_true, if_true, if_false] at hm0
    rw [hm0]
    refine cj_headW (fun x : Nat × List UInt8 => x.1 ≤ 1099511627776 ∧ outD x.1 x.2 = dec m0) (fun x => [(0, .v (.int .i64 x.1)), (4, .sl none false 1 (bys x.2)), (3, .v (.bool mi))]) (fun _ => σ) (fun x => 2 * x.1 + (if x.2 = [] then 1 else 0)) (m0, []) ⟨hm1, outD_nil m0⟩ ⟨⟨_, rfl, Wk.refl _⟩, ⟨_, rfl, Wk.sl _ _ _ _⟩, ⟨_, rfl, Wk.refl _⟩, trivial⟩ (St.le_refl _) (fun x hx => ?_)
    obtain ⟨m, acc⟩ := x
    obtain ⟨hx1, hx2⟩ := hx
    simp only at hx1 hx2
    have hlen : acc.length ≤ 19 := Nat.le_trans (outD_len m acc) (by rw [hx2]; exact dec_len m0)
    clear h
    dsimp only
  repeat' (first|(first|(refine jl ?_;first|refine j7 ?_|refine j8 ?_|refine j10 ?_|refine j11 ?_|refine jtf ?_|refine j1 ?_|refine j2 ?_|refine j3 ?_|refine j3f ?_|refine j4 ?_|refine j5 ?_|refine j6 ?_|refine j9 ?_|refine j12 (fun id hid=>?_)|refine j13 (fun id hid=>?_)|refine j14 ?_|refine j15 ?_|refine j17 ?_|refine j16 ?_|refine j18 ?_|refine j19 ?_|refine j20 ?_|refine j21 ?_|refine j23 ?_|refine j24 ?_|refine j25 ?_|refine j26 ?_|refine jeq ?_|refine jeqq ?_|refine jne ?_|refine jneq ?_|refine jcbq ?_|refine j22 (fun id hid=>?_))|(refine dl ?_;first|refine d7 ?_|refine d8 ?_|refine d10 ?_|refine d11 ?_|refine dtf ?_|refine d1 ?_|refine d2 ?_|refine d3 ?_|refine d3f ?_|refine d4 ?_|refine d9 ?_|refine d14 ?_|refine d14a ?_|refine d15 ?_|refine d16 ?_|refine d18 ?_|refine d19 ?_|refine d20 ?_|refine d21 ?_|refine d17 ?_|refine deq ?_|refine deqq ?_|refine dne ?_|refine dneq ?_|refine dcb ?_|refine dcbq ?_)|(refine jc ?_;first|refine c1 ?_|refine c2 ?_|refine c3 ?_|refine c4 ?_|refine c5 ?_|refine c6 ?_|refine c7 ?_|refine c8 ?_|refine cq ?_)|refine n1 ?_|refine n2 ?_|refine n3 ?_|refine n4 ?_|refine n5 ?_|refine n6 ?_|refine n7 ?_|refine n8 ?_|refine n9 ?_|refine n10 ?_|refine n13 ?_|refine n11 ?_|refine n12 ?_|refine n14 ?_|refine n15 ?_|refine n16 ?_)|(refine c9 (fun h=>?_) (fun h=>?_)<;>(try simp only [Bool.or_eq_true, Bool.and_eq_true, Bool.or_eq_false_iff, Bool.and_eq_false_iff, Bool.not_eq_true', Bool.not_eq_false', decide_eq_true_eq, decide_eq_false_iff_not, Bool.false_eq_true, Bool.true_eq_false, reduceCtorEq] at h)))
  all_goals try rw [length_bys] at *
  all_goals try
    have hm0' : m = 0 := by omega
    have hne0 : acc.length ≠ 0 := by omega
    have hne : acc ≠ [] := fun e => hne0 (by rw [e]; rfl)
    rw [hm0', outD_end acc hne] at hx2
    rw [h, ← hx2]
    exact gives (St.le_refl _) (fin_one (.wk (Wk.of_eq rfl)))
  all_goals
    rw [u8_add]
    refine lj_v rfl (fun R hR => opj_lit (sz := 1) (zs := [.v (.int .u8 0)]) (out := [.v (.int .u8 (dch m).toNat)]) rfl rfl rfl rfl rfl (by decide) (by decide) rfl rfl rfl hR) ?_
    repeat (first|(refine jl ?_;first|refine j7 ?_|refine j8 ?_|refine j10 ?_|refine j11 ?_|refine jtf ?_|refine j1 ?_|refine j2 ?_|refine j3 ?_|refine j3f ?_|refine j4 ?_|refine j5 ?_|refine j6 ?_|refine j9 ?_|refine j12 (fun id hid=>?_)|refine j13 (fun id hid=>?_)|refine j14 ?_|refine j15 ?_|refine j17 ?_|refine j16 ?_|refine j18 ?_|refine j19 ?_|refine j20 ?_|refine j21 ?_|refine j23 ?_|refine j24 ?_|refine j25 ?_|refine j26 ?_|refine jeq ?_|refine jeqq ?_|refine jne ?_|refine jneq ?_|refine jcbq ?_|refine j22 (fun id hid=>?_))|(refine dl ?_;first|refine d7 ?_|refine d8 ?_|refine d10 ?_|refine d11 ?_|refine dtf ?_|refine d1 ?_|refine d2 ?_|refine d3 ?_|refine d3f ?_|refine d4 ?_|refine d9 ?_|refine d14 ?_|refine d14a ?_|refine d15 ?_|refine d16 ?_|refine d18 ?_|refine d19 ?_|refine d20 ?_|refine d21 ?_|refine d17 ?_|refine deq ?_|refine deqq ?_|refine dne ?_|refine dneq ?_|refine dcb ?_|refine dcbq ?_)|(refine jc ?_;first|refine c1 ?_|refine c2 ?_|refine c3 ?_|refine c4 ?_|refine c5 ?_|refine c6 ?_|refine c7 ?_|refine c8 ?_|refine cq ?_)|refine n1 ?_|refine n2 ?_|refine n3 ?_|refine n4 ?_|refine n5 ?_|refine n6 ?_|refine n7 ?_|refine n8 ?_|refine n9 ?_|refine n10 ?_|refine n13 ?_|refine n11 ?_|refine n12 ?_|refine n14 ?_|refine n15 ?_|refine n16 ?_)
    have hst : outD (m / 10) (dch m :: acc) = dec m0 := by
      rw [← hx2]
      refine outD_step m acc ?_ (by omega)
      rcases h with h | h
      · exact .inl (by omega)
      · exact .inr (List.eq_nil_of_length_eq_zero (by omega))
    have hq : IntKind.i64.wrap ((m : Int).tdiv 10) = ((m / 10 : Nat) : Int) := by
      rw [Int.tdiv_eq_ediv_of_nonneg (by omega), w64 (by omega) (by omega)]; rfl
    refine lj_ite rfl trivial (fun R hR0 hR1 => opj_append_sl (sz := 1) (by_ := 1) (news := bys acc) rfl rfl ⟨rfl, rfl, rfl, by decide⟩ rfl rfl (.inl rfl) rfl rfl (by simp [length_bys, chunk]; omega) (by decide) hR0 hR1) (fun h0 => ?_) (fun h0 => ?_)
  all_goals
    repeat (first|(refine jl ?_;first|refine j7 ?_|refine j8 ?_|refine j10 ?_|refine j11 ?_|refine jtf ?_|refine j1 ?_|refine j2 ?_|refine j3 ?_|refine j3f ?_|refine j4 ?_|refine j5 ?_|refine j6 ?_|refine j9 ?_|refine j12 (fun id hid=>?_)|refine j13 (fun id hid=>?_)|refine j14 ?_|refine j15 ?_|refine j17 ?_|refine j16 ?_|refine j18 ?_|refine j19 ?_|refine j20 ?_|refine j21 ?_|refine j23 ?_|refine j24 ?_|refine j25 ?_|refine j26 ?_|refine jeq ?_|refine jeqq ?_|refine jne ?_|refine jneq ?_|refine jcbq ?_|refine j22 (fun id hid=>?_))|(refine dl ?_;first|refine d7 ?_|refine d8 ?_|refine d10 ?_|refine d11 ?_|refine dtf ?_|refine d1 ?_|refine d2 ?_|refine d3 ?_|refine d3f ?_|refine d4 ?_|refine d9 ?_|refine d14 ?_|refine d14a ?_|refine d15 ?_|refine d16 ?_|refine d18 ?_|refine d19 ?_|refine d20 ?_|refine d21 ?_|refine d17 ?_|refine deq ?_|refine deqq ?_|refine dne ?_|refine dneq ?_|refine dcb ?_|refine dcbq ?_)|(refine jc ?_;first|refine c1 ?_|refine c2 ?_|refine c3 ?_|refine c4 ?_|refine c5 ?_|refine c6 ?_|refine c7 ?_|refine c8 ?_|refine cq ?_)|refine n1 ?_|refine n2 ?_|refine n3 ?_|refine n4 ?_|refine n5 ?_|refine n6 ?_|refine n7 ?_|refine n8 ?_|refine n9 ?_|refine n10 ?_|refine n13 ?_|refine n11 ?_|refine n12 ?_|refine n14 ?_|refine n15 ?_|refine n16 ?_)
    rw [hq]
    refine nx_thn ⟨(m / 10, dch m :: acc), ⟨by simp only; omega, hst⟩, ?_, ⟨⟨_, rfl, Wk.refl _⟩, ⟨_, rfl, ?_⟩, ⟨_, rfl, Wk.refl _⟩, trivial⟩, St.le_refl _⟩
  all_goals first
    | (simp only [reduceCtorEq, if_false]
       rcases h with h | h
       · split <;> omega
       · rw [if_pos (List.eq_nil_of_length_eq_zero (by omega))]; omega)
    | (have h1 : acc = [] := by
         cases acc with
         | nil => rfl
         | cons a l => simp [bys] at h0
       subst h1
       exact Wk.sl _ _ _ _)
    | exact Wk.sl _ _ _ _
theorem toldS_size (n : Int) : (toldS n).size ≤ 20 := by
  unfold toldS
  split
  · rw [bsz, List.length_cons]; have := dec_len (-n).toNat; omega
  · rw [bsz]; have := dec_len n.toNat; omega
/-! ### The reference -/
def digitsS : ByteArray := ⟨#[48, 49, 50, 51, 52, 53, 54, 55, 56, 57]⟩
theorem digitsS_at (k : Nat) (h : k < 10) : digitsS.extract k (k + 1) = ⟨#[UInt8.ofNat (48 + k)]⟩ := by
  have : k = 0 ∨ k = 1 ∨ k = 2 ∨ k = 3 ∨ k = 4 ∨ k = 5 ∨ k = 6 ∨ k = 7 ∨ k = 8 ∨ k = 9 := by omega
  rcases this with rfl | rfl | rfl | rfl | rfl | rfl | rfl | rfl | rfl | rfl <;> decide
theorem bconcat (a b : List UInt8) : (⟨a.toArray⟩ : ByteArray) ++ ⟨b.toArray⟩ = ⟨(a ++ b).toArray⟩ := by
  apply ByteArray.ext
  rw [ByteArray.data_append]
  exact List.append_toArray ..
theorem p_rtold0 (n : Nat) (hn : n ≤ 1099511627776) : Pure Tryd.prog 33 [.v (.int .i64 n)] (.v (.string (toldS n))) := by
  refine enterW Tryd.func33 rfl rfl rfl rfl (fun σ => ?_)
  have ht : toldS n = ⟨(dec n).toArray⟩ := by rw [toldS, if_neg (by omega)]; rfl
  rw [ht]
  repeat' (first|(first|(refine jl ?_;first|refine j7 ?_|refine j8 ?_|refine j10 ?_|refine j11 ?_|refine jtf ?_|refine j1 ?_|refine j2 ?_|refine j3 ?_|refine j3f ?_|refine j4 ?_|refine j5 ?_|refine j6 ?_|refine j9 ?_|refine j12 (fun id hid=>?_)|refine j13 (fun id hid=>?_)|refine j14 ?_|refine j15 ?_|refine j17 ?_|refine j16 ?_|refine j18 ?_|refine j19 ?_|refine j20 ?_|refine j21 ?_|refine j23 ?_|refine j24 ?_|refine j25 ?_|refine j26 ?_|refine jeq ?_|refine jeqq ?_|refine jne ?_|refine jneq ?_|refine jcbq ?_|refine j22 (fun id hid=>?_))|(refine dl ?_;first|refine d7 ?_|refine d8 ?_|refine d10 ?_|refine d11 ?_|refine dtf ?_|refine d1 ?_|refine d2 ?_|refine d3 ?_|refine d3f ?_|refine d4 ?_|refine d9 ?_|refine d14 ?_|refine d14a ?_|refine d15 ?_|refine d16 ?_|refine d18 ?_|refine d19 ?_|refine d20 ?_|refine d21 ?_|refine d17 ?_|refine deq ?_|refine deqq ?_|refine dne ?_|refine dneq ?_|refine dcb ?_|refine dcbq ?_)|(refine jc ?_;first|refine c1 ?_|refine c2 ?_|refine c3 ?_|refine c4 ?_|refine c5 ?_|refine c6 ?_|refine c7 ?_|refine c8 ?_|refine cq ?_)|refine n1 ?_|refine n2 ?_|refine n3 ?_|refine n4 ?_|refine n5 ?_|refine n6 ?_|refine n7 ?_|refine n8 ?_|refine n9 ?_|refine n10 ?_|refine n13 ?_|refine n11 ?_|refine n12 ?_|refine n14 ?_|refine n15 ?_|refine n16 ?_)|(refine c9 (fun h=>?_) (fun h=>?_)<;>((try simp only [Bool.or_eq_true, Bool.and_eq_true, Bool.or_eq_false_iff, Bool.and_eq_false_iff, Bool.not_eq_true', Bool.not_eq_false', decide_eq_true_eq, decide_eq_false_iff_not, Bool.false_eq_true, Bool.true_eq_false, reduceCtorEq] at h) <;> (try simp (disch := omega) only [sb_bt, w64, Int.reduceAdd, Int.reduceToNat, Int.toNat_natCast, not_true_eq_false, false_or] at h) <;> (try (exfalso; omega)))))
  refine cj_head (fun x : Nat × List UInt8 => x.1 ≤ 1099511627776 ∧ outD x.1 x.2 = dec n) (fun x => [(0, .v (.int .i64 x.1)), (3, .v (.string ⟨x.2.toArray⟩))]) (fun _ => σ) (fun x => 2 * x.1 + (if x.2 = [] then 1 else 0)) (n, []) ⟨hn, outD_nil n⟩ ⟨rfl, rfl, trivial⟩ (St.le_refl _) (fun x hx => ?_)
  obtain ⟨m, acc⟩ := x
  obtain ⟨hx1, hx2⟩ := hx
  simp only at hx1 hx2
  have hlen : acc.length ≤ 19 := Nat.le_trans (outD_len m acc) (by rw [hx2]; exact dec_len n)
  dsimp only
  have hm10 : (m : Int).tmod 10 = ((m % 10 : Nat) : Int) := by rw [Int.tmod_eq_emod_of_nonneg (by omega)]; rfl
  repeat' (first|(first|(refine jl ?_;first|refine j7 ?_|refine j8 ?_|refine j10 ?_|refine j11 ?_|refine jtf ?_|refine j1 ?_|refine j2 ?_|refine j3 ?_|refine j3f ?_|refine j4 ?_|refine j5 ?_|refine j6 ?_|refine j9 ?_|refine j12 (fun id hid=>?_)|refine j13 (fun id hid=>?_)|refine j14 ?_|refine j15 ?_|refine j17 ?_|refine j16 ?_|refine j18 ?_|refine j19 ?_|refine j20 ?_|refine j21 ?_|refine j23 ?_|refine j24 ?_|refine j25 ?_|refine j26 ?_|refine jeq ?_|refine jeqq ?_|refine jne ?_|refine jneq ?_|refine jcbq ?_|refine j22 (fun id hid=>?_))|(refine dl ?_;first|refine d7 ?_|refine d8 ?_|refine d10 ?_|refine d11 ?_|refine dtf ?_|refine d1 ?_|refine d2 ?_|refine d3 ?_|refine d3f ?_|refine d4 ?_|refine d9 ?_|refine d14 ?_|refine d14a ?_|refine d15 ?_|refine d16 ?_|refine d18 ?_|refine d19 ?_|refine d20 ?_|refine d21 ?_|refine d17 ?_|refine deq ?_|refine deqq ?_|refine dne ?_|refine dneq ?_|refine dcb ?_|refine dcbq ?_)|(refine jc ?_;first|refine c1 ?_|refine c2 ?_|refine c3 ?_|refine c4 ?_|refine c5 ?_|refine c6 ?_|refine c7 ?_|refine c8 ?_|refine cq ?_)|refine n1 ?_|refine n2 ?_|refine n3 ?_|refine n4 ?_|refine n5 ?_|refine n6 ?_|refine n7 ?_|refine n8 ?_|refine n9 ?_|refine n10 ?_|refine n13 ?_|refine n11 ?_|refine n12 ?_|refine n14 ?_|refine n15 ?_|refine n16 ?_)|(refine c9 (fun h=>?_) (fun h=>?_)<;>(try simp only [Bool.or_eq_true, Bool.and_eq_true, Bool.or_eq_false_iff, Bool.and_eq_false_iff, Bool.not_eq_true', Bool.not_eq_false', decide_eq_true_eq, decide_eq_false_iff_not, Bool.false_eq_true, Bool.true_eq_false, reduceCtorEq] at h)))
  · have hst : outD (m / 10) (dch m :: acc) = dec n := by
      rw [← hx2]
      refine outD_step m acc ?_ (by omega)
      rcases h with h | h
      · exact .inl (by omega)
      · have e := congrArg (fun b : ByteArray => b.data.toList) h
        exact .inr (by simpa using e)
    have hq : IntKind.i64.wrap ((m : Int).tdiv 10) = ((m / 10 : Nat) : Int) := by
      rw [Int.tdiv_eq_ediv_of_nonneg (by omega), w64 (by omega) (by omega)]; rfl
    rw [hm10, w64 (n := ((m % 10 : Nat) : Int) + 1) (by omega) (by omega)]
    have hz : ByteArray.size ⟨#[48, 49, 50, 51, 52, 53, 54, 55, 56, 57]⟩ = 10 := rfl
    refine j21 ?_ (h2 := by rw [hz]; omega)
    have hd : digitsS.extract (((m % 10 : Nat) : Int)).toNat (((m % 10 : Nat) : Int) + 1).toNat = ⟨[dch m].toArray⟩ := by
      rw [show (((m % 10 : Nat) : Int)).toNat = m % 10 from rfl, show (((m % 10 : Nat) : Int) + 1).toNat = m % 10 + 1 by omega, digitsS_at _ (by omega)]
      rfl
    show LJ _ _ _ _ _ ((31, .v (.string (digitsS.extract (((m % 10 : Nat) : Int)).toNat (((m % 10 : Nat) : Int) + 1).toNat))) :: _) _
    rw [hd]
    repeat (first|(refine jl ?_;first|refine j7 ?_|refine j8 ?_|refine j10 ?_|refine j11 ?_|refine jtf ?_|refine j1 ?_|refine j2 ?_|refine j3 ?_|refine j3f ?_|refine j4 ?_|refine j5 ?_|refine j6 ?_|refine j9 ?_|refine j12 (fun id hid=>?_)|refine j13 (fun id hid=>?_)|refine j14 ?_|refine j15 ?_|refine j17 ?_|refine j16 ?_|refine j18 ?_|refine j19 ?_|refine j20 ?_|refine j21 ?_|refine j23 ?_|refine j24 ?_|refine j25 ?_|refine j26 ?_|refine jeq ?_|refine jeqq ?_|refine jne ?_|refine jneq ?_|refine jcbq ?_|refine j22 (fun id hid=>?_))|(refine dl ?_;first|refine d7 ?_|refine d8 ?_|refine d10 ?_|refine d11 ?_|refine dtf ?_|refine d1 ?_|refine d2 ?_|refine d3 ?_|refine d3f ?_|refine d4 ?_|refine d9 ?_|refine d14 ?_|refine d14a ?_|refine d15 ?_|refine d16 ?_|refine d18 ?_|refine d19 ?_|refine d20 ?_|refine d21 ?_|refine d17 ?_|refine deq ?_|refine deqq ?_|refine dne ?_|refine dneq ?_|refine dcb ?_|refine dcbq ?_)|(refine jc ?_;first|refine c1 ?_|refine c2 ?_|refine c3 ?_|refine c4 ?_|refine c5 ?_|refine c6 ?_|refine c7 ?_|refine c8 ?_|refine cq ?_)|refine n1 ?_|refine n2 ?_|refine n3 ?_|refine n4 ?_|refine n5 ?_|refine n6 ?_|refine n7 ?_|refine n8 ?_|refine n9 ?_|refine n10 ?_|refine n13 ?_|refine n11 ?_|refine n12 ?_|refine n14 ?_|refine n15 ?_|refine n16 ?_)
    rw [bconcat, hq]
    refine nx_thn ⟨(m / 10, dch m :: acc), ⟨by simp only; omega, hst⟩, ?_, ⟨rfl, rfl, trivial⟩, St.le_refl _⟩
    simp only [reduceCtorEq, if_false]
    rcases h with h | h
    · split <;> omega
    · have e := congrArg (fun b : ByteArray => b.data.toList) h
      have e' : acc = [] := by simpa using e
      rw [if_pos e']; omega
  · have hm0' : m = 0 := by omega
    have hne : acc ≠ [] := fun e => h.2 (by rw [e])
    rw [hm0', outD_end acc hne] at hx2
    rw [← hx2]
    exact gives (St.le_refl _) (fin_one (.wk (Wk.of_eq rfl)))
theorem p_rtold : ∀ (k : Nat) (n : Int), (-1099511627776 ≤ n ∧ n ≤ 1099511627776) → (-n).toNat ≤ k → Pure Tryd.prog 33 [.v (.int .i64 n)] (.v (.string (toldS n))) := by
  intro k
  induction k with
  | zero =>
    intro n hn hk
    obtain ⟨m, rfl⟩ := Int.eq_ofNat_of_zero_le (show 0 ≤ n by omega)
    exact p_rtold0 m (by omega)
  | succ k ih =>
    intro n hn hk
    by_cases h0 : 0 ≤ n
    · obtain ⟨m, rfl⟩ := Int.eq_ofNat_of_zero_le h0
      exact p_rtold0 m (by omega)
    · refine enterW Tryd.func33 rfl rfl rfl rfl (fun σ => ?_)
      obtain ⟨m, hm⟩ := Int.eq_ofNat_of_zero_le (show 0 ≤ -n by omega)
      have hw1 : IntKind.i64.wrap (0 - n) = (m : Int) := by rw [w64 (by omega) (by omega)]; omega
      have hq : IntKind.i64.wrap (n.tdiv 10) = -((m / 10 : Nat) : Int) := by
        rw [show n = -(m : Int) by omega, Int.neg_tdiv, Int.tdiv_eq_ediv_of_nonneg (by omega), w64 (by omega) (by omega)]; rfl
      have hr : IntKind.i64.wrap (0 - n.tmod 10) = ((m % 10 : Nat) : Int) := by
        rw [show n = -(m : Int) by omega, Int.neg_tmod, Int.tmod_eq_emod_of_nonneg (by omega), w64 (by omega) (by omega)]; first | done | omega
      repeat' (first|(first|(refine jl ?_;first|refine j7 ?_|refine j8 ?_|refine j10 ?_|refine j11 ?_|refine jtf ?_|refine j1 ?_|refine j2 ?_|refine j3 ?_|refine j3f ?_|refine j4 ?_|refine j5 ?_|refine j6 ?_|refine j9 ?_|refine j12 (fun id hid=>?_)|refine j13 (fun id hid=>?_)|refine j14 ?_|refine j15 ?_|refine j17 ?_|refine j16 ?_|refine j18 ?_|refine j19 ?_|refine j20 ?_|refine j21 ?_|refine j23 ?_|refine j24 ?_|refine j25 ?_|refine j26 ?_|refine jeq ?_|refine jeqq ?_|refine jne ?_|refine jneq ?_|refine jcbq ?_|refine j22 (fun id hid=>?_))|(refine dl ?_;first|refine d7 ?_|refine d8 ?_|refine d10 ?_|refine d11 ?_|refine dtf ?_|refine d1 ?_|refine d2 ?_|refine d3 ?_|refine d3f ?_|refine d4 ?_|refine d9 ?_|refine d14 ?_|refine d14a ?_|refine d15 ?_|refine d16 ?_|refine d18 ?_|refine d19 ?_|refine d20 ?_|refine d21 ?_|refine d17 ?_|refine deq ?_|refine deqq ?_|refine dne ?_|refine dneq ?_|refine dcb ?_|refine dcbq ?_)|(refine jc ?_;first|refine c1 ?_|refine c2 ?_|refine c3 ?_|refine c4 ?_|refine c5 ?_|refine c6 ?_|refine c7 ?_|refine c8 ?_|refine cq ?_)|refine n1 ?_|refine n2 ?_|refine n3 ?_|refine n4 ?_|refine n5 ?_|refine n6 ?_|refine n7 ?_|refine n8 ?_|refine n9 ?_|refine n10 ?_|refine n13 ?_|refine n11 ?_|refine n12 ?_|refine n14 ?_|refine n15 ?_|refine n16 ?_)|(refine c9 (fun h=>?_) (fun h=>?_)<;>((try simp only [Bool.or_eq_true, Bool.and_eq_true, Bool.or_eq_false_iff, Bool.and_eq_false_iff, Bool.not_eq_true', Bool.not_eq_false', decide_eq_true_eq, decide_eq_false_iff_not, Bool.false_eq_true, Bool.true_eq_false, reduceCtorEq] at h) <;> (try simp (disch := omega) only [sb_bt, w64, Int.reduceAdd, Int.reduceToNat, Int.toNat_natCast, not_true_eq_false, false_or] at h) <;> (try (exfalso; omega)))))
      · rw [hq]
        have hz1 := toldS_size (-((m / 10 : Nat) : Int))
        have hz2 := toldS_size ((m % 10 : Nat) : Int)
        refine jp (ih (-((m / 10 : Nat) : Int)) ⟨by omega, by omega⟩ (by omega)) ?_
        repeat (first|(refine jl ?_;first|refine j7 ?_|refine j8 ?_|refine j10 ?_|refine j11 ?_|refine jtf ?_|refine j1 ?_|refine j2 ?_|refine j3 ?_|refine j3f ?_|refine j4 ?_|refine j5 ?_|refine j6 ?_|refine j9 ?_|refine j12 (fun id hid=>?_)|refine j13 (fun id hid=>?_)|refine j14 ?_|refine j15 ?_|refine j17 ?_|refine j16 ?_|refine j18 ?_|refine j19 ?_|refine j20 ?_|refine j21 ?_|refine j23 ?_|refine j24 ?_|refine j25 ?_|refine j26 ?_|refine jeq ?_|refine jeqq ?_|refine jne ?_|refine jneq ?_|refine jcbq ?_|refine j22 (fun id hid=>?_))|(refine dl ?_;first|refine d7 ?_|refine d8 ?_|refine d10 ?_|refine d11 ?_|refine dtf ?_|refine d1 ?_|refine d2 ?_|refine d3 ?_|refine d3f ?_|refine d4 ?_|refine d9 ?_|refine d14 ?_|refine d14a ?_|refine d15 ?_|refine d16 ?_|refine d18 ?_|refine d19 ?_|refine d20 ?_|refine d21 ?_|refine d17 ?_|refine deq ?_|refine deqq ?_|refine dne ?_|refine dneq ?_|refine dcb ?_|refine dcbq ?_)|(refine jc ?_;first|refine c1 ?_|refine c2 ?_|refine c3 ?_|refine c4 ?_|refine c5 ?_|refine c6 ?_|refine c7 ?_|refine c8 ?_|refine cq ?_)|refine n1 ?_|refine n2 ?_|refine n3 ?_|refine n4 ?_|refine n5 ?_|refine n6 ?_|refine n7 ?_|refine n8 ?_|refine n9 ?_|refine n10 ?_|refine n13 ?_|refine n11 ?_|refine n12 ?_|refine n14 ?_|refine n15 ?_|refine n16 ?_)
        rw [hr]
        refine jp (p_rtold0 (m % 10) (by omega)) ?_
        repeat (first|(refine jl ?_;first|refine j7 ?_|refine j8 ?_|refine j10 ?_|refine j11 ?_|refine jtf ?_|refine j1 ?_|refine j2 ?_|refine j3 ?_|refine j3f ?_|refine j4 ?_|refine j5 ?_|refine j6 ?_|refine j9 ?_|refine j12 (fun id hid=>?_)|refine j13 (fun id hid=>?_)|refine j14 ?_|refine j15 ?_|refine j17 ?_|refine j16 ?_|refine j18 ?_|refine j19 ?_|refine j20 ?_|refine j21 ?_|refine j23 ?_|refine j24 ?_|refine j25 ?_|refine j26 ?_|refine jeq ?_|refine jeqq ?_|refine jne ?_|refine jneq ?_|refine jcbq ?_|refine j22 (fun id hid=>?_))|(refine dl ?_;first|refine d7 ?_|refine d8 ?_|refine d10 ?_|refine d11 ?_|refine dtf ?_|refine d1 ?_|refine d2 ?_|refine d3 ?_|refine d3f ?_|refine d4 ?_|refine d9 ?_|refine d14 ?_|refine d14a ?_|refine d15 ?_|refine d16 ?_|refine d18 ?_|refine d19 ?_|refine d20 ?_|refine d21 ?_|refine d17 ?_|refine deq ?_|refine deqq ?_|refine dne ?_|refine dneq ?_|refine dcb ?_|refine dcbq ?_)|(refine jc ?_;first|refine c1 ?_|refine c2 ?_|refine c3 ?_|refine c4 ?_|refine c5 ?_|refine c6 ?_|refine c7 ?_|refine c8 ?_|refine cq ?_)|refine n1 ?_|refine n2 ?_|refine n3 ?_|refine n4 ?_|refine n5 ?_|refine n6 ?_|refine n7 ?_|refine n8 ?_|refine n9 ?_|refine n10 ?_|refine n13 ?_|refine n11 ?_|refine n12 ?_|refine n14 ?_|refine n15 ?_|refine n16 ?_)
        refine gives (St.le_refl _) (fin_one (.wk (Wk.of_eq ?_)))
        have e1 : toldS (-((m / 10 : Nat) : Int)) = ⟨(45 :: dec (m / 10)).toArray⟩ := by
          rw [toldS, if_pos (by omega)]
          congr 4; omega
        have e2 : toldS ((m % 10 : Nat) : Int) = ⟨[dch m].toArray⟩ := by
          rw [toldS, if_neg (by omega), show (((m % 10 : Nat) : Int)).toNat = m % 10 from rfl, dec_small _ (by omega)]
          unfold dch
          rw [Nat.mod_mod]
        have e3 : toldS n = ⟨(45 :: dec m).toArray⟩ := by
          rw [toldS, if_pos (by omega)]
          congr 4; omega
        rw [e1, e2, e3, bconcat, dec_step m (by omega) (by omega)]
        rfl
      · rw [hw1]
        have hz1 := toldS_size (m : Int)
        refine jp (p_rtold0 m (by omega)) ?_
        have hz : ByteArray.size ⟨#[45]⟩ = 1 := rfl
        repeat (first|(refine jl ?_;first|refine j7 ?_|refine j8 ?_|refine j10 ?_|refine j11 ?_|refine jtf ?_|refine j1 ?_|refine j2 ?_|refine j3 ?_|refine j3f ?_|refine j4 ?_|refine j5 ?_|refine j6 ?_|refine j9 ?_|refine j12 (fun id hid=>?_)|refine j13 (fun id hid=>?_)|refine j14 ?_|refine j15 ?_|refine j17 ?_|refine j16 ?_|refine j18 ?_|refine j19 ?_|refine j20 ?_|refine j21 ?_|refine j23 ?_|refine j24 ?_|refine j25 ?_|refine j26 ?_|refine jeq ?_|refine jeqq ?_|refine jne ?_|refine jneq ?_|refine jcbq ?_|refine j22 (fun id hid=>?_))|(refine dl ?_;first|refine d7 ?_|refine d8 ?_|refine d10 ?_|refine d11 ?_|refine dtf ?_|refine d1 ?_|refine d2 ?_|refine d3 ?_|refine d3f ?_|refine d4 ?_|refine d9 ?_|refine d14 ?_|refine d14a ?_|refine d15 ?_|refine d16 ?_|refine d18 ?_|refine d19 ?_|refine d20 ?_|refine d21 ?_|refine d17 ?_|refine deq ?_|refine deqq ?_|refine dne ?_|refine dneq ?_|refine dcb ?_|refine dcbq ?_)|(refine jc ?_;first|refine c1 ?_|refine c2 ?_|refine c3 ?_|refine c4 ?_|refine c5 ?_|refine c6 ?_|refine c7 ?_|refine c8 ?_|refine cq ?_)|refine n1 ?_|refine n2 ?_|refine n3 ?_|refine n4 ?_|refine n5 ?_|refine n6 ?_|refine n7 ?_|refine n8 ?_|refine n9 ?_|refine n10 ?_|refine n13 ?_|refine n11 ?_|refine n12 ?_|refine n14 ?_|refine n15 ?_|refine n16 ?_)
        refine gives (St.le_refl _) (fin_one (.wk (Wk.of_eq ?_)))
        have e3 : toldS n = ⟨(45 :: dec m).toArray⟩ := by
          rw [toldS, if_pos (by omega)]
          congr 4; omega
        have e1 : toldS (m : Int) = ⟨(dec m).toArray⟩ := by
          rw [toldS, if_neg (by omega)]; rfl
        rw [e1, e3]
        show AV.v (.string ((⟨[45].toArray⟩ : ByteArray) ++ _)) = _
        rw [bconcat]
        rfl
end Go.Proofs.YtledbkkaaomjpabDoor.Ab
