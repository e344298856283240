/- The texts HE, HF, VP, HG, HH, HI, HJ, HK, HL, G1, G2, G3, C1, O1, one behind the other. -/
import Derived.Test.YtfaaokekgljnbaaDoorM1
import Derived.Test.YtfaaokekgljnbaaDoorM2
import Derived.Test.YtfaaokekgljnbaaDoorM3
import Derived.Test.YtfaaokekgljnbaaDoorM4
import Derived.Test.YtfaaokekgljnbaaDoorM5
import Derived.Test.YtfaaokekgljnbaaDoorM6
import Derived.Test.YtfaaokekgljnbaaDoorM7
import Derived.Test.YtfaaokekgljnbaaDoorRows
import Derived.WalkKit
import Derived.ProofKit
import Derived.OpenShut
import Derived.ChangeOld
import Derived.Below
import Derived.Lib.SmallJoins
/- The lexer: plain laws: where a text ends. -/
set_option linter.unusedVariables false
set_option linter.unusedSimpArgs false
set_option maxRecDepth 20000
namespace Go.Proofs.YtfaaokekgljnbaaDoor.Ab
open Go
/-- What stands behind an ASCII byte changes no code point ahead of it. -/
theorem decN_stop (n n' b0 b1 b2 b3 c1 c2 c3 : Nat) (h0 : 0 < n) (hn : n < n')
    (h1 : 1 < n → c1 = b1) (h2 : 2 < n → c2 = b2) (h3 : 3 < n → c3 = b3)
    (e1 : n = 1 → c1 < 128) (e2 : n = 2 → c2 < 128) (e3 : n = 3 → c3 < 128) : Lib.decodeN n' b0 c1 c2 c3 = Lib.decodeN n b0 b1 b2 b3 := by
  rcases (by omega : n = 1 ∨ n = 2 ∨ n = 3 ∨ 3 < n) with rfl | rfl | rfl | h
  · have g := e1 rfl
    unfold Lib.decodeN
    simp [show ¬ c1 / 64 = 2 by omega]
  · obtain rfl := h1 (by omega)
    have g := e2 rfl
    unfold Lib.decodeN
    simp [show ¬ c2 / 64 = 2 by omega, show 1 < n' by omega]
  · obtain rfl := h1 (by omega)
    obtain rfl := h2 (by omega)
    have g := e3 rfl
    unfold Lib.decodeN
    simp [show ¬ c3 / 64 = 2 by omega, show 1 < n' by omega, show 2 < n' by omega]
  · obtain rfl := h1 (by omega)
    obtain rfl := h2 (by omega)
    obtain rfl := h3 (by omega)
    unfold Lib.decodeN
    simp [show 1 < n' by omega, show 2 < n' by omega, show 3 < n' by omega, show 1 < n by omega, show 2 < n by omega, show 3 < n by omega]
theorem getD_app (l m : List UInt8) (i : Nat) (h : i < l.length) : (l ++ m).getD i 0 = l.getD i 0 := by
  simp [List.getD, List.getElem?_append_left h]
theorem getD_at (l m : List UInt8) (x : UInt8) : (l ++ x :: m).getD l.length 0 = x := by
  simp [List.getD]
theorem dec_stop (l m : List UInt8) (x : UInt8) (hx : x.toNat < 128) (hne : l ≠ []) : Lib.decodeL (l ++ x :: m) = Lib.decodeL l := by
  have hl : 0 < l.length := List.length_pos_iff.2 hne
  rw [Lib.decodeL_N, Lib.decodeL_N, getD_app l _ 0 hl]
  refine decN_stop _ _ _ _ _ _ _ _ _ hl (by simp) (fun h => by rw [getD_app l _ 1 h]) (fun h => by rw [getD_app l _ 2 h]) (fun h => by rw [getD_app l _ 3 h]) (fun h => ?_) (fun h => ?_) (fun h => ?_)
  · have := getD_at l m x
    rw [h] at this
    rw [this]; exact hx
  · have := getD_at l m x
    rw [h] at this
    rw [this]; exact hx
  · have := getD_at l m x
    rw [h] at this
    rw [this]; exact hx
theorem run_stop (x : UInt8) (hx : x.toNat < 128) (hn : ¬ inP (x.toNat : Int)) (m : List UInt8) : ∀ (n : Nat) (l : List UInt8), l.length ≤ n → runL (l ++ x :: m) = runL l := by
  have h0 : runL (x :: m) = 0 := by
    rw [runL_step _ (by simp), Lib.decodeL_ascii x m hx, if_pos (Or.inr hn)]
  intro n
  induction n with
  | zero =>
    intro l hl
    obtain rfl : l = [] := List.eq_nil_of_length_eq_zero (by omega)
    exact h0
  | succ n ih =>
    intro l hl
    by_cases hne : l = []
    · subst hne; exact h0
    · have hw := Lib.decodeL_width l
      have hle := Lib.decodeL_le l hne
      rw [runL_step _ (by simp), runL_step l hne, dec_stop l m x hx hne, List.drop_append_of_le_length hle, ih _ (by rw [List.length_drop]; omega)]
def ofL (l : List UInt8) : ByteArray := ⟨l.toArray⟩
theorem ofL_list (l : List UInt8) : (ofL l).data.toList = l := by simp [ofL]
theorem ofL_size (l : List UInt8) : (ofL l).size = l.length := by rw [← bl_len, ofL_list]
theorem ofL_ext {s : ByteArray} {l : List UInt8} (h : s.data.toList = l) : s = ofL l := by
  apply ByteArray.ext
  apply Array.toList_inj.1
  rw [ofL_list, h]
theorem ofL_cut (l : List UInt8) (i j : Nat) : (ofL l).extract i j = ofL ((l.take j).drop i) := ofL_ext (by rw [exl, ofL_list])
theorem take_stop {p l m : List UInt8} {x : UInt8} (hx : x ∉ p) : (l ++ x :: m).take p.length = p ↔ l.take p.length = p := by
  by_cases h : p.length ≤ l.length
  · rw [List.take_append_of_le_length h]
  · constructor
    · intro e
      exfalso
      apply hx
      rw [← e, List.take_append, List.mem_append]
      right
      obtain ⟨k, hk⟩ : ∃ k, p.length - l.length = k + 1 := ⟨p.length - l.length - 1, by omega⟩
      rw [hk, List.take_succ_cons]
      exact List.mem_cons_self ..
    · intro e
      have := congrArg List.length e
      rw [List.length_take] at this
      omega
theorem pre_stop {p : ByteArray} {l m : List UInt8} {x : UInt8} (hx : x ∉ p.data.toList) : hasPre (ofL (l ++ x :: m)) p = hasPre (ofL l) p := by
  have h1 := hasPre_iff (ofL (l ++ x :: m)) p
  have h2 := hasPre_iff (ofL l) p
  rw [ofL_list, ← bl_len p] at h1 h2
  rw [take_stop hx] at h1
  cases ha : hasPre (ofL (l ++ x :: m)) p <;> cases hb : hasPre (ofL l) p <;> simp_all
/-- A byte at which every token ends. -/
def stopB (x : UInt8) : Prop := x = 10 ∨ x = 32
theorem stop_lt {x : UInt8} (h : stopB x) : x.toNat < 128 := by rcases h with rfl | rfl <;> decide
theorem stop_in {x : UInt8} (h : stopB x) : ¬ inP (x.toNat : Int) := by rcases h with rfl | rfl <;> decide
theorem runS_ofL (l : List UInt8) : runS (ofL l) = runL l := by unfold runS; rw [ofL_list]
theorem sign_stop {l m : List UInt8} {x : UInt8} (hx : stopB x) : signF (ofL (l ++ x :: m)) = signF (ofL l) := by
  rw [signF_eq, signF_eq]
  have h : ∀ p : ByteArray, 10 ∉ p.data.toList → 32 ∉ p.data.toList → hasPre (ofL (l ++ x :: m)) p = hasPre (ofL l) p := fun p h1 h2 => pre_stop (by rcases hx with rfl | rfl; exact h1; exact h2)
  rw [h _ (by decide) (by decide), h _ (by decide) (by decide), h _ (by decide) (by decide), h _ (by decide) (by decide), h _ (by decide) (by decide), h _ (by decide) (by decide), h _ (by decide) (by decide), h _ (by decide) (by decide)]
theorem pred2_stop {l m : List UInt8} {x : UInt8} (hx : stopB x) : predF (ofL (l ++ x :: m)) 2 = predF (ofL l) 2 := by
  rw [predF2, predF2]
  have h : ∀ p : ByteArray, 10 ∉ p.data.toList → 32 ∉ p.data.toList → hasPre (ofL (l ++ x :: m)) p = hasPre (ofL l) p := fun p h1 h2 => pre_stop (by rcases hx with rfl | rfl; exact h1; exact h2)
  rw [h _ (by decide) (by decide), h _ (by decide) (by decide), h _ (by decide) (by decide)]
theorem pred1_stop {l m : List UInt8} {x : UInt8} (hx : stopB x) : predF (ofL (l ++ x :: m)) 1 = predF (ofL l) 1 := by
  rw [predF1, predF1]
  have h : ∀ p : ByteArray, 10 ∉ p.data.toList → 32 ∉ p.data.toList → hasPre (ofL (l ++ x :: m)) p = hasPre (ofL l) p := fun p h1 h2 => pre_stop (by rcases hx with rfl | rfl; exact h1; exact h2)
  rw [h _ (by decide) (by decide), h _ (by decide) (by decide), h _ (by decide) (by decide)]
theorem word_stop {l m : List UInt8} {x : UInt8} (hx : stopB x) : wordR (ofL (l ++ x :: m)) = wordR (ofL l) := by
  unfold wordR
  have h1 := run_stop x (stop_lt hx) (stop_in hx) m l.length l (Nat.le_refl _)
  have h2 := runL_le l
  rw [runS_ofL, runS_ofL, h1, ofL_cut, ofL_cut, List.take_append_of_le_length h2]
theorem named_stop {k : Int} {op cl : ByteArray} {l m : List UInt8} {x : UInt8} (hx : stopB x) (ho : op.size = 1) (hoc : 10 ∉ op.data.toList ∧ 32 ∉ op.data.toList) (hcc : 10 ∉ cl.data.toList ∧ 32 ∉ cl.data.toList) : namedF k op cl (ofL (l ++ x :: m)) = namedF k op cl (ofL l) := by
  have h : ∀ (l : List UInt8) (p : ByteArray), 10 ∉ p.data.toList → 32 ∉ p.data.toList → hasPre (ofL (l ++ x :: m)) p = hasPre (ofL l) p := fun l p h1 h2 => pre_stop (by rcases hx with rfl | rfl; exact h1; exact h2)
  unfold namedF
  rw [h _ _ hoc.1 hoc.2]
  split
  · rename_i hp
    have hps := hasPre_size hp
    rw [ofL_size, ho] at hps
    rw [ho, ofL_size, ofL_size]
    have hd : (l ++ x :: m).drop 1 = l.drop 1 ++ x :: m := by rw [List.drop_append_of_le_length hps]
    have hr := run_stop x (stop_lt hx) (stop_in hx) m (l.drop 1).length (l.drop 1) (Nat.le_refl _)
    have hle := runL_le (l.drop 1)
    rw [List.length_drop] at hle
    simp only [ofL_cut, List.take_length, hd, runS_ofL, hr]
    rw [List.drop_append_of_le_length (by omega), List.take_append_of_le_length (by omega), h _ _ hcc.1 hcc.2]
  · rfl
theorem one_stop {l m : List UInt8} {x : UInt8} (hx : stopB x) : oneF (ofL (l ++ x :: m)) = oneF (ofL l) := by
  unfold oneF
  rw [sign_stop hx, pred2_stop hx, named_stop hx rfl (by decide) (by decide), pred1_stop hx, named_stop hx rfl (by decide) (by decide), word_stop hx]
end Go.Proofs.YtfaaokekgljnbaaDoor.Ab

/- The lexer: plain laws: the scan of what is left; two texts with a line end between. -/
set_option linter.unusedVariables false
set_option linter.unusedSimpArgs false
set_option maxRecDepth 20000
namespace Go.Proofs.YtfaaokekgljnbaaDoor.Ab
open Go
/-- The tokens of what is left, from a place on. -/
def scanL : Nat → Nat → List UInt8 → List Tk × Option Nat
  | 0, _, _ => ([], none)
  | n + 1, p, l => if l = [] then ([], none) else match oneF (ofL l) with
    | none => ([], some p)
    | some (t, k) => ({ t with pl := p } :: (scanL n (p + k + whL (l.drop k)) (l.drop (k + whL (l.drop k)))).1, (scanL n (p + k + whL (l.drop k)) (l.drop (k + whL (l.drop k)))).2)
theorem oneL_pos {l : List UInt8} {t : Tk} {k : Nat} (h : oneF (ofL l) = some (t, k)) : 0 < k ∧ k ≤ l.length := by
  have := oneF_pos h
  rwa [ofL_size] at this
theorem scanL_A (s : ByteArray) : ∀ (n a : Nat), scanA s n a = scanL n a (s.data.toList.drop a)
  | 0, a => rfl
  | n + 1, a => by
    have hlen := bl_len s
    rw [scanA, scanL]
    by_cases h : a < s.size
    · have hne : s.data.toList.drop a ≠ [] := by
        intro e
        have := congrArg List.length e
        rw [List.length_drop] at this
        simp at this
        omega
      have he : ofL (s.data.toList.drop a) = s.extract a s.size := (ofL_ext (by rw [exl, ← hlen, List.take_length])).symm
      rw [if_pos h, if_neg hne, he]
      cases h1 : oneF (s.extract a s.size) with
      | none => rfl
      | some x =>
        obtain ⟨t, k⟩ := x
        dsimp only
        rw [scanL_A s n]
        simp only [List.drop_drop, Nat.add_assoc]
    · have hnil : s.data.toList.drop a = [] := List.drop_of_length_le (by omega)
      rw [if_neg h, if_pos hnil]
theorem scanL_fuel : ∀ (n m p : Nat) (l : List UInt8), l.length ≤ n → l.length ≤ m → scanL n p l = scanL m p l
  | 0, 0, p, l, _, _ => rfl
  | 0, m + 1, p, l, h, _ => by
    obtain rfl : l = [] := List.eq_nil_of_length_eq_zero (by omega)
    rfl
  | n + 1, 0, p, l, _, h => by
    obtain rfl : l = [] := List.eq_nil_of_length_eq_zero (by omega)
    rfl
  | n + 1, m + 1, p, l, hn, hm => by
    rw [scanL.eq_2, scanL.eq_2]
    by_cases hne : l = []
    · rw [if_pos hne, if_pos hne]
    · rw [if_neg hne, if_neg hne]
      cases h : oneF (ofL l) with
      | none => rfl
      | some x =>
        obtain ⟨t, k⟩ := x
        have hp := oneL_pos h
        dsimp only
        rw [scanL_fuel n m _ _ (by rw [List.length_drop]; omega) (by rw [List.length_drop]; omega)]
def scanF (p : Nat) (l : List UInt8) : List Tk × Option Nat := scanL l.length p l
/-- The same, with white ahead. -/
def scanW (p : Nat) (l : List UInt8) : List Tk × Option Nat := scanF (p + whL l) (l.drop (whL l))
theorem scanF_nil (p : Nat) : scanF p [] = ([], none) := rfl
theorem scanF_bad {p : Nat} {l : List UInt8} (hne : l ≠ []) (h : oneF (ofL l) = none) : scanF p l = ([], some p) := by
  have hl : 0 < l.length := List.length_pos_iff.2 hne
  obtain ⟨n, hn⟩ : ∃ n, l.length = n + 1 := ⟨l.length - 1, by omega⟩
  unfold scanF
  rw [hn, scanL.eq_2, if_neg hne, h]
theorem scanF_one {p k : Nat} {t : Tk} {l : List UInt8} (hne : l ≠ []) (h : oneF (ofL l) = some (t, k)) : scanF p l = ({ t with pl := p } :: (scanW (p + k) (l.drop k)).1, (scanW (p + k) (l.drop k)).2) := by
  have hl : 0 < l.length := List.length_pos_iff.2 hne
  obtain ⟨n, hn⟩ : ∃ n, l.length = n + 1 := ⟨l.length - 1, by omega⟩
  have hp := oneL_pos h
  unfold scanW scanF
  rw [hn, scanL.eq_2, if_neg hne, h]
  dsimp only
  rw [List.drop_drop, scanL_fuel n (l.drop (k + whL (l.drop k))).length _ _ (by rw [List.length_drop]; omega) (Nat.le_refl _)]
theorem scanR_W (s : ByteArray) : scanR s (whL s.data.toList) = scanW 0 s.data.toList := by
  unfold scanR scanW scanF
  rw [scanL_A, Nat.zero_add]
  exact scanL_fuel _ _ _ _ (by rw [List.length_drop, bl_len]; exact Nat.le_refl _) (Nat.le_refl _)
theorem scanV_W {s : ByteArray} (h : s.size ≤ 16384) : scanV s = ((scanW 0 s.data.toList).1, ((scanW 0 s.data.toList).2.map (fun a => (a : Int))).getD 0, if (scanW 0 s.data.toList).2 = none then 0 else 16) := by
  unfold scanV
  rw [if_neg (by omega), scanR_W]
  rcases scanW 0 s.data.toList with ⟨l, _ | a⟩
  · rfl
  · rfl
/-! ### A line end between -/
theorem whG_join (m : List UInt8) : ∀ (b : Bool) (l : List UInt8), whG b (l ++ 10 :: m) = if whG b l = l.length then l.length + 1 + whL m else whG b l
  | true, [] => by simp [whG, whL]
  | false, [] => by simp [whG, whL]
  | true, c :: l => by
    have h1 := whG_join m false l
    have h2 := whG_join m true l
    have l1 := whG_le false l
    have l2 := whG_le true l
    have e1 : whG true (c :: (l ++ 10 :: m)) = if c.toNat = 10 then 1 + whG false (l ++ 10 :: m) else 1 + whG true (l ++ 10 :: m) := rfl
    have e2 : whG true (c :: l) = if c.toNat = 10 then 1 + whG false l else 1 + whG true l := rfl
    rw [List.cons_append, e1, e2, h1, h2, List.length_cons]
    by_cases hc : c.toNat = 10
    · rw [if_pos hc, if_pos hc]
      split <;> split <;> omega
    · rw [if_neg hc, if_neg hc]
      split <;> split <;> omega
  | false, c :: l => by
    have h1 := whG_join m false l
    have h2 := whG_join m true l
    have l1 := whG_le false l
    have l2 := whG_le true l
    have e1 : whG false (c :: (l ++ 10 :: m)) = if c.toNat = 32 ∨ c.toNat = 9 ∨ c.toNat = 10 ∨ c.toNat = 13 then 1 + whG false (l ++ 10 :: m) else if c.toNat = 59 then 1 + whG true (l ++ 10 :: m) else 0 := rfl
    have e2 : whG false (c :: l) = if c.toNat = 32 ∨ c.toNat = 9 ∨ c.toNat = 10 ∨ c.toNat = 13 then 1 + whG false l else if c.toNat = 59 then 1 + whG true l else 0 := rfl
    rw [List.cons_append, e1, e2, h1, h2, List.length_cons]
    by_cases hc : c.toNat = 32 ∨ c.toNat = 9 ∨ c.toNat = 10 ∨ c.toNat = 13
    · rw [if_pos hc, if_pos hc]
      split <;> split <;> omega
    · rw [if_neg hc, if_neg hc]
      by_cases hd : c.toNat = 59
      · rw [if_pos hd, if_pos hd]
        split <;> split <;> omega
      · rw [if_neg hd, if_neg hd]
        rw [if_neg (by omega)]
theorem scanW_join (m : List UInt8) : ∀ (n : Nat) (l : List UInt8) (p : Nat), l.length ≤ n → scanW p (l ++ 10 :: m) = match scanW p l with
    | (ts, none) => (ts ++ (scanW (p + l.length + 1) m).1, (scanW (p + l.length + 1) m).2)
    | (ts, some q) => (ts, some q) := by
  intro n
  induction n with
  | zero =>
    intro l p hl
    obtain rfl : l = [] := List.eq_nil_of_length_eq_zero (by omega)
    have e : whL (10 :: m) = 1 + whL m := whB (by decide)
    show scanW p (10 :: m) = ([] ++ _, _)
    unfold scanW
    rw [e, show 1 + whL m = whL m + 1 by omega, List.drop_succ_cons]
    simp [Nat.add_assoc, Nat.add_comm]
  | succ n ih =>
    intro l p hl
    have hw := whG_join m false l
    have hle := whG_le false l
    change whL (l ++ 10 :: m) = if whL l = l.length then l.length + 1 + whL m else whL l at hw
    change whL l ≤ l.length at hle
    by_cases he : whL l = l.length
    · rw [if_pos he] at hw
      have e1 : scanW p l = ([], none) := by
        unfold scanW
        rw [he, List.drop_length]
        rfl
      rw [e1]
      dsimp only
      unfold scanW
      rw [hw, List.nil_append]
      have e2 : (l ++ 10 :: m).drop (l.length + 1 + whL m) = m.drop (whL m) := by
        rw [← List.drop_drop, ← List.drop_drop, List.drop_left]
        rfl
      rw [e2, ← Nat.add_assoc, ← Nat.add_assoc]
    · rw [if_neg he] at hw
      have hne : l.drop (whL l) ≠ [] := by
        intro e
        have := congrArg List.length e
        rw [List.length_drop] at this
        simp at this
        omega
      have hd : (l ++ 10 :: m).drop (whL l) = l.drop (whL l) ++ 10 :: m := List.drop_append_of_le_length hle
      have hs := @one_stop (l.drop (whL l)) m 10 (.inl rfl)
      have hW : scanW p (l ++ 10 :: m) = scanF (p + whL l) (l.drop (whL l) ++ 10 :: m) := by
        rw [scanW, hw, hd]
      have hW2 : scanW p l = scanF (p + whL l) (l.drop (whL l)) := rfl
      rw [hW, hW2]
      cases h1 : oneF (ofL (l.drop (whL l))) with
      | none =>
        rw [scanF_bad hne h1, scanF_bad (by simp) (hs.trans h1)]
      | some x =>
        obtain ⟨t, k⟩ := x
        have hp := oneL_pos h1
        rw [List.length_drop] at hp
        rw [scanF_one hne h1, scanF_one (by simp) (hs.trans h1), List.drop_append_of_le_length (by rw [List.length_drop]; omega), ih _ _ (by rw [List.length_drop, List.length_drop]; omega)]
        have hpl : p + whL l + k + ((l.drop (whL l)).drop k).length + 1 = p + l.length + 1 := by
          rw [List.length_drop, List.length_drop]; omega
        rw [hpl]
        rcases scanW (p + whL l + k) ((l.drop (whL l)).drop k) with ⟨ts, _ | q⟩
        · rfl
        · rfl
theorem scanL_shift (d : Nat) : ∀ (n p : Nat) (l : List UInt8), scanL n (p + d) l = ((scanL n p l).1.map (fun t => { t with pl := t.pl + d }), (scanL n p l).2.map (· + d))
  | 0, p, l => rfl
  | n + 1, p, l => by
    rw [scanL.eq_2, scanL.eq_2]
    by_cases hne : l = []
    · rw [if_pos hne, if_pos hne]; rfl
    · rw [if_neg hne, if_neg hne]
      cases h : oneF (ofL l) with
      | none => rfl
      | some x =>
        obtain ⟨t, k⟩ := x
        dsimp only
        rw [show p + d + k + whL (l.drop k) = p + k + whL (l.drop k) + d by omega, scanL_shift d n, List.map_cons]
        dsimp only
        rw [Int.natCast_add]
theorem scanW_shift (d p : Nat) (l : List UInt8) : scanW (p + d) l = ((scanW p l).1.map (fun t => { t with pl := t.pl + d }), (scanW p l).2.map (· + d)) := by
  unfold scanW scanF
  rw [show p + d + whL l = p + whL l + d by omega, scanL_shift]
end Go.Proofs.YtfaaokekgljnbaaDoor.Ab

/- Values: a text of a value is read as that value; plain lemmas alone. -/
set_option linter.unusedVariables false
set_option linter.unusedSimpArgs false
set_option maxRecDepth 20000
namespace Go.Proofs.YtfaaokekgljnbaaDoor.Ab
open Go
theorem checkE_kind {k n : Int} {s : ByteArray} (h : checkE k n s = 0) : k ≤ 2 := by
  unfold checkE at h
  grind
theorem checkE_size {k n : Int} {s : ByteArray} (h : checkE k n s = 0) (hk : k = 2) : s.size ≤ 24 := by
  refine wordB_size ?_
  unfold checkE at h
  grind
theorem check_zero {k n : Int} {s : ByteArray} (h : checkE k n s = 0) (hk : k = 0) : n = 0 ∧ s = ⟨#[]⟩ := by unfold checkE at h; grind
theorem check_one {k n : Int} {s : ByteArray} (h : checkE k n s = 0) (hk : k = 1) : s = ⟨#[]⟩ := by unfold checkE at h; grind
theorem check_two {k n : Int} {s : ByteArray} (h : checkE k n s = 0) (hk : k = 2) : n = 0 ∧ wordB s = true ∧ isNumB s = false ∧ s ≠ nilS := by unfold checkE at h; grind
theorem digB_append (a b : List UInt8) : digB (a ++ b) = (digB a && digB b) := by
  induction a with
  | nil => rfl
  | cons x a ih => rw [List.cons_append, digB, digB, ih, Bool.and_assoc]
theorem valN_append (a b : List UInt8) (n : Nat) : valN n (a ++ b) = valN (valN n a) b := by unfold valN; exact List.foldl_append ..
theorem dig_dch (n : Nat) : digB [dch n] = true := by
  have := dch_toNat n
  rw [digB, decide_eq_true (by omega : dig (dch n).toNat)]; rfl
theorem dec_dig (m : Nat) (hm : m < 10000000000000000000) : digB (dec m) = true ∧ valN 0 (dec m) = m ∧ dec m ≠ [] := by
  induction m using Nat.strongRecOn with
  | _ m ih =>
    by_cases h : m < 10
    · rw [dec_small m h]
      refine ⟨dig_dch m, ?_, by simp⟩
      rw [valN_cons, valN_nil, dch_toNat]
      omega
    · rw [dec_step m (by omega) hm]
      obtain ⟨h1, h2, _⟩ := ih (m / 10) (by omega) (by omega)
      refine ⟨by rw [digB_append, h1, dig_dch]; rfl, ?_, by simp⟩
      rw [valN_append, h2, valN_cons, valN_nil, dch_toNat]
      omega
theorem inP_dig {c : Int} (h : 48 ≤ c ∧ c ≤ 57) : inP c := by unfold inP; omega
/-- A text of digits, and one with a minus ahead, is a word. -/
theorem wordL_dig : ∀ (l : List UInt8), digB l = true → wordL l = true
  | [], _ => rfl
  | b :: l, h => by
    rw [digB, Bool.and_eq_true, decide_eq_true_eq] at h
    rw [wordL_step _ (by simp), Lib.decodeL_ascii b l (by omega)]
    rw [if_neg (by simp only; omega), decide_eq_true (inP_dig (by simp only; omega)), Bool.true_and]
    exact wordL_dig l h.2
theorem told_facts (n : Int) (hn : -1099511627776 ≤ n ∧ n ≤ 1099511627776) : ∃ l : List UInt8, digB l = true ∧ valN 0 l = n.natAbs ∧ l ≠ [] ∧ l.length ≤ 19 ∧ toldS n = (if n < 0 then ⟨(45 :: l).toArray⟩ else ⟨l.toArray⟩) := by
  by_cases h : n < 0
  · obtain ⟨h1, h2, h3⟩ := dec_dig (-n).toNat (by omega)
    exact ⟨dec (-n).toNat, h1, by rw [h2]; omega, h3, dec_len _, by rw [toldS, if_pos h, if_pos h]⟩
  · obtain ⟨h1, h2, h3⟩ := dec_dig n.toNat (by omega)
    exact ⟨dec n.toNat, h1, by rw [h2]; omega, h3, dec_len _, by rw [toldS, if_neg h, if_neg h]⟩
theorem bt_list (l : List UInt8) : bt ⟨l.toArray⟩ 0 = (l.getD 0 0).toNat := rfl
theorem parse_told (n : Int) (hn : -1099511627776 ≤ n ∧ n ≤ 1099511627776) : parseV (toldS n) = (1, n, ⟨#[]⟩, 0) ∧ isNumB (toldS n) = true := by
  obtain ⟨l, h1, h2, h3, h4, h5⟩ := told_facts n hn
  obtain ⟨b, r, rfl⟩ : ∃ b r, l = b :: r := by
    cases l with
    | nil => exact absurd rfl h3
    | cons b r => exact ⟨b, r, rfl⟩
  have hb : dig b.toNat := by
    rw [digB, Bool.and_eq_true, decide_eq_true_eq] at h1
    exact h1.1
  by_cases h : n < 0
  · rw [if_pos h] at h5
    have hsg : sgnB (toldS n) = true := (sgnB_iff _).2 ⟨by rw [h5, bsz]; simp, .inl (by rw [h5]; rfl)⟩
    have hbody : (bodyS (toldS n)).data.toList = b :: r := by
      rw [bodyS, if_pos hsg, Lib.ext_list, h5]; rfl
    have hbs : 0 < (bodyS (toldS n)).size := by rw [← bl_len, hbody]; simp
    have hnum : isNumB (toldS n) = true := by
      unfold isNumB allD
      rw [hbody, h1, decide_eq_true hbs]; rfl
    have hmi : minusB (toldS n) = true := by
      unfold minusB
      rw [hsg, decide_eq_true (by rw [h5]; rfl)]; rfl
    have hword : wordB (toldS n) = true := by
      unfold wordB
      rw [h5, bsz, decide_eq_true (by simp), decide_eq_true (by rw [List.length_cons]; omega), Bool.true_and, Bool.true_and]
      show wordL (45 :: b :: r) = true
      rw [wordL_step _ (by simp), Lib.decodeL_ascii 45 _ (by decide)]
      rw [if_neg (by decide), decide_eq_true (by decide), Bool.true_and]
      exact wordL_dig _ h1
    have hnil : toldS n ≠ nilS := fun e => by rw [e] at hnum; exact absurd hnum (by decide +kernel)
    have hno : numOf (toldS n) = n.natAbs := by rw [numOf, hbody, h2]
    refine ⟨?_, hnum⟩
    unfold parseV
    rw [if_neg (by rw [hword]; simp), if_neg hnil, if_neg (by rw [hnum]; simp), if_neg (by omega), hmi, if_pos rfl, hno]
    congr 2
    omega
  · rw [if_neg h] at h5
    have hsg : sgnB (toldS n) = false := Bool.eq_false_iff.2 fun e => by
      have h6 := ((sgnB_iff _).1 e).2
      rw [h5] at h6
      have h7 : bt ⟨(b :: r).toArray⟩ 0 = b.toNat := rfl
      rw [h7] at h6
      omega
    have hbody : (bodyS (toldS n)).data.toList = b :: r := by
      rw [bodyS, hsg, h5]; rfl
    have hbs : 0 < (bodyS (toldS n)).size := by rw [← bl_len, hbody]; simp
    have hnum : isNumB (toldS n) = true := by
      unfold isNumB allD
      rw [hbody, h1, decide_eq_true hbs]; rfl
    have hmi : minusB (toldS n) = false := by
      unfold minusB
      rw [hsg]; rfl
    have hword : wordB (toldS n) = true := by
      unfold wordB
      rw [h5, bsz, decide_eq_true (by simp), decide_eq_true (by omega), Bool.true_and, Bool.true_and]
      exact wordL_dig _ h1
    have hnil : toldS n ≠ nilS := fun e => by rw [e] at hnum; exact absurd hnum (by decide +kernel)
    have hno : numOf (toldS n) = n.natAbs := by rw [numOf, hbody, h2]
    refine ⟨?_, hnum⟩
    unfold parseV
    rw [if_neg (by rw [hword]; simp), if_neg hnil, if_neg (by rw [hnum]; simp), if_neg (by omega), hmi, if_neg (by simp), hno]
    congr 2
    omega
/-- A value's text is read as that value. -/
theorem parse_text {k n : Int} {s : ByteArray} (h0 : 0 ≤ k) (h : checkE k n s = 0) : parseV (textV k n s) = (k, n, s, 0) := by
  have hk := checkE_kind h
  unfold textV
  rw [if_neg (by omega)]
  by_cases h1 : k = 1
  · rw [if_pos h1, (parse_told n (checkE_ok h)).1, check_one h h1, h1]
  · rw [if_neg h1]
    by_cases h2 : k = 2
    · rw [if_pos h2]
      obtain ⟨a, b, c, d⟩ := check_two h h2
      unfold parseV
      rw [if_neg (by rw [b]; simp), if_neg d, if_pos c, h2, a]
    · have h3 : k = 0 := by omega
      obtain ⟨a, b⟩ := check_zero h h3
      rw [if_neg h2, h3, a, b]
      decide +kernel
end Go.Proofs.YtfaaokekgljnbaaDoor.Ab

/- The lexer: plain laws: a token's text. -/
set_option linter.unusedVariables false
set_option linter.unusedSimpArgs false
set_option maxRecDepth 20000
namespace Go.Proofs.YtfaaokekgljnbaaDoor.Ab
open Go
/-! ### Words -/
theorem decN_cut (n n' b0 b1 b2 b3 c1 c2 c3 : Nat) (hn : n' ≤ n) (hw : (Lib.decodeN n b0 b1 b2 b3).2 ≤ n') (hb : ¬ Lib.decodeN n b0 b1 b2 b3 = (65533, 1)) (h1 : 1 < n' → c1 = b1) (h2 : 2 < n' → c2 = b2) (h3 : 3 < n' → c3 = b3) : Lib.decodeN n' b0 c1 c2 c3 = Lib.decodeN n b0 b1 b2 b3 := by
  rcases Lib.decodeN_shape n b0 b1 b2 b3 with ⟨g, e⟩ | ⟨g1, g2, g3, g4, e⟩ | ⟨g1, g2, g3, g4, g5, g6, e⟩ | ⟨g1, g2, g3, g4, g5, g6, g7, e⟩ | e
  · rw [e]
    unfold Lib.decodeN
    rw [if_pos g]
  · rw [e] at hw ⊢
    dsimp only at hw
    obtain rfl := h1 (by omega)
    unfold Lib.decodeN
    rw [if_neg (by omega), if_pos ⟨g1, by omega, g3⟩, if_pos g4]
  · rw [e] at hw ⊢
    dsimp only at hw
    obtain rfl := h1 (by omega)
    obtain rfl := h2 (by omega)
    unfold Lib.decodeN
    rw [if_neg (by omega), if_neg (by rintro ⟨x, _⟩; omega), if_pos ⟨g1, ⟨by omega, g3⟩, by omega, g4⟩, if_pos ⟨g5, by omega⟩]
  · rw [e] at hw ⊢
    dsimp only at hw
    obtain rfl := h1 (by omega)
    obtain rfl := h2 (by omega)
    obtain rfl := h3 (by omega)
    unfold Lib.decodeN
    rw [if_neg (by omega), if_neg (by rintro ⟨x, _⟩; omega), if_neg (by rintro ⟨x, _⟩; omega), if_pos ⟨g1, ⟨by omega, g3⟩, ⟨by omega, g4⟩, by omega, g5⟩, if_pos ⟨g6, by omega⟩]
  · exact absurd e hb
theorem getD_take (l : List UInt8) (i k : Nat) (h : k < i) : (l.take i).getD k 0 = l.getD k 0 := by simp [List.getD, h]
theorem dec_cut (l : List UInt8) (m : Nat) (hm : (Lib.decodeL l).2 ≤ m) (hne : l ≠ []) (hv : ¬ ((Lib.decodeL l).1 = 65533 ∧ (Lib.decodeL l).2 = 1)) : Lib.decodeL (l.take m) = Lib.decodeL l := by
  have hw := Lib.decodeL_width l
  have hle := Lib.decodeL_le l hne
  have hb : ¬ Lib.decodeL l = (65533, 1) := fun e => hv ⟨by rw [e], by rw [e]⟩
  rw [Lib.decodeL_N (l.take m), getD_take l m 0 (by omega)]
  rw [Lib.decodeL_N l] at hm hb hle ⊢
  refine decN_cut _ _ _ _ _ _ _ _ _ (by rw [List.length_take]; omega) (by rw [List.length_take]; omega) hb (fun h => ?_) (fun h => ?_) (fun h => ?_)
  all_goals
    rw [List.length_take] at h
    rw [getD_take l m _ (by omega)]
theorem run_word : ∀ (n : Nat) (l : List UInt8), l.length ≤ n → wordL (l.take (runL l)) = true ∧ runL (l.take (runL l)) = runL l := by
  intro n
  induction n with
  | zero =>
    intro l hl
    obtain rfl : l = [] := List.eq_nil_of_length_eq_zero (by omega)
    exact ⟨rfl, rfl⟩
  | succ n ih =>
    intro l hl
    by_cases hne : l = []
    · subst hne; exact ⟨rfl, rfl⟩
    · have hw := Lib.decodeL_width l
      have hle := Lib.decodeL_le l hne
      have hs := runL_step l hne
      by_cases hb : ((Lib.decodeL l).1 = 65533 ∧ (Lib.decodeL l).2 = 1) ∨ ¬ inP (Lib.decodeL l).1
      · rw [if_pos hb] at hs
        rw [hs]
        exact ⟨rfl, rfl⟩
      · rw [if_neg hb] at hs
        obtain ⟨h1, h2⟩ := ih (l.drop (Lib.decodeL l).2) (by rw [List.length_drop]; omega)
        have hv : ¬ ((Lib.decodeL l).1 = 65533 ∧ (Lib.decodeL l).2 = 1) := fun h => hb (.inl h)
        have hi : inP (Lib.decodeL l).1 := Decidable.of_not_not fun h => hb (.inr h)
        have hd := dec_cut l (runL l) (by omega) hne hv
        have hr : (l.take (runL l)).drop (Lib.decodeL l).2 = (l.drop (Lib.decodeL l).2).take (runL (l.drop (Lib.decodeL l).2)) := by
          rw [List.drop_take, show runL l - (Lib.decodeL l).2 = runL (l.drop (Lib.decodeL l).2) by omega]
        have hn : l.take (runL l) ≠ [] := by
          intro e
          have h5 := congrArg List.length e
          rw [List.length_take, List.length_nil] at h5
          have h6 := List.length_pos_iff.2 hne
          omega
        constructor
        · rw [wordL_step _ hn, hd, hr, if_neg hv, decide_eq_true hi, h1]; rfl
        · rw [runL_step _ hn, hd, hr, if_neg hb, h2, ← hs]
theorem word_run : ∀ (n : Nat) (l : List UInt8), l.length ≤ n → wordL l = true → runL l = l.length := by
  intro n
  induction n with
  | zero =>
    intro l hl _
    obtain rfl : l = [] := List.eq_nil_of_length_eq_zero (by omega)
    rfl
  | succ n ih =>
    intro l hl h
    by_cases hne : l = []
    · subst hne; rfl
    · have hw := Lib.decodeL_width l
      have hle := Lib.decodeL_le l hne
      rw [wordL_step l hne] at h
      split at h
      · cases h
      · rename_i hv
        simp only [Bool.and_eq_true, decide_eq_true_eq] at h
        have := ih (l.drop (Lib.decodeL l).2) (by rw [List.length_drop]; omega) h.2
        rw [runL_step l hne, if_neg (by rintro (x | x); exact hv x; exact x h.1), this, List.length_drop]
        omega
theorem mem_take' {x : UInt8} {l : List UInt8} {k : Nat} (h : x ∈ l.take k) : ∃ i, i < k ∧ x = l.getD i 0 := by
  obtain ⟨i, hi, e⟩ := List.getElem_of_mem h
  rw [List.length_take] at hi
  refine ⟨i, by omega, ?_⟩
  rw [← e, List.getElem_take]
  simp [List.getD, List.getElem?_eq_getElem (show i < l.length by omega)]
theorem dec_bytes {x : UInt8} (l : List UInt8) (hv : ¬ ((Lib.decodeL l).1 = 65533 ∧ (Lib.decodeL l).2 = 1)) (h : x ∈ l.take (Lib.decodeL l).2) (hx : x.toNat < 128) : (Lib.decodeL l).1 = x.toNat := by
  rw [Lib.decodeL_N] at hv h ⊢
  rcases Lib.decodeN_shape l.length (l.getD 0 0).toNat (l.getD 1 0).toNat (l.getD 2 0).toNat (l.getD 3 0).toNat with ⟨g, e⟩ | ⟨g1, g2, g3, g4, e⟩ | ⟨g1, g2, g3, g4, g5, g6, e⟩ | ⟨g1, g2, g3, g4, g5, g6, g7, e⟩ | e
  · rw [e] at h ⊢
    obtain ⟨i, hi, rfl⟩ := mem_take' h
    obtain rfl : i = 0 := by dsimp only at hi; omega
    rfl
  · rw [e] at h
    obtain ⟨i, hi, rfl⟩ := mem_take' h
    dsimp only at hi
    exfalso
    rcases (by omega : i = 0 ∨ i = 1) with rfl | rfl <;> omega
  · rw [e] at h
    obtain ⟨i, hi, rfl⟩ := mem_take' h
    dsimp only at hi
    exfalso
    rcases (by omega : i = 0 ∨ i = 1 ∨ i = 2) with rfl | rfl | rfl <;> omega
  · rw [e] at h
    obtain ⟨i, hi, rfl⟩ := mem_take' h
    dsimp only at hi
    exfalso
    rcases (by omega : i = 0 ∨ i = 1 ∨ i = 2 ∨ i = 3) with rfl | rfl | rfl | rfl <;> omega
  · rw [e] at hv
    exact absurd ⟨rfl, rfl⟩ hv
theorem word_bytes : ∀ (n : Nat) (l : List UInt8), l.length ≤ n → wordL l = true → ∀ x ∈ l, x.toNat < 128 → inP (x.toNat : Int) := by
  intro n
  induction n with
  | zero =>
    intro l hl _ x hx
    obtain rfl : l = [] := List.eq_nil_of_length_eq_zero (by omega)
    cases hx
  | succ n ih =>
    intro l hl h x hx hlt
    have hne : l ≠ [] := by rintro rfl; cases hx
    have hw := Lib.decodeL_width l
    have hle := Lib.decodeL_le l hne
    rw [wordL_step l hne] at h
    split at h
    · cases h
    · rename_i hv
      simp only [Bool.and_eq_true, decide_eq_true_eq] at h
      rw [← List.take_append_drop (Lib.decodeL l).2 l, List.mem_append] at hx
      rcases hx with hx | hx
      · have := dec_bytes l hv hx hlt
        rw [← this]
        exact h.1
      · exact ih (l.drop (Lib.decodeL l).2) (by rw [List.length_drop]; omega) h.2 x hx hlt
theorem word_nopre {w p : ByteArray} {x : UInt8} (hw : wordL w.data.toList = true) (hx : x ∈ p.data.toList) (h1 : x.toNat < 128) (h2 : ¬ inP (x.toNat : Int)) : hasPre w p = false := by
  refine Bool.eq_false_iff.2 fun h => h2 ?_
  rw [hasPre_iff] at h
  rw [← h] at hx
  exact word_bytes _ _ (Nat.le_refl _) hw x (List.mem_of_mem_take hx) h1
theorem word_one {w : ByteArray} (hw : wordL w.data.toList = true) : oneF w = wordR w := by
  have a1 : hasPre w ⟨#[40]⟩ = false := word_nopre (x := 40) hw (by decide) (by decide) (by decide)
  have a2 : hasPre w ⟨#[41]⟩ = false := word_nopre (x := 41) hw (by decide) (by decide) (by decide)
  have a3 : hasPre w ⟨#[123]⟩ = false := word_nopre (x := 123) hw (by decide) (by decide) (by decide)
  have a4 : hasPre w ⟨#[125]⟩ = false := word_nopre (x := 125) hw (by decide) (by decide) (by decide)
  have a5 : hasPre w ⟨#[60, 60]⟩ = false := word_nopre (x := 60) hw (by decide) (by decide) (by decide)
  have a6 : hasPre w ⟨#[62, 62]⟩ = false := word_nopre (x := 62) hw (by decide) (by decide) (by decide)
  have a7 : hasPre w ⟨#[45, 45, 62]⟩ = false := word_nopre (x := 62) hw (by decide) (by decide) (by decide)
  have a8 : hasPre w ⟨#[45, 40]⟩ = false := word_nopre (x := 40) hw (by decide) (by decide) (by decide)
  have b1 : hasPre w ⟨#[60, 62]⟩ = false := word_nopre (x := 60) hw (by decide) (by decide) (by decide)
  have b2 : hasPre w ⟨#[60, 61]⟩ = false := word_nopre (x := 60) hw (by decide) (by decide) (by decide)
  have b3 : hasPre w ⟨#[62, 61]⟩ = false := word_nopre (x := 62) hw (by decide) (by decide) (by decide)
  have c1 : hasPre w ⟨#[61]⟩ = false := word_nopre (x := 61) hw (by decide) (by decide) (by decide)
  have c2 : hasPre w ⟨#[60]⟩ = false := word_nopre (x := 60) hw (by decide) (by decide) (by decide)
  have c3 : hasPre w ⟨#[62]⟩ = false := word_nopre (x := 62) hw (by decide) (by decide) (by decide)
  have c4 : hasPre w ⟨#[94]⟩ = false := word_nopre (x := 94) hw (by decide) (by decide) (by decide)
  unfold oneF
  rw [signF_eq, predF2, predF1]
  unfold namedF
  simp only [a1, a2, a3, a4, a5, a6, a7, a8, b1, b2, b3, c1, c2, c3, c4, Bool.false_eq_true, if_false]
theorem ext_all (w : ByteArray) : w.extract 0 w.size = w := by
  apply ByteArray.ext
  apply Array.toList_inj.1
  rw [exl, ← bl_len, List.take_length, List.drop_zero]
theorem wordB_L {w : ByteArray} (h : wordB w = true) : wordL w.data.toList = true := by
  unfold wordB at h
  simp only [Bool.and_eq_true, decide_eq_true_eq] at h
  exact h.2.2
theorem wordR_full {w : ByteArray} (h : wordB w = true) : wordR w = if (parseV w).2.2.2 = 0 then some (tkV ⟨(parseV w).1, (parseV w).2.1, (parseV w).2.2.1⟩, w.size) else none := by
  have hr : runS w = w.size := by
    unfold runS
    rw [word_run _ _ (Nat.le_refl _) (wordB_L h), bl_len]
  unfold wordR
  rw [hr, ext_all]
/-! ### Numbers -/
theorem decF_lt : ∀ (j f m : Nat), m < 10 ^ j → 0 < j → (decF f m).length ≤ j
  | j, 0, m, _, _ => Nat.zero_le _
  | 0, f + 1, m, _, h => absurd h (by omega)
  | j + 1, f + 1, m, h, _ => by
    unfold decF
    split
    · simp
    · rename_i h10
      have hj : 0 < j := by
        rcases Nat.eq_zero_or_pos j with h0 | h0
        · subst h0; simp at h; omega
        · exact h0
      have := decF_lt j f (m / 10) (by rw [Nat.pow_succ] at h; omega) hj
      rw [List.length_append, List.length_singleton]
      omega
theorem valN_lt : ∀ (l : List UInt8) (a : Nat), digB l = true → valN a l < (a + 1) * 10 ^ l.length
  | [], a, _ => by rw [valN_nil]; simp
  | b :: l, a, h => by
    rw [digB, Bool.and_eq_true, decide_eq_true_eq] at h
    have h1 := valN_lt l (10 * a + (b.toNat - 48)) h.2
    rw [valN_cons, List.length_cons, Nat.pow_succ]
    have h2 : (10 * a + (b.toNat - 48) + 1) * 10 ^ l.length ≤ (10 * (a + 1)) * 10 ^ l.length := Nat.mul_le_mul_right _ (by omega)
    have h3 : (10 * (a + 1)) * 10 ^ l.length = (a + 1) * (10 ^ l.length * 10) := by
      rw [Nat.mul_comm 10 (a + 1), Nat.mul_assoc, Nat.mul_comm 10]
    omega
theorem told_short {w : ByteArray} (h : isNumB w = true) : (toldS (if minusB w then -(numOf w : Int) else numOf w)).size ≤ w.size := by
  unfold isNumB allD at h
  simp only [Bool.and_eq_true, decide_eq_true_eq] at h
  obtain ⟨h1, h2⟩ := h
  have h3 := valN_lt _ 0 h1
  rw [bl_len] at h3
  have h4 : ∀ m, m = numOf w → (dec m).length ≤ (bodyS w).size := fun m hm => decF_lt _ _ _ (by rw [hm, numOf]; simpa using h3) h2
  have h5 : (bodyS w).size ≤ w.size := by
    unfold bodyS
    split
    · rw [Lib.ext_size]; omega
    · exact Nat.le_refl _
  unfold toldS
  by_cases hm : minusB w = true
  · rw [if_pos hm]
    have h6 : (bodyS w).size + 1 ≤ w.size := by
      have hs : sgnB w = true := by
        unfold minusB at hm
        simp only [Bool.and_eq_true] at hm
        exact hm.1
      have := ((sgnB_iff w).1 hs).1
      unfold bodyS
      rw [if_pos hs, Lib.ext_size]
      omega
    split
    · rw [bsz, List.length_cons]
      have := h4 (- -(numOf w : Int)).toNat (by omega)
      omega
    · rw [bsz]
      have := h4 (-(numOf w : Int)).toNat (by omega)
      omega
  · rw [if_neg hm, if_neg (by omega), bsz]
    have := h4 ((numOf w : Int)).toNat (by omega)
    omega
/-! ### What a word tells -/
theorem parse_word {w : ByteArray} (h : (parseV w).2.2.2 = 0) : wordB w = true := by
  unfold parseV at h
  cases hw : wordB w
  · rw [hw, if_pos rfl] at h
    cases h
  · rfl
theorem parse_back {w : ByteArray} (h : (parseV w).2.2.2 = 0) : 0 ≤ (parseV w).1 ∧ checkE (parseV w).1 (parseV w).2.1 (parseV w).2.2.1 = 0 ∧ ((parseV w).1 ≠ 1 → textV (parseV w).1 (parseV w).2.1 (parseV w).2.2.1 = w) ∧ (textV (parseV w).1 (parseV w).2.1 (parseV w).2.2.1).size ≤ w.size := by
  have hw := parse_word h
  have hP : parseV w = if wordB w = false then (0, 0, ⟨#[]⟩, 6) else if w = nilS then (0, 0, ⟨#[]⟩, 0) else if isNumB w = false then (2, 0, w, 0)
    else if 1099511627776 < numOf w then (0, 0, ⟨#[]⟩, 12) else (1, if minusB w then -(numOf w : Int) else numOf w, ⟨#[]⟩, 0) := rfl
  rw [if_neg (by rw [hw]; simp)] at hP
  by_cases h1 : w = nilS
  · subst h1
    rw [hP, if_pos rfl]
    decide +kernel
  · rw [if_neg h1] at hP
    by_cases h2 : isNumB w = false
    · rw [if_pos h2] at hP
      rw [hP]
      dsimp only
      have hc : checkE 2 0 w = 0 := by
        unfold checkE
        simp [h1, h2, hw]
      have ht : textV 2 0 w = w := by
        unfold textV
        rw [if_neg (by rw [hc]; simp)]
        simp
      exact ⟨by decide, hc, fun _ => ht, Nat.le_of_eq (congrArg _ ht)⟩
    · rw [if_neg h2] at hP
      by_cases h3 : 1099511627776 < numOf w
      · rw [if_pos h3] at hP
        rw [hP] at h
        cases h
      · rw [if_neg h3] at hP
        rw [hP]
        dsimp only
        have hn := told_short (w := w) (by cases hx : isNumB w; exact absurd hx h2; rfl)
        have hr : -1099511627776 ≤ (if minusB w then -(numOf w : Int) else numOf w) ∧ (if minusB w then -(numOf w : Int) else numOf w) ≤ 1099511627776 := by split <;> omega
        generalize (if minusB w then -(numOf w : Int) else numOf w) = n at *
        have hc : checkE 1 n ⟨#[]⟩ = 0 := by
          unfold checkE
          rw [if_neg (by omega), if_neg (by simp), if_neg (by omega), if_neg (by simp)]
        have ht : textV 1 n ⟨#[]⟩ = toldS n := by
          unfold textV
          rw [if_neg (by rw [hc]; simp), if_pos rfl]
        exact ⟨by decide, hc, fun h => absurd rfl h, by rw [ht]; exact hn⟩
theorem parse_again {w : ByteArray} (h : (parseV w).2.2.2 = 0) : parseV (textV (parseV w).1 (parseV w).2.1 (parseV w).2.2.1) = parseV w := by
  obtain ⟨h0, h1, _, _⟩ := parse_back h
  rw [parse_text h0 h1]
  refine Prod.ext rfl (Prod.ext rfl (Prod.ext rfl h.symm))
end Go.Proofs.YtfaaokekgljnbaaDoor.Ab

/- The lexer: plain laws: tokens' texts stand there, and are scanned as the same tokens. -/
set_option linter.unusedVariables false
set_option linter.unusedSimpArgs false
set_option maxRecDepth 20000
namespace Go.Proofs.YtfaaokekgljnbaaDoor.Ab
open Go
theorem npre1 {r : ByteArray} {x : UInt8} (h0 : 0 < r.size) (h : bt r 0 ≠ x.toNat) : hasPre r ⟨#[x]⟩ = false := Bool.eq_false_iff.2 fun e => h ((pre1 h0).1 e)
theorem npre2 {r : ByteArray} {x y : UInt8} (h0 : 0 < r.size) (hy : y.toNat ≠ 0) (h : ¬ (bt r 0 = x.toNat ∧ bt r 1 = y.toNat)) : hasPre r ⟨#[x, y]⟩ = false := Bool.eq_false_iff.2 fun e => h ((pre2 h0 hy).1 e)
theorem npre3 {r : ByteArray} {x y z : UInt8} (h0 : 0 < r.size) (hy : y.toNat ≠ 0) (hz : z.toNat ≠ 0) (h : ¬ (bt r 0 = x.toNat ∧ bt r 1 = y.toNat ∧ bt r 2 = z.toNat)) : hasPre r ⟨#[x, y, z]⟩ = false := Bool.eq_false_iff.2 fun e => h ((pre3 h0 hy hz).1 e)
theorem ofL_data (s : ByteArray) : ofL s.data.toList = s := (ofL_ext rfl).symm
theorem pre_list {r p : ByteArray} : hasPre r p = true ↔ r.data.toList.take p.size = p.data.toList := hasPre_iff r p
/-! ### The ways of a token -/
theorem one_cases {r : ByteArray} {x : Tk × Nat} (h : oneF r = some x) : signF r = some x ∨ (∃ n, predF r n = some x ∧ (n = 1 ∨ n = 2)) ∨ (∃ b, namedF 9 ⟨#[60]⟩ ⟨#[62]⟩ r = (some x, b)) ∨ (∃ b, namedF 8 ⟨#[94]⟩ ⟨#[]⟩ r = (some x, b)) ∨ wordR r = some x := by
  unfold oneF at h
  split at h
  · rename_i h1; cases h; exact .inl h1
  · split at h
    · rename_i h1; cases h; exact .inr (.inl ⟨2, h1, .inr rfl⟩)
    · split at h
      · rename_i h1; cases h; exact .inr (.inr (.inl ⟨_, h1⟩))
      · cases h
      · split at h
        · rename_i h1; cases h; exact .inr (.inl ⟨1, h1, .inl rfl⟩)
        · split at h
          · rename_i h1; cases h; exact .inr (.inr (.inr (.inl ⟨_, h1⟩)))
          · cases h
          · exact .inr (.inr (.inr (.inr h)))
/-- What is known of a token that was read. -/
structure Tok (r : ByteArray) (t : Tk) (k : Nat) : Prop where
  pl : t.pl = 0
  size : (textT t).size ≤ k
  text : t.k ≠ 11 ∨ t.v.k ≠ 1 → r.data.toList.take k = (textT t).data.toList
  back : t.k ≠ 7 → oneF (textT t) = some (t, (textT t).size)
  not : t.k = 7 → t = tkS 7 ∧ k = 1 ∧ r.data.toList.take 2 = [45, 40]
theorem tok_sign {r : ByteArray} {t : Tk} {k : Nat} (h : signF r = some (t, k)) : Tok r t k := by
  rw [signF_eq] at h
  repeat' split at h
  iterate 7
    · rename_i hp
      cases h
      have hp' := pre_list.1 hp
      exact ⟨rfl, by decide, fun _ => hp', fun _ => by decide +kernel, fun h => absurd h (by decide)⟩
  · rename_i hp
    cases h
    have hp' : r.data.toList.take 2 = [45, 40] := pre_list.1 hp
    refine ⟨rfl, by decide, fun _ => ?_, fun h => absurd rfl h, fun _ => ⟨rfl, rfl, hp'⟩⟩
    have := congrArg (List.take 1) hp'
    rw [List.take_take] at this
    exact this
  · cases h
theorem tok_pred {r : ByteArray} {t : Tk} {k n : Nat} (hn : n = 1 ∨ n = 2) (h : predF r n = some (t, k)) : Tok r t k := by
  rcases hn with rfl | rfl
  · rw [predF1] at h
    repeat' split at h
    iterate 3
      · rename_i hp
        cases h
        have hp' := pre_list.1 hp
        exact ⟨rfl, by decide, fun _ => hp', fun _ => by decide +kernel, fun h => absurd h (by decide)⟩
    · cases h
  · rw [predF2] at h
    repeat' split at h
    iterate 3
      · rename_i hp
        cases h
        have hp' := pre_list.1 hp
        exact ⟨rfl, by decide, fun _ => hp', fun _ => by decide +kernel, fun h => absurd h (by decide)⟩
    · cases h
theorem named_text {k : Int} {op cl r : ByteArray} {t : Tk} {n : Nat} {b : Bool} (h : namedF k op cl r = (some (t, n), b)) : ∃ nm : ByteArray, t = tkN k nm ∧ wordB nm = true ∧ n = op.size + nm.size + cl.size ∧ r.data.toList.take n = op.data.toList ++ nm.data.toList ++ cl.data.toList := by
  unfold namedF at h
  split at h
  · rename_i hp
    split at h
    · cases h
    · rename_i h2
      split at h
      · cases h
      · rename_i h3
        cases h
        have hps := hasPre_size hp
        have hlen := bl_len r
        have hq : (r.extract op.size r.size).data.toList = r.data.toList.drop op.size := by rw [exl, ← hlen, List.take_length]
        obtain ⟨m, hm⟩ : ∃ m, m = runS (r.extract op.size r.size) := ⟨_, rfl⟩
        rw [← hm] at h2 h3 ⊢
        have hm' : runL (r.data.toList.drop op.size) = m := by rw [hm, runS, hq]
        have hle := runL_le (r.data.toList.drop op.size)
        rw [hm', List.length_drop] at hle
        have hnm : (r.extract op.size (op.size + m)).data.toList = (r.data.toList.drop op.size).take m := by
          rw [exl, List.drop_take, Nat.add_sub_cancel_left]
        have hns : (r.extract op.size (op.size + m)).size = m := by
          rw [← bl_len, hnm, List.length_take, List.length_drop]
          omega
        have hcl : hasPre (r.extract (op.size + m) r.size) cl = true := by
          cases hx : hasPre (r.extract (op.size + m) r.size) cl
          · exact absurd (.inr hx) h2
          · rfl
        have hw := (run_word _ (r.data.toList.drop op.size) (Nat.le_refl _)).1
        rw [hm'] at hw
        have hcl' := pre_list.1 hcl
        rw [exl, ← hlen, List.take_length] at hcl'
        have hop' := pre_list.1 hp
        refine ⟨_, rfl, ?_, by rw [hns], ?_⟩
        · unfold wordB
          rw [hns, hnm, hw, decide_eq_true (by omega : 0 < m), decide_eq_true (by omega : m ≤ 24)]
          rfl
        · rw [List.take_add, List.take_add, hop', hnm, hcl']
  · cases h
theorem word_head {w : ByteArray} (h : wordB w = true) : ∃ c l, w.data.toList = c :: l ∧ (c.toNat < 128 → inP (c.toNat : Int)) := by
  have hz : 0 < w.size := by
    unfold wordB at h
    simp only [Bool.and_eq_true, decide_eq_true_eq] at h
    exact h.1
  have hb := word_bytes _ _ (Nat.le_refl _) (wordB_L h)
  have hlen := bl_len w
  cases hl : w.data.toList with
  | nil => rw [hl] at hlen; simp at hlen; omega
  | cons c l => exact ⟨c, l, rfl, hb c (by rw [hl]; exact List.mem_cons_self ..)⟩
theorem word_len {w : ByteArray} (h : wordB w = true) : 0 < w.size ∧ w.size ≤ 24 ∧ runL w.data.toList = w.size := by
  have h2 := word_run _ _ (Nat.le_refl _) (wordB_L h)
  rw [bl_len] at h2
  unfold wordB at h
  simp only [Bool.and_eq_true, decide_eq_true_eq] at h
  exact ⟨h.1, h.2.1, h2⟩
theorem cls_one {nm : ByteArray} (h : wordB nm = true) : oneF (ofL (60 :: (nm.data.toList ++ [62]))) = some (tkN 9 nm, 1 + nm.size + 1) := by
  obtain ⟨h1, h2, h3⟩ := word_len h
  obtain ⟨c, l, hl, hc⟩ := word_head h
  have hlen := bl_len nm
  have hrun : runL (nm.data.toList ++ [62]) = nm.size := by rw [run_stop 62 (by decide) (by decide) [] _ _ (Nat.le_refl _), h3]
  have hc1 : c.toNat ≠ 60 ∧ c.toNat ≠ 61 ∧ c.toNat ≠ 62 := by
    refine ⟨fun e => ?_, fun e => ?_, fun e => ?_⟩
    all_goals
      have := hc (by omega)
      rw [e] at this
      exact absurd this (by decide)
  have hs : 0 < (ofL (60 :: (nm.data.toList ++ [62]))).size := by rw [ofL_size]; simp
  have b0 : bt (ofL (60 :: (nm.data.toList ++ [62]))) 0 = 60 := rfl
  have b1 : bt (ofL (60 :: (nm.data.toList ++ [62]))) 1 = c.toNat := by rw [hl]; rfl
  have hN : namedF 9 ⟨#[60]⟩ ⟨#[62]⟩ (ofL (60 :: (nm.data.toList ++ [62]))) = (some (tkN 9 nm, 1 + nm.size + 1), false) := by
    have e1 : hasPre (ofL (60 :: (nm.data.toList ++ [62]))) ⟨#[60]⟩ = true := (pre1 hs).2 b0
    have e2 : (ofL (60 :: (nm.data.toList ++ [62]))).extract 1 (ofL (60 :: (nm.data.toList ++ [62]))).size = ofL (nm.data.toList ++ [62]) := by
      rw [ofL_cut, ofL_size, List.take_length]; rfl
    have e3 : (ofL (60 :: (nm.data.toList ++ [62]))).extract (1 + nm.size) (ofL (60 :: (nm.data.toList ++ [62]))).size = ofL [62] := by
      rw [ofL_cut, ofL_size, List.take_length, Nat.add_comm, List.drop_succ_cons, ← hlen, List.drop_left]
    have e4 : (ofL (60 :: (nm.data.toList ++ [62]))).extract 1 (1 + nm.size) = nm := by
      rw [ofL_cut, Nat.add_comm, List.take_succ_cons, ← hlen, List.take_left]
      exact ofL_data nm
    unfold namedF
    rw [if_pos e1]
    have hop : (ByteArray.mk #[60]).size = 1 := rfl
    have hcs : (ByteArray.mk #[62]).size = 1 := rfl
    rw [hop, hcs]
    rw [e2, runS_ofL, hrun, e3, e4, if_neg (by rintro (x | x); omega; exact absurd x (by decide)), if_neg (by omega)]
  unfold oneF
  rw [signF_eq, predF2, hN]
  rw [npre1 hs (by rw [b0]; decide), npre1 hs (by rw [b0]; decide), npre1 hs (by rw [b0]; decide), npre1 hs (by rw [b0]; decide), npre2 hs (by decide) (by rw [b0, b1]; rintro ⟨_, e⟩; exact hc1.1 e), npre2 hs (by decide) (by rw [b0, b1]; rintro ⟨e, _⟩; exact absurd e (by decide)), npre3 hs (by decide) (by decide) (by rw [b0]; rintro ⟨e, _⟩; exact absurd e (by decide)), npre2 hs (by decide) (by rw [b0, b1]; rintro ⟨e, _⟩; exact absurd e (by decide)),
    npre2 hs (by decide) (by rw [b0, b1]; rintro ⟨_, e⟩; exact hc1.2.2 e), npre2 hs (by decide) (by rw [b0, b1]; rintro ⟨_, e⟩; exact hc1.2.1 e), npre2 hs (by decide) (by rw [b0, b1]; rintro ⟨e, _⟩; exact absurd e (by decide))]
  rfl
theorem atr_one {nm : ByteArray} (h : wordB nm = true) : oneF (ofL (94 :: nm.data.toList)) = some (tkN 8 nm, 1 + nm.size) := by
  obtain ⟨h1, h2, h3⟩ := word_len h
  have hlen := bl_len nm
  have hs : 0 < (ofL (94 :: nm.data.toList)).size := by rw [ofL_size]; simp
  have b0 : bt (ofL (94 :: nm.data.toList)) 0 = 94 := rfl
  have hN : namedF 8 ⟨#[94]⟩ ⟨#[]⟩ (ofL (94 :: nm.data.toList)) = (some (tkN 8 nm, 1 + nm.size), false) := by
    have e1 : hasPre (ofL (94 :: nm.data.toList)) ⟨#[94]⟩ = true := (pre1 hs).2 b0
    have e2 : (ofL (94 :: nm.data.toList)).extract 1 (ofL (94 :: nm.data.toList)).size = nm := by
      rw [ofL_cut, ofL_size, List.take_length]
      exact ofL_data nm
    have e4 : (ofL (94 :: nm.data.toList)).extract 1 (1 + nm.size) = nm := by
      rw [ofL_cut, Nat.add_comm, List.take_succ_cons, ← hlen, List.take_length]
      exact ofL_data nm
    have hr : runS nm = nm.size := h3
    unfold namedF
    rw [if_pos e1]
    have hop : (ByteArray.mk #[94]).size = 1 := rfl
    have hcs : (ByteArray.mk #[]).size = 0 := rfl
    rw [hop, hcs]
    rw [e2, hr, preN, e4, if_neg (by rintro (x | x); omega; cases x), if_neg (by omega), Nat.add_zero]
  have hN9 : namedF 9 ⟨#[60]⟩ ⟨#[62]⟩ (ofL (94 :: nm.data.toList)) = (none, false) := by
    unfold namedF
    rw [npre1 hs (by rw [b0]; decide)]
    rfl
  unfold oneF
  rw [signF_eq, predF2, predF1, hN9, hN]
  have p1 : ∀ x : UInt8, x.toNat ≠ 94 → hasPre (ofL (94 :: nm.data.toList)) ⟨#[x]⟩ = false := fun x hx => npre1 hs (by rw [b0]; exact fun e => hx e.symm)
  have p2 : ∀ x y : UInt8, x.toNat ≠ 94 → y.toNat ≠ 0 → hasPre (ofL (94 :: nm.data.toList)) ⟨#[x, y]⟩ = false := fun x y hx hy => npre2 hs hy (by rw [b0]; rintro ⟨e, _⟩; exact hx e.symm)
  have p3 : ∀ x y z : UInt8, x.toNat ≠ 94 → y.toNat ≠ 0 → z.toNat ≠ 0 → hasPre (ofL (94 :: nm.data.toList)) ⟨#[x, y, z]⟩ = false := fun x y z hx hy hz => npre3 hs hy hz (by rw [b0]; rintro ⟨e, _⟩; exact hx e.symm)
  rw [p1 _ (by decide), p1 _ (by decide), p1 _ (by decide), p1 _ (by decide), p2 _ _ (by decide) (by decide), p2 _ _ (by decide) (by decide), p3 _ _ _ (by decide) (by decide) (by decide), p2 _ _ (by decide) (by decide), p2 _ _ (by decide) (by decide), p2 _ _ (by decide) (by decide), p2 _ _ (by decide) (by decide), p1 _ (by decide), p1 _ (by decide), p1 _ (by decide)]
  rfl
theorem textT_V (v : Vl) : textT (tkV v) = textV v.k v.n v.s := by
  unfold textT tkV
  dsimp only
  repeat rw [if_neg (by decide)]
  rw [if_pos rfl]
theorem tok_word {r : ByteArray} {t : Tk} {k : Nat} (h : wordR r = some (t, k)) : Tok r t k := by
  unfold wordR at h
  split at h
  · rename_i hp
    cases h
    have hr := runS_le r
    have hz : (r.extract 0 (runS r)).size = runS r := by rw [← bl_len, exl, List.drop_zero, List.length_take, bl_len]; omega
    obtain ⟨h0, h1, h2, h3⟩ := parse_back hp
    have h4 := parse_again hp
    rw [hz] at h3
    refine ⟨rfl, by rw [textT_V]; exact h3, fun hk => ?_, fun _ => ?_, fun h => absurd h (by show ¬ (11 : Int) = 7; decide)⟩
    · have hk' : (parseV (r.extract 0 (runS r))).1 ≠ 1 := by
        rcases hk with hk | hk
        · exact absurd rfl hk
        · exact hk
      rw [textT_V]
      dsimp only
      rw [h2 hk', exl, List.drop_zero]
    · rw [textT_V]
      dsimp only
      have h5 : (parseV (textV (parseV (r.extract 0 (runS r))).1 (parseV (r.extract 0 (runS r))).2.1 (parseV (r.extract 0 (runS r))).2.2.1)).2.2.2 = 0 := by rw [h4]; exact hp
      have h6 := parse_word h5
      rw [word_one (wordB_L h6), wordR_full h6, if_pos h5, h4]
  · cases h
theorem tok_one {r : ByteArray} {t : Tk} {k : Nat} (h : oneF r = some (t, k)) : Tok r t k := by
  rcases one_cases h with h | ⟨n, h, hn⟩ | ⟨b, h⟩ | ⟨b, h⟩ | h
  · exact tok_sign h
  · exact tok_pred hn h
  · obtain ⟨nm, rfl, hw, rfl, ht⟩ := named_text h
    have e : (textT (tkN 9 nm)).data.toList = 60 :: (nm.data.toList ++ [62]) := by
      show ((⟨#[60]⟩ : ByteArray) ++ nm ++ ⟨#[62]⟩).data.toList = _
      simp [ByteArray.data_append]
    have e' := ofL_ext e
    have ez : (textT (tkN 9 nm)).size = 1 + nm.size + 1 := by
      rw [← bl_len, e]; simp [bl_len]; omega
    exact ⟨rfl, Nat.le_of_eq ez, fun _ => by rw [e, ht]; simp, fun _ => by rw [ez, e', cls_one hw], fun h => absurd h (by show ¬ (9 : Int) = 7; decide)⟩
  · obtain ⟨nm, rfl, hw, rfl, ht⟩ := named_text h
    have e : (textT (tkN 8 nm)).data.toList = 94 :: nm.data.toList := by
      show ((⟨#[94]⟩ : ByteArray) ++ nm).data.toList = _
      simp [ByteArray.data_append]
    have e' := ofL_ext e
    have ez : (textT (tkN 8 nm)).size = 1 + nm.size := by
      rw [← bl_len, e]; simp [bl_len]; omega
    exact ⟨rfl, Nat.le_of_eq ez, fun _ => by rw [e, ht]; simp, fun _ => by rw [ez, e', atr_one hw], fun h => absurd h (by show ¬ (8 : Int) = 7; decide)⟩
  · exact tok_word h
/-! ### White -/
theorem one_white {c : UInt8} {l : List UInt8} (hc : c.toNat = 32 ∨ c.toNat = 9 ∨ c.toNat = 10 ∨ c.toNat = 13 ∨ c.toNat = 59) : oneF (ofL (c :: l)) = none := by
  have hs : 0 < (ofL (c :: l)).size := by rw [ofL_size]; simp
  have b0 : bt (ofL (c :: l)) 0 = c.toNat := rfl
  have p1 : ∀ x : UInt8, x.toNat ≠ 32 ∧ x.toNat ≠ 9 ∧ x.toNat ≠ 10 ∧ x.toNat ≠ 13 ∧ x.toNat ≠ 59 → hasPre (ofL (c :: l)) ⟨#[x]⟩ = false := fun x hx => npre1 hs (by rw [b0]; omega)
  have p2 : ∀ x y : UInt8, x.toNat ≠ 32 ∧ x.toNat ≠ 9 ∧ x.toNat ≠ 10 ∧ x.toNat ≠ 13 ∧ x.toNat ≠ 59 → y.toNat ≠ 0 → hasPre (ofL (c :: l)) ⟨#[x, y]⟩ = false := fun x y hx hy => npre2 hs hy (by rw [b0]; omega)
  have p3 : ∀ x y z : UInt8, x.toNat ≠ 32 ∧ x.toNat ≠ 9 ∧ x.toNat ≠ 10 ∧ x.toNat ≠ 13 ∧ x.toNat ≠ 59 → y.toNat ≠ 0 → z.toNat ≠ 0 → hasPre (ofL (c :: l)) ⟨#[x, y, z]⟩ = false := fun x y z hx hy hz => npre3 hs hy hz (by rw [b0]; omega)
  have hN9 : namedF 9 ⟨#[60]⟩ ⟨#[62]⟩ (ofL (c :: l)) = (none, false) := by
    unfold namedF
    rw [p1 _ (by decide)]
    rfl
  have hN8 : namedF 8 ⟨#[94]⟩ ⟨#[]⟩ (ofL (c :: l)) = (none, false) := by
    unfold namedF
    rw [p1 _ (by decide)]
    rfl
  have hW : wordR (ofL (c :: l)) = none := by
    have h0 : runS (ofL (c :: l)) = 0 := by
      rw [runS_ofL, runL_step _ (by simp), Lib.decodeL_ascii c l (by omega), if_pos]
      refine Or.inr ?_
      dsimp only
      rcases hc with h | h | h | h | h <;> (rw [h]; decide)
    unfold wordR
    rw [h0, ext_zero, parse_nil, if_neg (by decide)]
  unfold oneF
  rw [signF_eq, predF2, predF1, hN9, hN8, hW]
  rw [p1 _ (by decide), p1 _ (by decide), p1 _ (by decide), p1 _ (by decide), p2 _ _ (by decide) (by decide), p2 _ _ (by decide) (by decide), p3 _ _ _ (by decide) (by decide) (by decide), p2 _ _ (by decide) (by decide), p2 _ _ (by decide) (by decide), p2 _ _ (by decide) (by decide), p2 _ _ (by decide) (by decide), p1 _ (by decide), p1 _ (by decide), p1 _ (by decide)]
  rfl
theorem one_nowhite {l : List UInt8} {x : Tk × Nat} (h : oneF (ofL l) = some x) (m : List UInt8) : whL (l ++ m) = 0 ∧ l ≠ [] := by
  cases l with
  | nil =>
    have := (oneL_pos (t := x.1) (k := x.2) h)
    simp at this
    omega
  | cons c l =>
    refine ⟨?_, by simp⟩
    rw [List.cons_append]
    refine whN (fun hc => ?_) (fun hc => ?_)
    · rw [one_white (by omega)] at h; cases h
    · rw [one_white (by omega)] at h; cases h
end Go.Proofs.YtfaaokekgljnbaaDoor.Ab

/- The lexer: plain laws: places rise; what tokens' texts are scanned as. -/
set_option linter.unusedVariables false
set_option linter.unusedSimpArgs false
set_option maxRecDepth 20000
namespace Go.Proofs.YtfaaokekgljnbaaDoor.Ab
open Go
/-- Places rise behind `last`, and texts stand there. -/
def risesL (L : List UInt8) : Int → List Tk → Option Nat → Prop
  | _, [], none => True
  | last, [], some a => last < (a : Int) ∧ a < L.length
  | last, t :: r, o => (last < t.pl ∧ ∃ a : Nat, t.pl = a ∧ a < L.length ∧ ((t.k ≠ 11 ∨ t.v.k ≠ 1) → a + (textT t).size ≤ L.length ∧ (L.drop a).take (textT t).size = (textT t).data.toList)) ∧ risesL L t.pl r o
theorem rises_scan (L : List UInt8) : ∀ (n p : Nat) (last : Int) (l : List UInt8), l.length ≤ n → last < p → l = L.drop p → risesL L last (scanF p l).1 (scanF p l).2 := by
  intro n
  induction n with
  | zero =>
    intro p last l hl _ _
    obtain rfl : l = [] := List.eq_nil_of_length_eq_zero (by omega)
    exact trivial
  | succ n ih =>
    intro p last l hl hp he
    by_cases hne : l = []
    · subst hne; exact trivial
    · have hlen := congrArg List.length he
      rw [List.length_drop] at hlen
      have hpos := List.length_pos_iff.2 hne
      cases h : oneF (ofL l) with
      | none =>
        rw [scanF_bad hne h]
        exact ⟨hp, by omega⟩
      | some x =>
        obtain ⟨t, k⟩ := x
        have hk := oneL_pos h
        have ht := tok_one h
        rw [scanF_one hne h]
        refine ⟨⟨hp, p, rfl, by omega, fun hn => ?_⟩, ?_⟩
        · have h1 := ht.text hn
          rw [ofL_list] at h1
          have h2 := congrArg List.length h1
          rw [List.length_take, bl_len] at h2
          have h3 : (textT t).size = k := by omega
          refine ⟨by show p + (textT t).size ≤ _; omega, ?_⟩
          show (L.drop p).take (textT t).size = (textT t).data.toList
          rw [h3, ← he, h1]
        · show risesL L (p : Int) (scanW (p + k) (l.drop k)).1 (scanW (p + k) (l.drop k)).2
          unfold scanW
          refine ih _ _ _ (by rw [List.length_drop, List.length_drop]; omega) (by omega) ?_
          rw [he, List.drop_drop, List.drop_drop, Nat.add_assoc]
theorem rises_all (s : ByteArray) : risesL s.data.toList (-1) (scanW 0 s.data.toList).1 (scanW 0 s.data.toList).2 := by
  unfold scanW
  exact rises_scan s.data.toList _ _ _ _ (Nat.le_refl _) (by omega) (by rw [Nat.zero_add])
/-! ### Back -/
def zp (t : Tk) : Tk := { t with pl := 0 }
def bk : List Tk → List UInt8
  | [] => []
  | t :: r => (textT t).data.toList ++ ((if t.k = 7 then [] else [32]) ++ bk r)
def goodT : List Tk → Prop
  | [] => True
  | t :: r => (if t.k = 7 then zp t = tkS 7 ∧ (∃ u r', r = u :: r' ∧ zp u = tkS 0) else oneF (textT t) = some (zp t, (textT t).size)) ∧ goodT r
theorem scanW_no {p : Nat} {l : List UInt8} (h : whL l = 0) : scanW p l = scanF p l := by
  unfold scanW
  rw [h]
  rfl
theorem open_one (l : List UInt8) : oneF (ofL (40 :: l)) = some (tkS 0, 1) := by
  have hs : 0 < (ofL (40 :: l)).size := by rw [ofL_size]; simp
  unfold oneF
  have h1 : hasPre (ofL (40 :: l)) ⟨#[40]⟩ = true := (pre1 hs).2 rfl
  rw [signF_eq, h1]
  rfl
theorem not_one (l : List UInt8) : oneF (ofL (45 :: 40 :: l)) = some (tkS 7, 1) := by
  have hs : 0 < (ofL (45 :: 40 :: l)).size := by rw [ofL_size]; simp
  have b0 : bt (ofL (45 :: 40 :: l)) 0 = 45 := rfl
  have b1 : bt (ofL (45 :: 40 :: l)) 1 = 40 := rfl
  have h1 : hasPre (ofL (45 :: 40 :: l)) ⟨#[45, 40]⟩ = true := (pre2 hs (by decide)).2 ⟨b0, b1⟩
  unfold oneF
  rw [signF_eq, h1, npre1 hs (by rw [b0]; decide), npre1 hs (by rw [b0]; decide), npre1 hs (by rw [b0]; decide), npre1 hs (by rw [b0]; decide), npre2 hs (by decide) (by rw [b0, b1]; decide), npre2 hs (by decide) (by rw [b0, b1]; decide), npre3 hs (by decide) (by decide) (by rw [b0, b1]; rintro ⟨_, e, _⟩; exact absurd e (by decide))]
  rfl
theorem good_scan : ∀ (n p : Nat) (l : List UInt8), l.length ≤ n → goodT (scanF p l).1 ∧ (bk (scanF p l).1).length ≤ 2 * l.length := by
  intro n
  induction n with
  | zero =>
    intro p l hl
    obtain rfl : l = [] := List.eq_nil_of_length_eq_zero (by omega)
    exact ⟨trivial, Nat.zero_le _⟩
  | succ n ih =>
    intro p l hl
    by_cases hne : l = []
    · subst hne; exact ⟨trivial, Nat.zero_le _⟩
    · cases h : oneF (ofL l) with
      | none =>
        rw [scanF_bad hne h]
        exact ⟨trivial, Nat.zero_le _⟩
      | some x =>
        obtain ⟨t, k⟩ := x
        have hk := oneL_pos h
        have ht := tok_one h
        obtain ⟨i1, i2⟩ := ih (p + k + whL (l.drop k)) ((l.drop k).drop (whL (l.drop k))) (by rw [List.length_drop, List.length_drop]; omega)
        rw [List.length_drop, List.length_drop] at i2
        have hz : zp { t with pl := (p : Int) } = t := by
          have := ht.pl
          obtain ⟨a, b, c, d, e⟩ := t
          dsimp only at this
          subst this
          rfl
        rw [scanF_one hne h]
        refine ⟨⟨?_, i1⟩, ?_⟩
        · by_cases h7 : t.k = 7
          · obtain ⟨e1, e2, e3⟩ := ht.not h7
            rw [if_pos (show ({ t with pl := (p : Int) } : Tk).k = 7 from h7), hz]
            refine ⟨e1, ?_⟩
            rw [ofL_list] at e3
            obtain ⟨l', hl'⟩ : ∃ l', l = 45 :: 40 :: l' := by
              cases l with
              | nil => cases e3
              | cons a l =>
                cases l with
                | nil => cases e3
                | cons b l =>
                  have : a = 45 ∧ b = 40 := by simpa using e3
                  exact ⟨l, by rw [this.1, this.2]⟩
            subst e2
            have hw : whL (40 :: l') = 0 := whN (by decide) (by decide)
            have e4 : l.drop 1 = 40 :: l' := by rw [hl']; rfl
            rw [e4, scanW_no hw, scanF_one (by simp) (open_one l')]
            exact ⟨_, _, rfl, rfl⟩
          · rw [if_neg (show ¬ ({ t with pl := (p : Int) } : Tk).k = 7 from h7), hz]
            exact ht.back h7
        · show ((textT t).data.toList ++ ((if t.k = 7 then [] else [32]) ++ bk (scanW (p + k) (l.drop k)).1)).length ≤ _
          have hs := ht.size
          have h1 : ((if t.k = 7 then [] else [32]) : List UInt8).length ≤ 1 := by split <;> simp
          rw [List.length_append, List.length_append, bl_len]
          change (bk (scanW (p + k) (l.drop k)).1).length ≤ _ at i2
          omega
theorem scanW_blank (p : Nat) (l : List UInt8) : scanW p (32 :: l) = scanW (p + 1) l := by
  have e : whL (32 :: l) = 1 + whL l := whB (by decide)
  unfold scanW
  rw [e, show 1 + whL l = whL l + 1 by omega, List.drop_succ_cons]
  simp [Nat.add_assoc, Nat.add_comm]
theorem scan_back : ∀ (ts : List Tk), goodT ts → ∀ p, ∃ us, scanW p (bk ts) = (us, none) ∧ us.map zp = ts.map zp
  | [], _, p => ⟨[], rfl, rfl⟩
  | t :: r, hg, p => by
    obtain ⟨h1, h2⟩ := hg
    by_cases h7 : t.k = 7
    · rw [if_pos h7] at h1
      obtain ⟨e1, u, r', rfl, e2⟩ := h1
      have et : textT t = ⟨#[45]⟩ := by
        have : textT t = textT (zp t) := rfl
        rw [this, e1]; rfl
      have eu : textT u = ⟨#[40]⟩ := by
        have : textT u = textT (zp u) := rfl
        rw [this, e2]; rfl
      have ku : u.k = 0 := by
        have : u.k = (zp u).k := rfl
        rw [this, e2]; rfl
      obtain ⟨us, i1, i2⟩ := scan_back (u :: r') h2 (p + 1)
      have eb : bk (t :: u :: r') = 45 :: bk (u :: r') := by
        show (textT t).data.toList ++ ((if t.k = 7 then [] else [32]) ++ bk (u :: r')) = _
        rw [et, if_pos h7]; rfl
      have ec : bk (u :: r') = 40 :: (32 :: bk r') := by
        show (textT u).data.toList ++ ((if u.k = 7 then [] else [32]) ++ bk r') = _
        rw [eu, if_neg (by omega)]; rfl
      have hw : whL (bk (t :: u :: r')) = 0 := by rw [eb]; exact whN (by decide) (by decide)
      refine ⟨{ tkS 7 with pl := p } :: us, ?_, ?_⟩
      · rw [scanW_no hw, eb, scanF_one (by simp) (by rw [ec]; exact not_one _)]
        show ({ tkS 7 with pl := (p : Int) } :: (scanW (p + 1) (bk (u :: r'))).1, (scanW (p + 1) (bk (u :: r'))).2) = _
        rw [i1]
      · rw [List.map_cons, List.map_cons, i2, e1]; rfl
    · rw [if_neg h7] at h1
      have h3 : oneF (ofL (textT t).data.toList) = some (zp t, (textT t).size) := by rw [ofL_data]; exact h1
      obtain ⟨us, i1, i2⟩ := scan_back r h2 (p + (textT t).size + 1)
      have eb : bk (t :: r) = (textT t).data.toList ++ 32 :: bk r := by
        show (textT t).data.toList ++ ((if t.k = 7 then [] else [32]) ++ bk r) = _
        rw [if_neg h7]; rfl
      obtain ⟨w0, wne⟩ := one_nowhite h3 (32 :: bk r)
      have h4 := (@one_stop (textT t).data.toList (bk r) 32 (.inr rfl)).trans h3
      refine ⟨{ zp t with pl := p } :: us, ?_, ?_⟩
      · rw [eb, scanW_no w0, scanF_one (by simp) h4]
        have hd : ((textT t).data.toList ++ 32 :: bk r).drop (textT t).size = 32 :: bk r := by
          rw [← bl_len, List.drop_left]
        rw [hd, scanW_blank, i1]
      · rw [List.map_cons, List.map_cons, i2]; rfl
end Go.Proofs.YtfaaokekgljnbaaDoor.Ab

/- Law 14: LexJoins, LexPlaces. -/
set_option linter.unusedVariables false
set_option linter.unusedSimpArgs false
set_option maxRecDepth 20000
namespace Go.Proofs.YtfaaokekgljnbaaDoor.Ab
open Go
section
variable {P : Program} {l : List Oper} {c : List (List Nat)} {m nt : Nat} {σ σ0 σ1 : St} {K : Fr → Prop} {i : Nat} {fr : Fr} {rest : List Oper} {t : Tmp} {ty : TypeId} {pos : String} {aft : Array Edge}
theorem dxnT {et et' : TypeId} {x y : Operand} {xs ys : List AV} (he : eqN P 5 et (.agg xs) (.agg ys) = some true) (h : DJ P l c m σ0 σ1 K (i + 1) rest ((t, .v (.bool false)) :: fr)) (him : Nat.beq i m = false := by exact rfl) (hx : ev fr x = some (.agg xs) := by exact rfl) (hy : ev fr y = some (.agg ys) := by exact rfl) (hgt : P.eqGuardType P.depth et = false := by kernel_rfl) (hnh : noHeld P 5 et = true := by kernel_rfl) : DJ P l c m σ0 σ1 K i (⟨some t, .binOp .neq et x y et', ty, pos, aft, none⟩ :: rest) fr := dj_store (fun _ R hR => opj_ne_agg rfl hx hy hgt (by decide) ((eqN_eqV _ _ _ _ hnh).symm.trans he) hR) him h
theorem jxnT {ops : Array Oper} {Q : Post} {et et' : TypeId} {x y : Operand} {xs ys : List AV} (he : eqN P 5 et (.agg xs) (.agg ys) = some true) (h : LJ P nt ops Q rest ((t, .v (.bool false)) :: fr) σ) (hx : ev fr x = some (.agg xs) := by exact rfl) (hy : ev fr y = some (.agg ys) := by exact rfl) (hgt : P.eqGuardType P.depth et = false := by kernel_rfl) (hnh : noHeld P 5 et = true := by kernel_rfl) (hd : fits nt (some t) = true := by exact rfl) : LJ P nt ops Q (⟨some t, .binOp .neq et x y et', ty, pos, aft, none⟩ :: rest) fr σ := lj_v hd (fun R hR => opj_ne_agg rfl hx hy hgt (by decide) ((eqN_eqV _ _ _ _ hnh).symm.trans he) hR) h
end
attribute [local irreducible] thn inb endR CJ LJ OpJ DJ DA DB AllocK
theorem eq_tkc (t : Tk) {w : Int} (hw : w = t.pl) : eqN Tryd.prog 5 31 (.agg (tkc t)) (.agg [.v (.int .u8 t.k), .v (.string t.nm), .v (.int .u8 t.p), .v (.int .u8 t.v.k), .v (.int .i64 t.v.n), .v (.string t.v.s), .v (.int .i64 w)]) = some true := by
  subst hw
  show some _ = some true
  simp
/-! ### LexJoins -/
def shT (d : Int) (t : Tk) : Tk := { t with pl := t.pl + d }
theorem rises_in {L : List UInt8} : ∀ (last : Int) (ts : List Tk) (o : Option Nat), risesL L last ts o → (∀ t ∈ ts, 0 ≤ t.pl ∧ t.pl < L.length) ∧ (∀ a, o = some a → a < L.length)
  | last, [], none, _ => ⟨fun t h => (by cases h), fun a h => (by cases h)⟩
  | last, [], some a, h => ⟨fun t h => (by cases h), fun b hb => (by cases hb; exact h.2)⟩
  | last, t :: r, o, h => by
    obtain ⟨⟨h1, a, h2, h3, _⟩, h4⟩ := h
    obtain ⟨i1, i2⟩ := rises_in _ _ _ h4
    refine ⟨fun u hu => ?_, i2⟩
    rcases List.mem_cons.1 hu with rfl | hu
    · omega
    · exact i1 u hu
theorem joins_plain {a b J : ByteArray} (hJ : J.data.toList = a.data.toList ++ 10 :: b.data.toList) (ha : a.size ≤ 1000) (hb : b.size ≤ 1000) :
    ((scanV a).2.2 = 16 ∧ (scanV J).2.2 = 16) ∨ ((scanV a).2.2 = 0 ∧ (scanV J).1 = (scanV a).1 ++ (scanV b).1.map (shT (a.size + 1)) ∧ (scanV J).2.2 = (scanV b).2.2 ∧ ((scanV b).2.2 ≠ 0 → (scanV J).2.1 = (scanV b).2.1 + (a.size + 1)) ∧ (∀ t ∈ (scanV b).1, 0 ≤ t.pl ∧ t.pl < 1000) ∧ 0 ≤ (scanV b).2.1 ∧ (scanV b).2.1 < 1000 + 1) := by
  have hz : J.size = a.size + (b.size + 1) := by
    rw [← bl_len, hJ, List.length_append, List.length_cons, bl_len, bl_len]
  have hj := scanW_join b.data.toList _ a.data.toList 0 (Nat.le_refl _)
  have hs := scanW_shift (a.size + 1) 0 b.data.toList
  rw [bl_len, Nat.zero_add] at hj
  rw [Nat.zero_add] at hs
  have hr := rises_in _ _ _ (rises_all b)
  rw [bl_len] at hr
  rw [scanV_W (s := a) (by omega), scanV_W (s := b) (by omega), scanV_W (s := J) (by omega), hJ, hj]
  rcases scanW 0 a.data.toList with ⟨ta, _ | qa⟩
  · right
    dsimp only
    rw [hs]
    generalize scanW 0 b.data.toList = B at *
    obtain ⟨tb, ob⟩ := B
    obtain ⟨r1, r2⟩ := hr
    dsimp only at r1 r2 ⊢
    refine ⟨rfl, rfl, ?_, ?_, fun t ht => ?_, ?_⟩
    · cases ob <;> rfl
    · cases ob with
      | none => intro h; exact absurd rfl h
      | some q =>
        intro _
        show ((q + (a.size + 1) : Nat) : Int) = (q : Int) + ((a.size : Int) + 1)
        omega
    · have := r1 t ht
      omega
    · cases ob with
      | none => exact ⟨Int.le_refl _, by decide⟩
      | some q =>
        have := r2 q rfl
        show 0 ≤ (q : Int) ∧ (q : Int) < 1000 + 1
        omega
  · left
    exact ⟨rfl, rfl⟩
set_option maxHeartbeats 2000000 in
theorem p_joins14 (a b : ByteArray) : Pure Tryd.prog 5 [.v (.string a), .v (.string b)] (.v (.bool true)) := by
  refine enterW Tryd.func5 rfl rfl rfl rfl (fun σ => ?_)
  have k0 := p_awake14
  by_cases hs : 1000 < a.size ∨ 1000 < b.size
  · repeat' (first|(first|(refine jl ?_;first|refine j7 ?_|refine j1 ?_|refine j4 ?_|refine j9 ?_|refine jp (k0) ?_)|(refine jc ?_;first|refine c1 ?_|refine c2 ?_|refine c7 ?_)|refine n2 ?_|refine n11 ?_)|(refine c9 (fun h=>?_) (fun h=>?_)<;>((try simp only [Bool.or_eq_true, Bool.and_eq_true, Bool.or_eq_false_iff, Bool.and_eq_false_iff, Bool.not_eq_true', Bool.not_eq_false', decide_eq_true_eq, decide_eq_false_iff_not, Bool.false_eq_true, Bool.true_eq_false, reduceCtorEq] at h) <;> (try simp (disch := omega) only [sb_bt, w64, Int.reduceAdd, Int.reduceToNat, Int.toNat_natCast, not_true_eq_false, false_or] at h) <;> (try (exfalso; omega)))))
    all_goals exact gives (by repeat' (first | exact St.le_refl _ | refine St.le_any ?_)) (Fin.refl _ _ _)
  · have k1 := p_scan a
    have k2 := p_scan b
    have k3 := p_scan (a ++ ⟨#[10]⟩ ++ b)
    have hp := joins_plain (a := a) (b := b) (J := a ++ ⟨#[10]⟩ ++ b) (by simp [ByteArray.data_append]) (by omega) (by omega)
    have l1 := @scan_len a
    have l2 := @scan_len b
    generalize scanV a = A at *
    generalize scanV b = B at *
    generalize scanV (a ++ ⟨#[10]⟩ ++ b) = J at *
    obtain ⟨ta, na, ea⟩ := A
    obtain ⟨tb, nb, eb⟩ := B
    obtain ⟨tj, nj, ej⟩ := J
    dsimp only at k1 k2 k3 hp l1 l2
    rcases hp with ⟨h1, h2⟩ | ⟨h1, h2, h3, h4, h5, h6⟩
    · subst h1
      subst h2
      repeat' (first|(first|(refine jl ?_;first|refine j7 ?_|refine j8 ?_|refine j1 ?_|refine j4 ?_|refine j9 ?_|refine j25 ?_|refine jcq (hp:=fun hc=>k0) ?_|refine jp (k1) ?_|refine jp (k2) ?_|refine jp (k3) ?_)|(refine jc ?_;first|refine c1 ?_|refine c2 ?_|refine c6 ?_|refine c7 ?_)|refine n1 ?_|refine n2 ?_|refine n11 ?_)|(refine c9 (fun h=>?_) (fun h=>?_)<;>((try simp only [Bool.or_eq_true, Bool.and_eq_true, Bool.or_eq_false_iff, Bool.and_eq_false_iff, Bool.not_eq_true', Bool.not_eq_false', decide_eq_true_eq, decide_eq_false_iff_not, Bool.false_eq_true, Bool.true_eq_false, reduceCtorEq] at h) <;> (try simp (disch := omega) only [sb_bt, w64, Int.reduceAdd, Int.reduceToNat, Int.toNat_natCast, not_true_eq_false, false_or] at h) <;> (try (exfalso; omega)))))
      exact gives (St.le_refl _) (Fin.refl _ _ _)
    · subst h1
      subst h3
      have hln : (ta.map tkc).length = ta.length := List.length_map ..
      have hlm : (tb.map tkc).length = tb.length := List.length_map ..
      have hlj : (tj.map tkc).length = ta.length + tb.length := by rw [List.length_map, h2, List.length_append, List.length_map]
      have hj : ∀ (i : Nat) (t : Tk), ta[i]? = some t → (tj.map tkc)[i]? = some (tkc t) := fun i t h => by
        refine get_map tkc ?_
        rw [h2, List.getElem?_append_left (List.getElem?_eq_some_iff.1 h).1, h]
      have h7 : ej = 0 ∨ nj = nb + (a.size + 1) := by
        by_cases he : ej = 0
        · exact .inl he
        · exact .inr (h4 he)
      have hj2 : ∀ (i : Nat) (t : Tk), tb[i]? = some t → (tj.map tkc)[ta.length + i]? = some (tkc (shT (a.size + 1) t)) := fun i t h => by
        refine get_map tkc ?_
        rw [h2, List.getElem?_append_right (by omega), Nat.add_sub_cancel_left, List.getElem?_map, h]
        rfl
      repeat' (first|(first|(refine jl ?_;first|refine j7 ?_|refine j11 ?_|refine j1 ?_|refine j4 ?_|refine j9 ?_|refine j25 ?_|refine jp (k1) ?_|refine jp (k2) ?_|refine jp (k3) ?_)|(refine jc ?_;first|refine c1 ?_|refine c2 ?_|refine c5 ?_|refine c6 ?_|refine c7 ?_)|refine n1 ?_|refine n2 ?_|refine n11 ?_)|(refine c9 (fun h=>?_) (fun h=>?_)<;>((try simp only [Bool.or_eq_true, Bool.and_eq_true, Bool.or_eq_false_iff, Bool.and_eq_false_iff, Bool.not_eq_true', Bool.not_eq_false', decide_eq_true_eq, decide_eq_false_iff_not, Bool.false_eq_true, Bool.true_eq_false, reduceCtorEq] at h) <;> (try simp (disch := omega) only [sb_bt, w64, Int.reduceAdd, Int.reduceToNat, Int.toNat_natCast, not_true_eq_false, false_or] at h) <;> (try (exfalso; omega)))))
      · exfalso
        rcases h with (h | h) | h
        · omega
        · exact h
        · omega
      refine cj_for (fun i : Nat => i ≤ ta.length) (fun i => [(14, .v (.int .i64 i))]) (fun _ => σ) (fun i => ta.length - i) 0 (Nat.zero_le _) ⟨⟨_, rfl, fun _ _ h => h⟩, trivial⟩ (St.le_refl _) (fun i hi => ?_)
      rcases hd : ta.drop i with _ | ⟨t, r⟩
      · have h0 := dropn hd
        repeat' (first|(first|(refine jl ?_;first|refine j1 ?_|refine j4 ?_)|(refine jc ?_;first|refine c1 ?_|refine c2 ?_|refine c5 ?_|refine c8 ?_)|refine n1 ?_|refine n3 ?_|refine n7 ?_|refine n8 ?_)|(refine c9 (fun h=>?_) (fun h=>?_)<;>((try simp only [Bool.or_eq_true, Bool.and_eq_true, Bool.or_eq_false_iff, Bool.and_eq_false_iff, Bool.not_eq_true', Bool.not_eq_false', decide_eq_true_eq, decide_eq_false_iff_not, Bool.false_eq_true, Bool.true_eq_false, reduceCtorEq] at h) <;> (try simp (disch := omega) only [sb_bt, w64, Int.reduceAdd, Int.reduceToNat, Int.toNat_natCast, not_true_eq_false, false_or] at h) <;> (try (exfalso; omega)))))
        refine cj_for (fun i : Nat => i ≤ tb.length) (fun i => [(15, .v (.int .i64 i))]) (fun _ => σ) (fun i => tb.length - i) 0 (Nat.zero_le _) ⟨⟨_, rfl, fun _ _ h => h⟩, trivial⟩ (St.le_refl _) (fun i hi => ?_)
        rcases hd : tb.drop i with _ | ⟨t, r⟩
        · have h0 := dropn hd
          repeat' (first|(first|(refine jl ?_;first|refine j1 ?_|refine j4 ?_|refine jp (k0) ?_)|(refine jc ?_;first|refine c1 ?_|refine c2 ?_|refine c7 ?_|refine c8 ?_)|refine n1 ?_|refine n3 ?_|refine n7 ?_|refine n8 ?_|refine n11 ?_)|(refine c9 (fun h=>?_) (fun h=>?_)<;>((try simp only [Bool.or_eq_true, Bool.and_eq_true, Bool.or_eq_false_iff, Bool.and_eq_false_iff, Bool.not_eq_true', Bool.not_eq_false', decide_eq_true_eq, decide_eq_false_iff_not, Bool.false_eq_true, Bool.true_eq_false, reduceCtorEq] at h) <;> (try simp (disch := omega) only [sb_bt, w64, Int.reduceAdd, Int.reduceToNat, Int.toNat_natCast, not_true_eq_false, false_or] at h) <;> (try (exfalso; omega)))))
          exact gives (St.le_refl _) (Fin.refl _ _ _)
        · obtain ⟨g1, g2, g3⟩ := dropc hd
          have g4 := get_map tkc g3
          have hw1 : IntKind.i64.wrap (((ta.map tkc).length : Int) + (i : Int)) = ((ta.length + i : Nat) : Int) := by rw [w64 (by omega) (by omega)]; omega
          have g5 : (tj.map tkc)[(IntKind.i64.wrap (((ta.map tkc).length : Int) + (i : Int))).toNat]? = some (tkc (shT (a.size + 1) t)) := by
            rw [hw1]
            exact hj2 i t g3
          have g6 := h5 t (List.mem_of_getElem? g3)
          have hw2 : IntKind.i64.wrap (t.pl + IntKind.i64.wrap ((a.size : Int) + 1)) = t.pl + ((a.size : Int) + 1) := by
            rw [w64 (n := (a.size : Int) + 1) (by omega) (by omega), w64 (by omega) (by omega)]
          repeat' (first|(first|(refine jl ?_;first|refine jbl ?_|refine j1 ?_|refine j4 ?_|refine j6 ?_|refine j13 (fun id hid=>?_)|refine j14 ?_|refine j17t ?_|refine ji1 ?_)|(refine dl ?_;first|refine dbl ?_|refine d1 ?_|refine d4 ?_|refine d14 ?_|refine dne ?_|refine di1 ?_)|(refine jc ?_;first|refine c1 ?_|refine c2 ?_|refine c5 ?_|refine c6 ?_|refine c7 ?_|refine cq ?_)|refine n1 ?_|refine n2 ?_|refine n5 ?_|refine n6 ?_|refine n10 ?_|refine n11 ?_)|(refine c9 (fun h=>?_) (fun h=>?_)<;>((try simp only [Bool.or_eq_true, Bool.and_eq_true, Bool.or_eq_false_iff, Bool.and_eq_false_iff, Bool.not_eq_true', Bool.not_eq_false', decide_eq_true_eq, decide_eq_false_iff_not, Bool.false_eq_true, Bool.true_eq_false, reduceCtorEq] at h) <;> (try simp (disch := omega) only [sb_bt, w64, Int.reduceAdd, Int.reduceToNat, Int.toNat_natCast, not_true_eq_false, false_or] at h) <;> (try (exfalso; omega)))))
          · exfalso
            simp [shT, hw2] at h
          · exact nx_forS (i + 1) (by omega) (by omega) ⟨⟨_, rfl, wk1 (by omega)⟩, trivial⟩ (St.le_set _ hid)
      · obtain ⟨g1, g2, g3⟩ := dropc hd
        have g4 := get_map tkc g3
        have g5 := hj i t g3
        repeat' (first|(first|(refine jl ?_;first|refine j1 ?_|refine j4 ?_|refine j6 ?_)|(refine dl ?_;first|refine dbl ?_|refine d1 ?_|refine d4 ?_|refine dne ?_|refine di1 ?_)|(refine jc ?_;first|refine c1 ?_|refine c2 ?_|refine c5 ?_|refine c6 ?_|refine cq ?_)|refine n1 ?_|refine n10 ?_)|(refine c9 (fun h=>?_) (fun h=>?_)<;>((try simp only [Bool.or_eq_true, Bool.and_eq_true, Bool.or_eq_false_iff, Bool.and_eq_false_iff, Bool.not_eq_true', Bool.not_eq_false', decide_eq_true_eq, decide_eq_false_iff_not, Bool.false_eq_true, Bool.true_eq_false, reduceCtorEq] at h) <;> (try simp (disch := omega) only [sb_bt, w64, Int.reduceAdd, Int.reduceToNat, Int.toNat_natCast, not_true_eq_false, false_or] at h) <;> (try (exfalso; omega)))))
        exact nx_forS (i + 1) (by omega) (by omega) ⟨⟨_, rfl, wk1 (by omega)⟩, trivial⟩ (St.le_refl _)
end Go.Proofs.YtfaaokekgljnbaaDoor.Ab

/- Law 14: LexPlaces. -/
set_option linter.unusedVariables false
set_option linter.unusedSimpArgs false
set_option maxRecDepth 20000
namespace Go.Proofs.YtfaaokekgljnbaaDoor.Ab
open Go
attribute [local irreducible] thn inb endR CJ LJ OpJ DJ DA DB AllocK
set_option maxHeartbeats 2000000 in
theorem p_places14 (s : ByteArray) : Pure Tryd.prog 4 [.v (.string s)] (.v (.bool true)) := by
  refine enterW Tryd.func4 rfl rfl rfl rfl (fun σ => ?_)
  have k0 := p_awake14
  by_cases hs : 2000 < s.size
  · repeat' (first|(first|(refine jl ?_;first|refine j1 ?_|refine j4 ?_|refine jp (k0) ?_)|(refine jc ?_;first|refine c1 ?_|refine c2 ?_|refine c7 ?_)|refine n2 ?_|refine n11 ?_)|(refine c9 (fun h=>?_) (fun h=>?_)<;>((try simp only [Bool.or_eq_true, Bool.and_eq_true, Bool.or_eq_false_iff, Bool.and_eq_false_iff, Bool.not_eq_true', Bool.not_eq_false', decide_eq_true_eq, decide_eq_false_iff_not, Bool.false_eq_true, Bool.true_eq_false, reduceCtorEq] at h) <;> (try simp (disch := omega) only [sb_bt, w64, Int.reduceAdd, Int.reduceToNat, Int.toNat_natCast, not_true_eq_false, false_or] at h) <;> (try (exfalso; omega)))))
    all_goals exact gives (by repeat' (first | exact St.le_refl _ | refine St.le_any ?_)) (Fin.refl _ _ _)
  · have k1 := p_scan s
    have hr := rises_all s
    have hok := @ok_scan s
    have hlen := @scan_len s
    rw [scanV_W (by omega)] at k1 hok hlen
    generalize scanW 0 s.data.toList = V at *
    obtain ⟨l, o⟩ := V
    dsimp only at k1 hr hok hlen
    obtain ⟨n, e, hn, he, hoe⟩ : ∃ n e : Int, (o.map (fun a => (a : Int))).getD 0 = n ∧ (if o = none then (0 : Int) else 16) = e ∧ ((o = none ∧ n = 0 ∧ e = 0) ∨ ∃ a : Nat, o = some a ∧ n = a ∧ e = 16) := by
      cases o with
      | none => exact ⟨_, _, rfl, rfl, .inl ⟨rfl, rfl, rfl⟩⟩
      | some a => exact ⟨_, _, rfl, rfl, .inr ⟨a, rfl, rfl, rfl⟩⟩
    rw [hn, he] at k1
    have hln : (l.map tkc).length = l.length := List.length_map ..
    have hlm := bl_len s
    repeat' (first|(first|(refine jl ?_;first|refine j1 ?_|refine j4 ?_|refine jp (k1) ?_)|(refine jc ?_;first|refine c1 ?_|refine c2 ?_|refine c5 ?_|refine c6 ?_)|refine n1 ?_)|(refine c9 (fun h=>?_) (fun h=>?_)<;>((try simp only [Bool.or_eq_true, Bool.and_eq_true, Bool.or_eq_false_iff, Bool.and_eq_false_iff, Bool.not_eq_true', Bool.not_eq_false', decide_eq_true_eq, decide_eq_false_iff_not, Bool.false_eq_true, Bool.true_eq_false, reduceCtorEq] at h) <;> (try simp (disch := omega) only [sb_bt, w64, Int.reduceAdd, Int.reduceToNat, Int.toNat_natCast, not_true_eq_false, false_or] at h) <;> (try (exfalso; omega)))))
    refine cj_for (fun x : Nat × Int => x.1 ≤ l.length ∧ -1 ≤ x.2 ∧ x.2 < 3000 ∧ risesL s.data.toList x.2 (l.drop x.1) o) (fun x => [(6, .v (.int .i64 x.2)), (7, .v (.int .i64 x.1))]) (fun _ => σ) (fun x => l.length - x.1) (0, -1) ⟨Nat.zero_le _, Int.le_refl _, by decide, hr⟩ ⟨⟨_, rfl, fun _ _ h => h⟩, ⟨_, rfl, fun _ _ h => h⟩, trivial⟩ (St.le_refl _) (fun x hx => ?_)
    obtain ⟨i, last⟩ := x
    obtain ⟨hi, h1, h2, h3⟩ := hx
    dsimp only at hi h1 h2 h3 ⊢
    rcases hd : l.drop i with _ | ⟨t, r⟩
    · have h0 := dropn hd
      rw [hd] at h3
      rcases hoe with ⟨rfl, rfl, rfl⟩ | ⟨a, rfl, rfl, rfl⟩
      · repeat' (first|(first|(refine jl ?_;first|refine j7 ?_|refine j8 ?_|refine j11 ?_|refine j1 ?_|refine j4 ?_|refine j9 ?_|refine jcq (hp:=fun hc=>k0) ?_)|(refine jc ?_;first|refine c1 ?_|refine c2 ?_|refine c7 ?_|refine c8 ?_)|refine n1 ?_|refine n3 ?_|refine n7 ?_|refine n8 ?_|refine n11 ?_)|(refine c9 (fun h=>?_) (fun h=>?_)<;>((try simp only [Bool.or_eq_true, Bool.and_eq_true, Bool.or_eq_false_iff, Bool.and_eq_false_iff, Bool.not_eq_true', Bool.not_eq_false', decide_eq_true_eq, decide_eq_false_iff_not, Bool.false_eq_true, Bool.true_eq_false, reduceCtorEq] at h) <;> (try simp (disch := omega) only [sb_bt, w64, Int.reduceAdd, Int.reduceToNat, Int.toNat_natCast, not_true_eq_false, false_or] at h) <;> (try (exfalso; omega)))))
        exact gives (St.le_refl _) (Fin.refl _ _ _)
      · obtain ⟨h4, h5⟩ := h3
        repeat' (first|(first|(refine jl ?_;first|refine j7 ?_|refine j8 ?_|refine j11 ?_|refine j1 ?_|refine j4 ?_|refine j9 ?_|refine jcq (hp:=fun hc=>k0) ?_)|(refine jc ?_;first|refine c1 ?_|refine c2 ?_|refine c7 ?_|refine c8 ?_)|refine n1 ?_|refine n3 ?_|refine n7 ?_|refine n8 ?_|refine n11 ?_)|(refine c9 (fun h=>?_) (fun h=>?_)<;>((try simp only [Bool.or_eq_true, Bool.and_eq_true, Bool.or_eq_false_iff, Bool.and_eq_false_iff, Bool.not_eq_true', Bool.not_eq_false', decide_eq_true_eq, decide_eq_false_iff_not, Bool.false_eq_true, Bool.true_eq_false, reduceCtorEq] at h) <;> (try simp (disch := omega) only [sb_bt, w64, Int.reduceAdd, Int.reduceToNat, Int.toNat_natCast, not_true_eq_false, false_or] at h) <;> (try (exfalso; omega)))))
        refine gives (St.le_refl _) (fin_one (.wk (Wk.of_eq ?_)))
        rw [decide_eq_true (by omega : last < (a : Int)), decide_eq_true (by omega : (a : Int) < (s.size : Int))]
        rfl
    · obtain ⟨g1, g2, g3⟩ := dropc hd
      have g4 := get_map tkc g3
      obtain ⟨o1, o2, o3, o4⟩ := hok t (List.mem_of_getElem? g3)
      have k3 := p_textT t o1 o2 (by omega)
      rw [hd] at h3
      obtain ⟨⟨h4, a, h5, h6, h7⟩, h8⟩ := h3
      by_cases hk : t.k = 11 ∧ t.v.k = 1
      · obtain ⟨hk1, hk2⟩ := hk
        repeat' (first|(first|(refine jl ?_;first|refine j7 ?_|refine j8 ?_|refine jbl ?_|refine j1 ?_|refine j4 ?_|refine j6 ?_|refine j9 ?_|refine ji1 ?_|refine ji3 ?_|refine jp (k3) ?_)|(refine jc ?_;first|refine c1 ?_|refine c2 ?_|refine c5 ?_|refine c6 ?_|refine c8 ?_)|refine n1 ?_|refine n3 ?_|refine n8 ?_)|(refine c9 (fun h=>?_) (fun h=>?_)<;>((try simp only [Bool.or_eq_true, Bool.and_eq_true, Bool.or_eq_false_iff, Bool.and_eq_false_iff, Bool.not_eq_true', Bool.not_eq_false', decide_eq_true_eq, decide_eq_false_iff_not, Bool.false_eq_true, Bool.true_eq_false, reduceCtorEq] at h) <;> (try simp (disch := omega) only [sb_bt, w64, Int.reduceAdd, Int.reduceToNat, Int.toNat_natCast, not_true_eq_false, false_or] at h) <;> (try (exfalso; omega)))))
        exact nx_forS (i + 1, t.pl) ⟨by dsimp only; omega, by dsimp only; omega, by dsimp only; omega, by rw [g2]; exact h8⟩ (by dsimp only; omega) ⟨⟨_, rfl, fun _ _ h => h⟩, ⟨_, rfl, wk1 (by omega)⟩, trivial⟩ (St.le_refl _)
      · obtain ⟨h9, h10⟩ := h7 (by omega)
        have hw : IntKind.i64.wrap (t.pl + (textT t).size) = ((a + (textT t).size : Nat) : Int) := by rw [w64 (by omega) (by omega)]; omega
        have hx : s.extract t.pl.toNat (t.pl + ((textT t).size : Int)).toNat = textT t := by
          rw [h5, ← Int.natCast_add]
          apply ByteArray.ext
          apply Array.toList_inj.1
          rw [exl, Int.toNat_natCast, Int.toNat_natCast, List.drop_take, Nat.add_sub_cancel_left, h10]
        repeat' (first|(first|(refine jl ?_;first|refine j7 ?_|refine j8 ?_|refine jbl ?_|refine j1 ?_|refine j4 ?_|refine j6 ?_|refine j9 ?_|refine ji1 ?_|refine ji3 ?_|refine jp (k3) ?_|refine jsq (b := t.pl) (k := IntKind.i64.wrap (t.pl + (textT t).size)) (s := s) (fun _ => ⟨by omega, by omega, by omega⟩) ?_)|(refine jc ?_;first|refine c1 ?_|refine c2 ?_|refine c5 ?_|refine c6 ?_|refine c7 ?_)|refine n1 ?_|refine n2 ?_|refine n5 ?_|refine n6 ?_|refine n10 ?_|refine n11 ?_)|(refine c9 (fun h=>?_) (fun h=>?_)<;>((try simp only [Bool.or_eq_true, Bool.and_eq_true, Bool.or_eq_false_iff, Bool.and_eq_false_iff, Bool.not_eq_true', Bool.not_eq_false', decide_eq_true_eq, decide_eq_false_iff_not, Bool.false_eq_true, Bool.true_eq_false, reduceCtorEq] at h) <;> (try simp (disch := omega) only [sb_bt, w64, Int.reduceAdd, Int.reduceToNat, Int.toNat_natCast, not_true_eq_false, false_or] at h) <;> (try (exfalso; omega)))))
        · exfalso
          rcases h with h | h
          · omega
          · exact h hx
        · exact nx_forS (i + 1, t.pl) ⟨by dsimp only; omega, by dsimp only; omega, by dsimp only; omega, by rw [g2]; exact h8⟩ (by dsimp only; omega) ⟨⟨_, rfl, fun _ _ h => h⟩, ⟨_, rfl, wk1 (by omega)⟩, trivial⟩ (St.le_refl _)
end Go.Proofs.YtfaaokekgljnbaaDoor.Ab

/- Law 14: LexBack. -/
set_option linter.unusedVariables false
set_option linter.unusedSimpArgs false
set_option maxRecDepth 20000
namespace Go.Proofs.YtfaaokekgljnbaaDoor.Ab
open Go
attribute [local irreducible] thn inb endR CJ LJ OpJ DJ DA DB AllocK
theorem St.le_none {σ τ : St} {w : Nat} (h : σ.le τ) (hw : τ w = none) : σ w = none := by
  cases hx : σ w with
  | none => rfl
  | some v => rw [h w v hx] at hw; cases hw
theorem scan_le {σ τ : St} {id w : Nat} {R X : AObj} (h : σ.le τ) (hid : σ id = none) (hn : w ≠ id) : (σ.set w R).le ((τ.set w R).set id X) := fun y v hv => by
  by_cases hy : y = w
  · subst hy
    rw [St.set_same] at hv
    rw [St.set_ne _ _ _ hn, St.set_same]
    exact hv
  · rw [St.set_ne _ _ _ hy] at hv
    have hyi : y ≠ id := fun e => by subst e; rw [hid] at hv; cases hv
    rw [St.set_ne _ _ _ hyi, St.set_ne _ _ _ hy]
    exact h y v hv
/-! ### Scan, its tokens a row of our own -/
set_option maxHeartbeats 2000000 in
theorem q_scanO (s : ByteArray) (hz : ¬ 16384 < s.size) (σ : St) : ACalls Tryd.prog 16 [.v (.string s)] σ (fun e σ' => ∃ w, σ w = none ∧ e = .ret (.tup [.osl w 7 0 (scanV s).1.length, .v (.int .i64 (scanV s).2.1), .v (.int .i64 (scanV s).2.2)]) ∧ σ' = σ.set w (.row 7 31 ((scanV s).1.map tkc))) := by
  refine acalls_gives_ex ?_
  refine enter Tryd.func16 rfl rfl rfl rfl ?_
  have hV : scanV s = match scanR s (whL s.data.toList) with
    | (l, none) => (l, 0, 0)
    | (l, some a) => (l, a, 16) := by unfold scanV; rw [if_neg hz]; rfl
  have hlen := bl_len s
  repeat' (first|(first|(refine jl ?_;first|refine jb ?_|refine j1 ?_|refine j4 ?_|refine j12 (fun id hid=>?_))|(refine jc ?_;first|refine c1 ?_|refine c2 ?_|refine c6 ?_)|refine n1 ?_)|(refine c9 (fun h=>?_) (fun h=>?_)<;>((try simp only [Bool.or_eq_true, Bool.and_eq_true, Bool.or_eq_false_iff, Bool.and_eq_false_iff, Bool.not_eq_true', Bool.not_eq_false', decide_eq_true_eq, decide_eq_false_iff_not, Bool.false_eq_true, Bool.true_eq_false, reduceCtorEq] at h) <;> (try simp (disch := omega) only [sb_bt, w64, Int.reduceAdd, Int.reduceToNat, Int.toNat_natCast, not_true_eq_false, false_or] at h) <;> (try (exfalso; omega)))))
  have hid1 := hid
  refine lj_nilcell 5 2 7 31 (fun w0 hw0 => ?_)
  obtain ⟨τ, hτ⟩ : ∃ τ, τ = σ.set id (.row 3 74 [[.v (.string s), .v (.int .i64 0), .sl (some true) true 1 []]]) := ⟨_, rfl⟩
  have hi : τ id = some (.row 3 74 [[.v (.string s), .v (.int .i64 0), .sl (some true) true 1 []]]) := by rw [hτ]; exact St.set_same _ _ _
  rw [← hτ] at hw0 ⊢
  have hle : σ.le τ := by rw [hτ]; exact St.le_set _ hid
  show LJ _ _ _ _ _ _ (scS τ id w0 s 0 [])
  refine lj_to rfl rfl rfl (q_white hw0 hi (Nat.zero_le _) (by omega)) ?_
  repeat (first|(refine jl ?_;first|refine j4 ?_)|(refine jc ?_;first|refine c5 ?_))
  rw [Nat.zero_add, List.drop_zero]
  have hwl : whL s.data.toList ≤ s.size := by rw [← hlen]; exact whG_le _ _
  refine cj_for (fun x : Nat × Nat × List Tk => x.1 ≤ s.size ∧ τ x.2.1 = none ∧ x.2.2.length ≤ x.1 ∧ x.2.2 ++ (scanR s x.1).1 = (scanR s (whL s.data.toList)).1 ∧ (scanR s x.1).2 = (scanR s (whL s.data.toList)).2) (fun x => [(5, .ptr id 3 0 0)]) (fun x => scS τ id x.2.1 s x.1 x.2.2) (fun x => s.size - x.1) (whL s.data.toList, w0, []) ⟨hwl, hw0, Nat.zero_le _, rfl, rfl⟩ ⟨⟨_, rfl, fun _ _ h => h⟩, trivial⟩ (St.le_refl _) (fun x hx => ?_)
  obtain ⟨a, w, acc⟩ := x
  obtain ⟨h1, hw, h3, h4, h5⟩ := hx
  dsimp only at h1 hw h3 h4 h5 ⊢
  have nwi : w ≠ id := St.ne_some hw hi
  by_cases hlt : a < s.size
  · have q := q_one (s := s) (a := a) (ts := acc) hw hi (by omega) h1 (by omega)
    cases h6 : oneF (s.extract a s.size) with
    | none =>
      rw [scanR_bad hlt h6] at h4 h5
      rw [h6] at q
      dsimp only [plO, tsO, Option.isSome] at q
      repeat' (first|(first|(refine jl ?_;first|refine j1 ?_|refine j4 ?_|refine j14 ?_)|(refine jc ?_;first|refine c1 ?_|refine c2 ?_|refine c5 ?_|refine c6 ?_)|refine n1 ?_)|(refine c9 (fun h=>?_) (fun h=>?_)<;>((try simp only [Bool.or_eq_true, Bool.and_eq_true, Bool.or_eq_false_iff, Bool.and_eq_false_iff, Bool.not_eq_true', Bool.not_eq_false', decide_eq_true_eq, decide_eq_false_iff_not, Bool.false_eq_true, Bool.true_eq_false, reduceCtorEq] at h) <;> (try simp (disch := omega) only [sb_bt, w64, Int.reduceAdd, Int.reduceToNat, Int.toNat_natCast, not_true_eq_false, false_or] at h) <;> (try (exfalso; omega)))))
      refine lj_calls rfl rfl rfl q (fun x σ2 hx => ?_) (by rintro x σ2 ⟨_, _, h, _⟩; cases h)
      obtain ⟨w', hw', hx1, hx2⟩ := hx
      cases hx1
      subst hx2
      have nwi' : w' ≠ id := St.ne_some hw' hi
      repeat' (first|(first|(refine jl ?_;first|refine j1 ?_|refine j4 ?_)|(refine dl ?_;first|refine d1 ?_|refine d4 ?_|refine d14 ?_)|(refine jc ?_;first|refine c1 ?_|refine c7 ?_|refine cq ?_)|refine n1 ?_|refine n2 ?_|refine n5 ?_|refine n6 ?_|refine n11 ?_)|(refine c9 (fun h=>?_) (fun h=>?_)<;>((try simp only [Bool.or_eq_true, Bool.and_eq_true, Bool.or_eq_false_iff, Bool.and_eq_false_iff, Bool.not_eq_true', Bool.not_eq_false', decide_eq_true_eq, decide_eq_false_iff_not, Bool.false_eq_true, Bool.true_eq_false, reduceCtorEq] at h) <;> (try simp (disch := omega) only [sb_bt, w64, Int.reduceAdd, Int.reduceToNat, Int.toNat_natCast, not_true_eq_false, false_or] at h) <;> (try (exfalso; omega)))))
      have hR : scanR s (whL s.data.toList) = (acc, some a) := Prod.ext (by rw [← h4, List.append_nil]) h5.symm
      rw [hV, hR]
      refine ⟨w', St.le_none hle hw', ?_⟩
      exact gives (scan_le hle hid1 nwi') (Fin.refl _ _ _)
    | some x =>
      obtain ⟨t, k⟩ := x
      have hp := oneF_pos h6
      rw [Lib.ext_size] at hp
      dsimp only at hp
      rw [scanR_one hlt h6] at h4 h5
      rw [h6] at q
      dsimp only [plO, tsO, Option.isSome] at q h4 h5
      repeat' (first|(first|(refine jl ?_;first|refine j1 ?_|refine j4 ?_|refine j14 ?_)|(refine jc ?_;first|refine c1 ?_|refine c2 ?_|refine c5 ?_|refine c6 ?_)|refine n1 ?_)|(refine c9 (fun h=>?_) (fun h=>?_)<;>((try simp only [Bool.or_eq_true, Bool.and_eq_true, Bool.or_eq_false_iff, Bool.and_eq_false_iff, Bool.not_eq_true', Bool.not_eq_false', decide_eq_true_eq, decide_eq_false_iff_not, Bool.false_eq_true, Bool.true_eq_false, reduceCtorEq] at h) <;> (try simp (disch := omega) only [sb_bt, w64, Int.reduceAdd, Int.reduceToNat, Int.toNat_natCast, not_true_eq_false, false_or] at h) <;> (try (exfalso; omega)))))
      refine lj_calls rfl rfl rfl q (fun x σ2 hx => ?_) (by rintro x σ2 ⟨_, _, h, _⟩; cases h)
      obtain ⟨w', hw', hx1, hx2⟩ := hx
      cases hx1
      subst hx2
      repeat' (first|(first|(refine jl ?_;first|refine j1 ?_|refine j4 ?_)|(refine jc ?_;first|refine c2 ?_|refine c6 ?_)|refine n1 ?_|refine n10 ?_)|(refine c9 (fun h=>?_) (fun h=>?_)<;>((try simp only [Bool.or_eq_true, Bool.and_eq_true, Bool.or_eq_false_iff, Bool.and_eq_false_iff, Bool.not_eq_true', Bool.not_eq_false', decide_eq_true_eq, decide_eq_false_iff_not, Bool.false_eq_true, Bool.true_eq_false, reduceCtorEq] at h) <;> (try simp (disch := omega) only [sb_bt, w64, Int.reduceAdd, Int.reduceToNat, Int.toNat_natCast, not_true_eq_false, false_or] at h) <;> (try (exfalso; omega)))))
      refine lj_to rfl rfl rfl (q_white hw' hi (by omega) (by omega)) ?_
      repeat' (first|(first|(refine jl ?_;first|refine j6 ?_)))
      have hwb := whG_le false (s.data.toList.drop (a + k))
      rw [List.length_drop, hlen] at hwb
      have hwb' : whL (s.data.toList.drop (a + k)) ≤ s.size - (a + k) := hwb
      refine nx_forS (a + k + whL (s.data.toList.drop (a + k)), w', acc ++ [{ t with pl := a }]) ⟨by dsimp only; omega, hw', ?_, ?_, h5⟩ (by dsimp only; omega) ⟨⟨_, rfl, fun _ _ h => h⟩, trivial⟩ (St.le_refl _)
      · dsimp only
        rw [List.length_append, List.length_singleton]
        omega
      · dsimp only
        rw [List.append_assoc]
        exact h4
  · rw [scanR_end hlt] at h4 h5
    repeat' (first|(first|(refine jl ?_;first|refine j1 ?_|refine j4 ?_|refine j14 ?_)|(refine jc ?_;first|refine c1 ?_|refine c2 ?_|refine c7 ?_|refine c8 ?_)|refine n1 ?_|refine n3 ?_|refine n7 ?_|refine n8 ?_|refine n11 ?_)|(refine c9 (fun h=>?_) (fun h=>?_)<;>((try simp only [Bool.or_eq_true, Bool.and_eq_true, Bool.or_eq_false_iff, Bool.and_eq_false_iff, Bool.not_eq_true', Bool.not_eq_false', decide_eq_true_eq, decide_eq_false_iff_not, Bool.false_eq_true, Bool.true_eq_false, reduceCtorEq] at h) <;> (try simp (disch := omega) only [sb_bt, w64, Int.reduceAdd, Int.reduceToNat, Int.toNat_natCast, not_true_eq_false, false_or] at h) <;> (try (exfalso; omega)))))
    have hR : scanR s (whL s.data.toList) = (acc, none) := Prod.ext (by rw [← h4, List.append_nil]) h5.symm
    rw [hV, hR]
    refine ⟨w, St.le_none hle hw, ?_⟩
    exact gives (scan_le hle hid1 nwi) (Fin.refl _ _ _)
/-! ### LexBack -/
theorem back_plain {s : ByteArray} (hs : s.size ≤ 2000) : goodT (scanV s).1 ∧ (bk (scanV s).1).length ≤ 4000 ∧ ∀ J : ByteArray, J.data.toList = bk (scanV s).1 → ∃ us, scanV J = (us, 0, 0) ∧ us.map zp = (scanV s).1.map zp := by
  have hw := whG_le false s.data.toList
  have hlen := bl_len s
  obtain ⟨h1, h2⟩ := good_scan _ (0 + whL s.data.toList) (s.data.toList.drop (whL s.data.toList)) (Nat.le_refl _)
  rw [List.length_drop] at h2
  rw [scanV_W (by omega)]
  dsimp only
  change goodT (scanW 0 s.data.toList).1 at h1
  change (bk (scanW 0 s.data.toList).1).length ≤ _ at h2
  refine ⟨h1, by omega, fun J hJ => ?_⟩
  have hjl := bl_len J
  rw [hJ] at hjl
  obtain ⟨us, e1, e2⟩ := scan_back _ h1 0
  refine ⟨us, ?_, e2⟩
  rw [scanV_W (by omega), hJ, e1]
  rfl
theorem eqN_tkc (t : Tk) : eqN Tryd.prog 5 31 (.agg (tkc t)) (.agg (tkc t)) = some true := eq_tkc t rfl
theorem zp_get {ts us : List Tk} (h : us.map zp = ts.map zp) {i : Nat} {t : Tk} (hi : ts[i]? = some t) : ∃ q, us[i]? = some { t with pl := q } := by
  have h1 := congrArg (·[i]?) h
  simp only [List.getElem?_map, hi, Option.map_some] at h1
  cases hu : us[i]? with
  | none => rw [hu] at h1; cases h1
  | some u =>
    rw [hu] at h1
    have h2 : zp u = zp t := by simpa using h1
    refine ⟨u.pl, ?_⟩
    obtain ⟨a, b, c, d, e⟩ := u
    obtain ⟨a', b', c', d', e'⟩ := t
    simp only [zp, Tk.mk.injEq] at h2
    obtain ⟨rfl, rfl, rfl, rfl, _⟩ := h2
    rfl
theorem rows_at {L us : List Tk} {i : Nat} {t u : Tk} (h1 : L[i]? = some t) (h2 : us[i]? = some u) : ((L.take i ++ us.drop i).map tkc)[0 + ((i : Nat) : Int).toNat]? = some (tkc u) ∧ ((L.take i ++ us.drop i).map tkc).set (0 + ((i : Nat) : Int).toNat) (tkc t) = ((L.take (i + 1) ++ us.drop (i + 1)).map tkc) ∧ ((L.take (i + 1) ++ us.drop (i + 1)).map tkc)[0 + ((i : Nat) : Int).toNat]? = some (tkc t) := by
  have hi := (List.getElem?_eq_some_iff.1 h1).1
  have hu := (List.getElem?_eq_some_iff.1 h2).1
  have hl : (L.take i).length = i := by rw [List.length_take]; omega
  have hd : us.drop i = u :: us.drop (i + 1) := by
    rw [List.drop_eq_getElem_cons hu, (List.getElem?_eq_some_iff.1 h2).2]
  have ht : L.take (i + 1) = L.take i ++ [t] := by rw [List.take_add_one, h1]; rfl
  rw [Nat.zero_add]
  refine ⟨get_map tkc ?_, ?_, get_map tkc ?_⟩
  · rw [List.getElem?_append_right (by omega), hl, Nat.sub_self, hd]; rfl
  · rw [Int.toNat_natCast, ← List.map_set, List.set_append_right _ _ (by omega), hl, Nat.sub_self, hd, ht, List.set_cons_zero, List.append_assoc]; rfl
  · rw [ht, List.append_assoc, List.getElem?_append_right (by omega), hl, Nat.sub_self]; rfl
set_option maxHeartbeats 4000000 in
theorem p_back14 (s : ByteArray) : Pure Tryd.prog 3 [.v (.string s)] (.v (.bool true)) := by
  refine enterW Tryd.func3 rfl rfl rfl rfl (fun σ => ?_)
  have k0 := p_awake14
  by_cases hs : 2000 < s.size
  · repeat' (first|(first|(refine jl ?_;first|refine j1 ?_|refine j4 ?_|refine jp (k0) ?_)|(refine jc ?_;first|refine c1 ?_|refine c2 ?_|refine c7 ?_)|refine n2 ?_|refine n11 ?_)|(refine c9 (fun h=>?_) (fun h=>?_)<;>((try simp only [Bool.or_eq_true, Bool.and_eq_true, Bool.or_eq_false_iff, Bool.and_eq_false_iff, Bool.not_eq_true', Bool.not_eq_false', decide_eq_true_eq, decide_eq_false_iff_not, Bool.false_eq_true, Bool.true_eq_false, reduceCtorEq] at h) <;> (try simp (disch := omega) only [sb_bt, w64, Int.reduceAdd, Int.reduceToNat, Int.toNat_natCast, not_true_eq_false, false_or] at h) <;> (try (exfalso; omega)))))
    all_goals exact gives (by repeat' (first | exact St.le_refl _ | refine St.le_any ?_)) (Fin.refl _ _ _)
  · have k1 := p_scan s
    have hok := @ok_scan s
    have hlen := @scan_len s
    obtain ⟨hg, hbl, hback⟩ := back_plain (s := s) (by omega)
    generalize scanV s = V at *
    obtain ⟨l, a, e⟩ := V
    dsimp only at k1 hok hlen hg hbl hback
    have hln : (l.map tkc).length = l.length := List.length_map ..
    repeat' (first|(first|(refine jl ?_;first|refine j1 ?_|refine j4 ?_|refine jp (k1) ?_)|(refine jc ?_;first|refine c1 ?_|refine c2 ?_|refine c5 ?_|refine c6 ?_)|refine n1 ?_)|(refine c9 (fun h=>?_) (fun h=>?_)<;>((try simp only [Bool.or_eq_true, Bool.and_eq_true, Bool.or_eq_false_iff, Bool.and_eq_false_iff, Bool.not_eq_true', Bool.not_eq_false', decide_eq_true_eq, decide_eq_false_iff_not, Bool.false_eq_true, Bool.true_eq_false, reduceCtorEq] at h) <;> (try simp (disch := omega) only [sb_bt, w64, Int.reduceAdd, Int.reduceToNat, Int.toNat_natCast, not_true_eq_false, false_or] at h) <;> (try (exfalso; omega)))))
    refine cj_for (fun x : Nat × ByteArray => x.1 ≤ l.length ∧ x.2.data.toList ++ bk (l.drop x.1) = bk l) (fun x => [(6, .v (.string x.2)), (7, .v (.int .i64 x.1))]) (fun _ => σ) (fun x => l.length - x.1) (0, ⟨#[]⟩) ⟨Nat.zero_le _, rfl⟩ ⟨⟨_, rfl, fun _ _ h => h⟩, ⟨_, rfl, fun _ _ h => h⟩, trivial⟩ (St.le_refl _) (fun x hx => ?_)
    obtain ⟨i, acc⟩ := x
    obtain ⟨hi, h3⟩ := hx
    dsimp only at hi h3 ⊢
    rcases hd : l.drop i with _ | ⟨t, r⟩
    · have h0 := dropn hd
      rw [hd] at h3
      have hJ : acc.data.toList = bk l := by rw [← h3]; simp [bk]
      have hz : acc.size ≤ 4000 := by rw [← bl_len, hJ]; exact hbl
      obtain ⟨us, e1, e2⟩ := hback acc hJ
      have hul : us.length = l.length := by
        have := congrArg List.length e2
        rwa [List.length_map, List.length_map] at this
      have q := q_scanO acc (by omega) σ
      rw [e1] at q
      dsimp only at q
      rw [hul] at q
      repeat' (first|(first|(refine jl ?_;first|refine j1 ?_|refine j4 ?_)|(refine jc ?_;first|refine c1 ?_|refine c2 ?_|refine c8 ?_)|refine n1 ?_|refine n3 ?_|refine n7 ?_|refine n8 ?_)|(refine c9 (fun h=>?_) (fun h=>?_)<;>((try simp only [Bool.or_eq_true, Bool.and_eq_true, Bool.or_eq_false_iff, Bool.and_eq_false_iff, Bool.not_eq_true', Bool.not_eq_false', decide_eq_true_eq, decide_eq_false_iff_not, Bool.false_eq_true, Bool.true_eq_false, reduceCtorEq] at h) <;> (try simp (disch := omega) only [sb_bt, w64, Int.reduceAdd, Int.reduceToNat, Int.toNat_natCast, not_true_eq_false, false_or] at h) <;> (try (exfalso; omega)))))
      refine lj_calls rfl rfl rfl q (fun x σ2 hx => ?_) (by rintro x σ2 ⟨_, _, h, _⟩; cases h)
      obtain ⟨w, hw, hx1, hx2⟩ := hx
      cases hx1
      subst hx2
      rcases hl0 : l with _ | ⟨x0, l0⟩
      · subst hl0
        have hln0 : (List.map tkc ([] : List Tk)).length = 0 := rfl
        have hln1 : ([] : List Tk).length = 0 := rfl
        repeat' (first|(first|(refine jl ?_;first|refine j7 ?_|refine j8 ?_|refine j1 ?_|refine j4 ?_|refine j9 ?_|refine jff ?_)|(refine jc ?_;first|refine c1 ?_|refine c2 ?_|refine c5 ?_|refine c6 ?_)|refine n1 ?_)|(refine c9 (fun h=>?_) (fun h=>?_)<;>((try simp only [Bool.or_eq_true, Bool.and_eq_true, Bool.or_eq_false_iff, Bool.and_eq_false_iff, Bool.not_eq_true', Bool.not_eq_false', decide_eq_true_eq, decide_eq_false_iff_not, Bool.false_eq_true, Bool.true_eq_false, reduceCtorEq] at h) <;> (try simp (disch := omega) only [sb_bt, w64, Int.reduceAdd, Int.reduceToNat, Int.toNat_natCast, not_true_eq_false, false_or] at h) <;> (try (exfalso; omega)))))
        refine cj_for (fun i : Nat => i ≤ ([] : List Tk).length) (fun i => [(11, .v (.int .i64 i))]) (fun i => σ.set w (.row 7 31 ((([] : List Tk).take i ++ us.drop i).map tkc))) (fun i => ([] : List Tk).length - i) 0 (Nat.zero_le _) ⟨⟨_, rfl, fun _ _ h => h⟩, trivial⟩ (by rw [List.take_zero, List.drop_zero, List.nil_append]; exact St.le_refl _) (fun i hi => ?_)
        rcases hd : ([] : List Tk).drop i with _ | ⟨t, r⟩
        · have h0 := dropn hd
          repeat' (first|(first|(refine jl ?_;first|refine j1 ?_|refine j4 ?_|refine jp (k0) ?_)|(refine jc ?_;first|refine c1 ?_|refine c2 ?_|refine c7 ?_|refine c8 ?_)|refine n1 ?_|refine n3 ?_|refine n7 ?_|refine n8 ?_|refine n11 ?_)|(refine c9 (fun h=>?_) (fun h=>?_)<;>((try simp only [Bool.or_eq_true, Bool.and_eq_true, Bool.or_eq_false_iff, Bool.and_eq_false_iff, Bool.not_eq_true', Bool.not_eq_false', decide_eq_true_eq, decide_eq_false_iff_not, Bool.false_eq_true, Bool.true_eq_false, reduceCtorEq] at h) <;> (try simp (disch := omega) only [sb_bt, w64, Int.reduceAdd, Int.reduceToNat, Int.toNat_natCast, not_true_eq_false, false_or] at h) <;> (try (exfalso; omega)))))
          exact gives (St.le_any (St.le_refl _) hw) (Fin.refl _ _ _)
        · rw [List.drop_nil] at hd
          cases hd
      · have hlast : ∃ t, l[l.length - 1]? = some t := by
          have hp : 0 < l.length := by rw [hl0]; simp
          exact ⟨_, List.getElem?_eq_getElem (by omega)⟩
        obtain ⟨tz, htz⟩ := hlast
        have hp : 0 < l.length := by rw [hl0]; simp
        rw [← hl0]
        have htk := get_map tkc htz
        have hwl : IntKind.i64.wrap (((l.map tkc).length : Int) - 1) = ((l.length - 1 : Nat) : Int) := by rw [w64 (by omega) (by omega)]; omega
        have htk2 : (l.map tkc)[(IntKind.i64.wrap (((l.map tkc).length : Int) - 1)).toNat]? = some (tkc tz) := by rw [hwl]; exact htk
        repeat' (first|(first|(refine jl ?_;first|refine j7 ?_|refine j8 ?_|refine j1 ?_|refine j4 ?_|refine j9 ?_|refine ji3 ?_|refine jp (k0) ?_)|(refine jc ?_;first|refine c1 ?_|refine c2 ?_|refine c5 ?_|refine c6 ?_|refine c7 ?_)|refine n1 ?_|refine n2 ?_|refine n11 ?_)|(refine c9 (fun h=>?_) (fun h=>?_)<;>((try simp only [Bool.or_eq_true, Bool.and_eq_true, Bool.or_eq_false_iff, Bool.and_eq_false_iff, Bool.not_eq_true', Bool.not_eq_false', decide_eq_true_eq, decide_eq_false_iff_not, Bool.false_eq_true, Bool.true_eq_false, reduceCtorEq] at h) <;> (try simp (disch := omega) only [sb_bt, w64, Int.reduceAdd, Int.reduceToNat, Int.toNat_natCast, not_true_eq_false, false_or] at h) <;> (try (exfalso; omega)))))
        · exact gives (St.le_any (St.le_refl _) hw) (Fin.refl _ _ _)
        · refine cj_for (fun i : Nat => i ≤ l.length) (fun i => [(11, .v (.int .i64 i))]) (fun i => σ.set w (.row 7 31 ((l.take i ++ us.drop i).map tkc))) (fun i => l.length - i) 0 (Nat.zero_le _) ⟨⟨_, rfl, fun _ _ h => h⟩, trivial⟩ (by rw [List.take_zero, List.drop_zero, List.nil_append]; exact St.le_refl _) (fun i hi => ?_)
          rcases hd : l.drop i with _ | ⟨t, r⟩
          · have h0 := dropn hd
            repeat' (first|(first|(refine jl ?_;first|refine j1 ?_|refine j4 ?_|refine jp (k0) ?_)|(refine jc ?_;first|refine c1 ?_|refine c2 ?_|refine c7 ?_|refine c8 ?_)|refine n1 ?_|refine n3 ?_|refine n7 ?_|refine n8 ?_|refine n11 ?_)|(refine c9 (fun h=>?_) (fun h=>?_)<;>((try simp only [Bool.or_eq_true, Bool.and_eq_true, Bool.or_eq_false_iff, Bool.and_eq_false_iff, Bool.not_eq_true', Bool.not_eq_false', decide_eq_true_eq, decide_eq_false_iff_not, Bool.false_eq_true, Bool.true_eq_false, reduceCtorEq] at h) <;> (try simp (disch := omega) only [sb_bt, w64, Int.reduceAdd, Int.reduceToNat, Int.toNat_natCast, not_true_eq_false, false_or] at h) <;> (try (exfalso; omega)))))
            exact gives (St.le_any (St.le_refl _) hw) (Fin.refl _ _ _)
          · obtain ⟨g1, g2, g3⟩ := dropc hd
            have g4 := get_map tkc g3
            obtain ⟨q, hq⟩ := zp_get e2 g3
            obtain ⟨h5, h6, h7⟩ := rows_at g3 hq
            repeat' (first|(first|(refine jl ?_;first|refine jbl ?_|refine j1 ?_|refine j4 ?_|refine j6 ?_|refine ji1 ?_|refine ji4 ?_|refine jse h5 h6 ?_)|(refine dl ?_;first|refine dbl ?_|refine d1 ?_|refine d4 ?_|refine dne ?_|refine di1 ?_|refine di4 ?_|refine d14 (he := h7) (he' := h7) ?_)|(refine jc ?_;first|refine c1 ?_|refine c2 ?_|refine c5 ?_|refine c6 ?_|refine cq ?_)|refine n1 ?_|refine n10 ?_)|(refine c9 (fun h=>?_) (fun h=>?_)<;>((try simp only [Bool.or_eq_true, Bool.and_eq_true, Bool.or_eq_false_iff, Bool.and_eq_false_iff, Bool.not_eq_true', Bool.not_eq_false', decide_eq_true_eq, decide_eq_false_iff_not, Bool.false_eq_true, Bool.true_eq_false, reduceCtorEq] at h) <;> (try simp (disch := omega) only [sb_bt, w64, Int.reduceAdd, Int.reduceToNat, Int.toNat_natCast, not_true_eq_false, false_or] at h) <;> (try (exfalso; omega)))))
            exact nx_forS (i + 1) (by omega) (by omega) ⟨⟨_, rfl, wk1 (by omega)⟩, trivial⟩ (by (try rw [St.set_set]); exact St.le_refl _)
    · obtain ⟨g1, g2, g3⟩ := dropc hd
      have g4 := get_map tkc g3
      obtain ⟨o1, o2, o3, o4⟩ := hok t (List.mem_of_getElem? g3)
      have k3 := p_textT t o1 o2 (by omega)
      rw [hd] at h3
      have hz := congrArg List.length h3
      rw [List.length_append, bl_len, bk, List.length_append, bl_len] at hz
      repeat' (first|(first|(refine jl ?_;first|refine jbl ?_|refine j1 ?_|refine j4 ?_|refine j6 ?_|refine j25 ?_|refine ji1 ?_|refine jp (k3) ?_)|(refine jc ?_;first|refine c1 ?_|refine c2 ?_|refine c5 ?_|refine c6 ?_)|refine n1 ?_|refine n10 ?_)|(refine c9 (fun h=>?_) (fun h=>?_)<;>((try simp only [Bool.or_eq_true, Bool.and_eq_true, Bool.or_eq_false_iff, Bool.and_eq_false_iff, Bool.not_eq_true', Bool.not_eq_false', decide_eq_true_eq, decide_eq_false_iff_not, Bool.false_eq_true, Bool.true_eq_false, reduceCtorEq] at h) <;> (try simp (disch := omega) only [sb_bt, w64, Int.reduceAdd, Int.reduceToNat, Int.toNat_natCast, not_true_eq_false, false_or] at h) <;> (try (exfalso; omega)))))
      · refine nx_forS (i + 1, acc ++ textT t ++ ⟨#[32]⟩) ⟨by dsimp only; omega, ?_⟩ (by dsimp only; omega) ⟨⟨_, rfl, fun _ _ h => h⟩, ⟨_, rfl, wk1 (by omega)⟩, trivial⟩ (St.le_refl _)
        dsimp only
        rw [g2, ← h3, bk, if_neg h]
        simp [ByteArray.data_append]
      · have h7 : t.k = 7 := by omega
        refine nx_forS (i + 1, acc ++ textT t) ⟨by dsimp only; omega, ?_⟩ (by dsimp only; omega) ⟨⟨_, rfl, fun _ _ h => h⟩, ⟨_, rfl, wk1 (by omega)⟩, trivial⟩ (St.le_refl _)
        dsimp only
        rw [g2, ← h3, bk, if_pos h7]
        simp [ByteArray.data_append]
end Go.Proofs.YtfaaokekgljnbaaDoor.Ab

/- From a contract over abstract values to the row's own words. -/
set_option linter.unusedVariables false
set_option linter.unusedSimpArgs false
set_option maxRecDepth 20000
namespace Go.Proofs.YtfaaokekgljnbaaDoor.Ab
open Go Go.RowKit Go Go.RowKit

def k0 (w : World) : Cx := { ρ := fun _ => none, top := 0, σ := fun _ => none, base := w.heap.size, w := w }
theorem k0_ok {w : World} (hg : Ground w.heap.size w) : Ok (k0 w) := ⟨fun id h => absurd rfl h, fun id id' b h => absurd rfl h, fun id b h => absurd rfl h, Nat.le_refl _, (fun id o h => by cases h), hg⟩
theorem k0_live (w : World) (b : Nat) : ¬ (k0 w).live b := fun ⟨id, h, _⟩ => h rfl
theorem pure_start {P : Program} {f : FuncId} {args : List AV} {x : Value} (h : Pure P f args (.v x)) (w : World) (hg : Ground w.heap.size w) (vs : List Value) (hv : Reps (k0 w) args vs) : Calls P f vs.toArray w (fun e w' => e = .returned x ∧ Below w.heap.size w w') :=
  (h _ (k0 w) vs rfl (k0_ok hg) hv).mono fun e w' ⟨k', e', h1, h2, h3, h4, h5, h6⟩ => by
    subst h5; subst h1
    cases e with
    | returned v =>
      cases h4
      exact ⟨rfl, h3.os, h3.tape, h3.output, h3.size, fun b hb => (h3.frz b hb (k0_live w b)).1⟩
    | panicked ch => exact h4.elim
    | outgrown => exact h4.elim
theorem reps_nil (k : Cx) : Reps k [] [] := ⟨rfl, fun j a u h _ => by simp at h⟩
theorem reps_cons {k : Cx} {a : AV} {v : Value} {l : List AV} {vs : List Value} (h : Rep k a v) (h' : Reps k l vs) : Reps k (a :: l) (v :: vs) := by
  refine ⟨by simp [h'.1], fun j b u hb hu => ?_⟩
  cases j with
  | zero => simp at hb hu; subst hb; subst hu; exact h
  | succ j => exact h'.2 j b u (by simpa using hb) (by simpa using hu)

/-- What is told of a slice of integers that came in. -/
def IsRow (k : IntKind) (w : World) (a : Option Addr) (len cap : Nat) (zs : List Int) : Prop :=
  (a = none ∧ len = 0 ∧ cap = 0 ∧ zs = []) ∨
  ∃ x, a = some x ∧ len ≤ cap ∧ cap ≤ maxLen ∧ zs.length = cap ∧ (∀ i, i < zs.length → w.cell? (x.add i) = some (.int k (zs.getD i 0))) ∧ ∀ n ∈ zs, (Lit.int k n).wf = true
theorem okWide_spot {P : Program} {w : World} {base : Nat} {t e : TypeId} {a : Addr} {len cap : Nat} (ht : P.underlying t = some (.slice e)) (h : Value.okWide P w .any base t (.slice (some a) len cap)) : a.spot = none ∧ a.block < w.heap.size := by
  have h' : Cell.ok P w .any base t (.slice (some a) len cap) := by
    simpa [Value.okWide, Cell.okWide, ht] using h
  have h2 : len ≤ cap ∧ (cap : Int) ≤ IntKind.i64.max ∧ w.has P .any base a e cap := by simpa [Cell.ok, ht] using h'
  obtain ⟨_, _, _, h3, row, cells, h4, _⟩ := h2
  refine ⟨h3, ?_⟩
  unfold World.shape? at h4
  split at h4
  · rename_i h5; exact (Array.getElem?_eq_some_iff.1 h5).1
  · cases h4
theorem isrow_rep {P : Program} {w : World} {base : Nat} {t e : TypeId} {k : IntKind} {a : Option Addr} {len cap : Nat} {zs : List Int} (ht : P.underlying t = some (.slice e)) (hw : Value.okWide P w .any base t (.slice a len cap)) (h : IsRow k w a len cap zs) : Rep (k0 w) (.sl none false 1 ((zs.take len).map fun z => [.v (.int k z)])) (.slice a len cap) := by
  rcases h with ⟨rfl, rfl, rfl, rfl⟩ | ⟨x, rfl, h1, h2, h3, h4, h5⟩
  · exact .slnil (by simp)
  · obtain ⟨hs, hlt⟩ := okWide_spot ht hw
    obtain ⟨b, o, spot⟩ := x
    simp only at hs hlt
    subst hs
    have hl : ((zs.take len).map fun z => [AV.v (.int k z)]).length = len := by simp; omega
    have hgoal : Rep (k0 w) (.sl none false 1 ((zs.take len).map fun z => [AV.v (.int k z)])) (.slice (some ⟨b, o, none⟩) ((zs.take len).map fun z => [AV.v (.int k z)]).length cap) := by
      have hget : ∀ (i j : Nat) e a, ((zs.take len).map fun z => [AV.v (.int k z)])[i]? = some e → e[j]? = some a → j = 0 ∧ i < zs.length ∧ a = .v (.int k (zs.getD i 0)) := fun i j e a he ha => by
        simp only [List.getElem?_map, Option.map_eq_some_iff] at he
        obtain ⟨z, hz, rfl⟩ := he
        rw [List.getElem?_take] at hz
        split at hz
        · cases j with
          | zero =>
            have : zs.getD i 0 = z := by rw [List.getD_eq_getElem?_getD, hz]; rfl
            simp at ha
            exact ⟨rfl, (List.getElem?_eq_some_iff.1 hz).1, by rw [← ha, this]⟩
          | succ j => simp at ha
        · cases hz
      refine .sl (f := fun i j => .int k (zs.getD i 0)) (by simp) (by omega) (by omega) (by simp) (fun i e he => ?_) (fun _ => ⟨hlt, k0_live w b⟩) (fun i j e a he ha => ?_) (fun i j e a he ha => ?_)
      · simp only [List.getElem?_map, Option.map_eq_some_iff] at he
        obtain ⟨_, _, rfl⟩ := he
        rfl
      · obtain ⟨rfl, hi, _⟩ := hget i j e a he ha
        have := h4 i hi
        rw [Go.WideShapes.add_plain] at this
        refine ⟨?_, rfl⟩
        simpa [k0] using this
      · obtain ⟨rfl, hi, rfl⟩ := hget i j e a he ha
        exact .v rfl
    rw [hl] at hgoal
    exact hgoal
theorem isrow_mem {k : IntKind} {w : World} {a : Option Addr} {len cap : Nat} {zs : List Int} (h : IsRow k w a len cap zs) : ∀ n ∈ zs, (Lit.int k n).wf = true := by
  rcases h with ⟨_, _, _, rfl⟩ | ⟨_, _, _, _, _, _, h⟩
  · intro n hn; cases hn
  · exact h
theorem wf_u8 {n : Int} (h : (Lit.int .u8 n).wf = true) : 0 ≤ n ∧ n < 256 := by
  have := bounds_u8 h
  omega
theorem wf_i64 {n : Int} (h : (Lit.int .i64 n).wf = true) : -9223372036854775808 ≤ n ∧ n < 9223372036854775808 := by
  have := bounds_i64 h
  omega
theorem isrow_bytes {w : World} {a : Option Addr} {len cap : Nat} {zs : List Int} (h : IsRow .u8 w a len cap zs) : ((zs.take len).map fun z => [AV.v (.int .u8 z)]) = bys ((zs.take len).map fun z => UInt8.ofNat z.toNat) := by
  unfold bys
  rw [List.map_map]
  refine List.map_congr_left fun z hz => ?_
  obtain ⟨h0, h1⟩ := wf_u8 (isrow_mem h z (List.mem_of_mem_take hz))
  simp only [Function.comp_apply, List.cons.injEq, AV.v.injEq, Value.int.injEq, true_and, and_true]
  have : (UInt8.ofNat z.toNat).toNat = z.toNat := by simp; omega
  omega
end Go.Proofs.YtfaaokekgljnbaaDoor.Ab

/- What came in, opened: from the row's own reading to abstract values, for any type of numbers, strings, bools, structs, arrays and slices. -/
set_option linter.unusedVariables false
set_option linter.unusedSimpArgs false
set_option maxRecDepth 20000
namespace Go.Proofs.YtfaaokekgljnbaaDoor.Ab
open Go Go.RowKit

def inFields (P : Program) (R : TypeId → List AV → Prop) : List Field → List AV → Prop
  | [], cs => cs = []
  | f :: fs, cs => ∃ a b, cs = a ++ b ∧ a.length = P.cellsOf f.type ∧ R f.type a ∧ inFields P R fs b
def inElems (R : List AV → Prop) (sz : Nat) : Nat → List AV → Prop
  | 0, cs => cs = []
  | n + 1, cs => ∃ a b, cs = a ++ b ∧ a.length = sz ∧ R a ∧ inElems R sz n b
/-- The cells of a value of type t. -/
def isAV (P : Program) : Nat → TypeId → List AV → Prop
  | 0, _, _ => False
  | n + 1, t, cs => match P.underlying t with
    | some .bool => ∃ b, cs = [.v (.bool b)]
    | some (.int k) => ∃ m, cs = [.v (.int k m)] ∧ (Lit.int k m).wf = true
    | some .string => ∃ s, cs = [.v (.string s)] ∧ s.size ≤ maxLen
    | some (.slice e) => ∃ els, cs = [.sl none false (P.cellsOf e) els] ∧ els.length ≤ maxLen ∧ ∀ el ∈ els, el.length = P.cellsOf e ∧ isAV P n e el
    | some (.struct fs) => inFields P (isAV P n) fs.toList cs
    | some (.array m e) => inElems (isAV P n e) (P.cellsOf e) m cs
    | _ => False
def tile (P : Program) : List Field → Nat → Option Nat
  | [], o => some o
  | f :: fs, o => if f.offset = o then tile P fs (o + P.cellsOf f.type) else none
/-- Types that are opened so. -/
def plainT (P : Program) : Nat → TypeId → Bool
  | 0, _ => false
  | n + 1, t => match P.underlying t with
    | some .bool | some (.int _) | some .string => true
    | some (.slice e) => Nat.blt 0 (P.cellsOf e) && plainT P n e
    | some (.struct fs) => decide (tile P fs.toList 0 = some (P.cellsOf t)) && fs.toList.all (fun f => plainT P n f.type)
    | some (.array m e) => decide (m * P.cellsOf e = P.cellsOf t) && plainT P n e
    | _ => false
theorem CellsRep.append {k : Cx} {a b : List AV} {u v : List Value} (h : CellsRep k a u) (h' : CellsRep k b v) : CellsRep k (a ++ b) (u ++ v) := by
  refine ⟨by simp [h.1, h'.1], fun j x y hx hy => ?_⟩
  rcases Nat.lt_or_ge j a.length with hlt | hge
  · rw [List.getElem?_append_left hlt] at hx
    rw [List.getElem?_append_left (by rw [h.1]; exact hlt)] at hy
    exact h.2 j x y hx hy
  · rw [List.getElem?_append_right hge] at hx
    rw [List.getElem?_append_right (by rw [h.1]; exact hge), h.1] at hy
    exact h'.2 _ x y hx hy
theorem cellsRep_one {k : Cx} {a : AV} {u : Value} (h1 : u.oneCell' = true) (h : Rep k a u) : CellsRep k [a] [u] := by
  refine ⟨rfl, fun j x y hx hy => ?_⟩
  cases j with
  | zero => simp at hx hy; subst hx; subst hy; exact ⟨h1, h⟩
  | succ j => simp at hx
theorem cellsRep_nil (k : Cx) : CellsRep k [] [] := ⟨rfl, fun j x y hx => by simp at hx⟩
section
variable {H : Type} {enc : TypeId × Value → H} {P : Program} {w : World} {held : Bool}
theorem open_fields {n fuel : Nat} (ih : ∀ (t : TypeId) (cs : List Value) (x : DataW H × List MemPlace), plainT P n t = true → DataW.trod enc P w 0 (fun _ => true) held fuel t cs = some x → ∃ avs, isAV P n t avs ∧ CellsRep (k0 w) avs cs) :
    ∀ (fs : List Field) (o e : Nat) (cs : List Value), tile P fs o = some e → cs.length = e → fs.all (fun f => plainT P n f.type) = true →
      (∀ f ∈ fs, ∃ x, DataW.trod enc P w 0 (fun _ => true) held fuel f.type ((cs.drop f.offset).take (P.cellsOf f.type)) = some x) → ∃ avs, inFields P (isAV P n) fs avs ∧ CellsRep (k0 w) avs (cs.drop o) ∧ o ≤ e
  | [], o, e, cs, ht, hl, _, _ => by
    simp only [tile, Option.some.injEq] at ht
    exact ⟨[], rfl, by rw [List.drop_of_length_le (by omega)]; exact cellsRep_nil _, by omega⟩
  | f :: fs, o, e, cs, ht, hl, hp, hx => by
    unfold tile at ht
    split at ht
    · rename_i ho
      rw [List.all_cons, Bool.and_eq_true] at hp
      obtain ⟨avs, h1, h2, h3⟩ := open_fields ih fs _ e cs ht hl hp.2 (fun g hg => hx g (.tail _ hg))
      obtain ⟨x, hx1⟩ := hx f (.head _)
      obtain ⟨a, h4, h5⟩ := ih f.type _ x hp.1 hx1
      rw [ho] at h5
      refine ⟨a ++ avs, ⟨a, avs, rfl, ?_, h4, h1⟩, ?_, by omega⟩
      · rw [← h5.1, List.length_take, List.length_drop]; omega
      · have e1 : cs.drop o = (cs.drop o).take (P.cellsOf f.type) ++ cs.drop (o + P.cellsOf f.type) := by
          rw [← List.drop_drop, List.take_append_drop]
        rw [e1]
        exact h5.append h2
    · cases ht
theorem open_elems {n fuel : Nat} {e : TypeId} (ih : ∀ (cs : List Value) (x : DataW H × List MemPlace), DataW.trod enc P w 0 (fun _ => true) held fuel e cs = some x → ∃ avs, isAV P n e avs ∧ CellsRep (k0 w) avs cs) :
    ∀ (m : Nat) (cs : List Value), cs.length = m * P.cellsOf e → (∀ i, i < m → ∃ x, DataW.trod enc P w 0 (fun _ => true) held fuel e ((cs.drop (i * P.cellsOf e)).take (P.cellsOf e)) = some x) → ∃ avs, inElems (isAV P n e) (P.cellsOf e) m avs ∧ CellsRep (k0 w) avs cs
  | 0, cs, hl, _ => by
    have : cs = [] := List.eq_nil_of_length_eq_zero (by simpa using hl)
    subst this
    exact ⟨[], rfl, cellsRep_nil _⟩
  | m + 1, cs, hl, hx => by
    have hl' : cs.length = m * P.cellsOf e + P.cellsOf e := by rw [hl, Nat.add_mul, Nat.one_mul]
    obtain ⟨x, hx0⟩ := hx 0 (by omega)
    rw [Nat.zero_mul, List.drop_zero] at hx0
    obtain ⟨a, h1, h2⟩ := ih _ x hx0
    obtain ⟨b, h3, h4⟩ := open_elems ih m (cs.drop (P.cellsOf e)) (by rw [List.length_drop]; omega) (fun i hi => by
      obtain ⟨y, hy⟩ := hx (i + 1) (by omega)
      rw [Nat.add_mul, Nat.one_mul] at hy
      rw [List.drop_drop, Nat.add_comm (P.cellsOf e)]
      exact ⟨y, hy⟩)
    refine ⟨a ++ b, ⟨a, b, rfl, by rw [← h2.1, List.length_take]; omega, h1, h3⟩, ?_⟩
    rw [← List.take_append_drop (P.cellsOf e) cs]
    exact h2.append h4
theorem cells_get {a : Addr} {n : Nat} {cs : List Value} (h : w.cells? 0 a n = some cs) : cs.length = n ∧ ∀ j, j < n → ∃ u, cs[j]? = some u ∧ w.cell? (a.add j) = some u := by
  unfold World.cells? at h
  rw [if_pos (Nat.zero_le _)] at h
  refine ⟨by simpa using mapM_some_length h, fun j hj => ?_⟩
  have := mapM_some_get h j j (by simp [hj])
  have hl : j < cs.length := by rw [show cs.length = n by simpa using mapM_some_length h]; exact hj
  exact ⟨cs[j], List.getElem?_eq_getElem hl, by rw [this, List.getElem?_eq_getElem hl]⟩
theorem cell_plain {a : Addr} {u : Value} (h : w.cell? a = some u) : a.spot = none ∧ a.block < w.heap.size := by
  unfold World.cell? at h
  split at h
  · rename_i c t f hb
    split at h
    · cases h
    · rename_i hs
      exact ⟨by cases hh : a.spot <;> simp_all, (Array.getElem?_eq_some_iff.1 hb).1⟩
  · cases h
theorem choose_list {α : Type} {Q : Nat → α → Prop} : ∀ (n : Nat), (∀ i, i < n → ∃ x, Q i x) → ∃ l : List α, l.length = n ∧ ∀ i x, l[i]? = some x → Q i x
  | 0, _ => ⟨[], rfl, fun i x h => by simp at h⟩
  | n + 1, h => by
    obtain ⟨l, h1, h2⟩ := choose_list n (fun i hi => h i (by omega))
    obtain ⟨x, hx⟩ := h n (by omega)
    refine ⟨l ++ [x], by simp [h1], fun i y hy => ?_⟩
    rcases Nat.lt_or_ge i l.length with hlt | hge
    · rw [List.getElem?_append_left hlt] at hy
      exact h2 i y hy
    · rw [List.getElem?_append_right hge] at hy
      rcases Nat.eq_zero_or_pos (i - l.length) with h0 | h0
      · rw [h0] at hy
        simp at hy
        subst hy
        rwa [show i = n by omega]
      · rw [List.getElem?_eq_none (by simp; omega)] at hy
        cases hy
theorem open_cells : ∀ (n : Nat) (t : TypeId) (fuel : Nat) (cs : List Value) (x : DataW H × List MemPlace), plainT P n t = true → DataW.trod enc P w 0 (fun _ => true) held fuel t cs = some x → ∃ avs, isAV P n t avs ∧ CellsRep (k0 w) avs cs
  | 0, _, _, _, _, h, _ => by cases h
  | n + 1, t, fuel, cs, x, hp, h => by
    unfold plainT at hp
    split at hp
    · rename_i ht
      obtain ⟨b, rfl, _⟩ := DataW.trod_bool ht h
      exact ⟨_, by simp only [isAV, ht]; exact ⟨b, rfl⟩, cellsRep_one rfl (.v rfl)⟩
    · rename_i kk ht
      obtain ⟨m, rfl, _, hw⟩ := DataW.trod_int ht h
      exact ⟨_, by simp only [isAV, ht]; exact ⟨m, rfl, hw⟩, cellsRep_one rfl (.v rfl)⟩
    · rename_i ht
      obtain ⟨s, rfl, _, hs⟩ := DataW.trod_string ht h
      exact ⟨_, by simp only [isAV, ht]; exact ⟨s, rfl, hs⟩, cellsRep_one rfl (.v rfl)⟩
    · rename_i e ht
      rw [Bool.and_eq_true, Nat.blt_eq] at hp
      obtain ⟨hpos, hpe⟩ := hp
      rcases DataW.trod_slice ht h with ⟨rfl, _⟩ | ⟨a, len, cap, elems, rest, fu, rfl, rfl, _, _, hlc, hcm, hel, hget, hsp, _⟩
      · exact ⟨_, by simp only [isAV, ht]; exact ⟨[], rfl, by simp [maxLen], fun el h => by cases h⟩, cellsRep_one rfl (.slnil (by simp))⟩
      · obtain ⟨hrl, hrest⟩ := hsp rfl
        have hcell : ∀ i, i < len → ∃ (el : List AV × (Nat → Value)), (el.1.length = P.cellsOf e ∧ isAV P n e el.1) ∧ ∀ j b, el.1[j]? = some b → w.cell? ((a.add (i * P.cellsOf e)).add j) = some (el.2 j) ∧ (el.2 j).oneCell' = true ∧ Rep (k0 w) b (el.2 j) := fun i hi => by
          have h1 := hget i hi
          rw [List.getElem?_eq_getElem (show i < elems.length by omega), Option.bind_eq_some_iff] at h1
          obtain ⟨ci, h2, h3⟩ := h1
          obtain ⟨avs, h4, h5⟩ := open_cells n e fu ci _ hpe h3
          obtain ⟨h6, h7⟩ := cells_get h2
          refine ⟨(avs, fun j => (ci[j]?).getD undef), ⟨by rw [← h6, h5.1], h4⟩, fun j b hb => ?_⟩
          have hj : j < ci.length := by rw [h5.1]; exact (List.getElem?_eq_some_iff.1 hb).1
          obtain ⟨u, h8, h9⟩ := h7 j (by omega)
          simp only [h8, Option.getD_some]
          exact ⟨h9, h5.2 j b u hb h8⟩
        obtain ⟨els, hl, hels⟩ := choose_list len hcell
        have hav : isAV P (n + 1) t [.sl none false (P.cellsOf e) (els.map (·.1))] := by
          simp only [isAV, ht]
          refine ⟨els.map (·.1), rfl, by rw [List.length_map]; omega, fun el hm => ?_⟩
          obtain ⟨p, hpm, rfl⟩ := List.mem_map.1 hm
          obtain ⟨i, hi⟩ := List.mem_iff_getElem?.1 hpm
          exact (hels i p hi).1
        refine ⟨_, hav, cellsRep_one rfl ?_⟩
        by_cases hc0 : cap = 0
        · subst hc0
          have h0 : len = 0 := by omega
          subst h0
          rw [List.eq_nil_of_length_eq_zero hl]
          exact .sle (by simp)
        · have hplain : ∃ b o, a = ⟨b, o, none⟩ ∧ b < w.heap.size := by
            have hfirst : ∃ cs, w.cells? 0 a (P.cellsOf e) = some cs := by
              by_cases hl0 : 0 < len
              · have h1 := hget 0 hl0
                rw [List.getElem?_eq_getElem (show 0 < elems.length by omega), Option.bind_eq_some_iff] at h1
                obtain ⟨ci, h2, _⟩ := h1
                rw [Nat.zero_mul] at h2
                exact ⟨ci, by simpa [Addr.add] using h2⟩
              · have h1 := hrest 0 (by omega)
                rw [List.getElem?_eq_getElem (show 0 < rest.length by omega), Option.bind_eq_some_iff] at h1
                obtain ⟨ci, h2, _⟩ := h1
                rw [show len + 0 = 0 by omega, Nat.zero_mul] at h2
                exact ⟨ci, by simpa [Addr.add] using h2⟩
            obtain ⟨ci, h2⟩ := hfirst
            obtain ⟨_, h7⟩ := cells_get h2
            obtain ⟨u, _, h9⟩ := h7 0 hpos
            have := cell_plain h9
            simp only [Addr.add, if_true] at this
            obtain ⟨b, o, s⟩ := a
            obtain ⟨h10, h11⟩ := this
            simp only at h10 h11
            subst h10
            exact ⟨b, o, rfl, h11⟩
          obtain ⟨b, o, rfl, hb⟩ := hplain
          have hgoal : Rep (k0 w) (.sl none false (P.cellsOf e) (els.map (·.1))) (.slice (some ⟨b, o, none⟩) (els.map (·.1)).length cap) := by
            have hat : ∀ (i j : Nat) (q : List AV) (c : AV), (els.map (·.1))[i]? = some q → q[j]? = some c → ∃ p, els[i]? = some p ∧ p.1 = q ∧ w.cell? ⟨b, o + (i * P.cellsOf e + j), none⟩ = some (p.2 j) ∧ (p.2 j).oneCell' = true ∧ Rep (k0 w) c (p.2 j) := fun i j q c hq hc => by
              rw [List.getElem?_map, Option.map_eq_some_iff] at hq
              obtain ⟨p, hp1, rfl⟩ := hq
              obtain ⟨_, h12⟩ := hels i p hp1
              obtain ⟨h13, h14⟩ := h12 j c hc
              refine ⟨p, hp1, rfl, ?_, h14⟩
              have e1 : ((⟨b, o, none⟩ : Addr).add (i * P.cellsOf e)).add j = ⟨b, o + (i * P.cellsOf e + j), none⟩ := by
                rw [Addr.add_mid, Addr.add_mid, Nat.add_assoc]
              rwa [e1] at h13
            refine .sl (f := fun i j => ((els[i]?).map (fun p => p.2 j)).getD undef) (by simp) (by rw [List.length_map]; omega) (by rw [List.length_map]; omega) (by simp) (fun i q hq => ?_) (fun _ => ⟨hb, k0_live w b⟩) (fun i j q c hq hc => ?_) (fun i j q c hq hc => ?_)
            · rw [List.getElem?_map, Option.map_eq_some_iff] at hq
              obtain ⟨p, hp1, rfl⟩ := hq
              exact (hels i p hp1).1.1
            · obtain ⟨p, h15, _, h16, h17, _⟩ := hat i j q c hq hc
              simp only [h15, Option.map_some, Option.getD_some]
              exact ⟨h16, h17⟩
            · obtain ⟨p, h15, _, h16, h17, h18⟩ := hat i j q c hq hc
              simp only [h15, Option.map_some, Option.getD_some]
              exact h18
          rw [List.length_map, hl] at hgoal
          exact hgoal
    · rename_i fs ht
      rw [Bool.and_eq_true, decide_eq_true_eq] at hp
      obtain ⟨xs, fu, rfl, _, hl, hxl, hf⟩ := DataW.trod_struct ht h
      obtain ⟨avs, h1, h2, _⟩ := open_fields (fun t cs x => open_cells n t fu cs x) fs.toList 0 _ cs hp.1 hl hp.2 (fun f hfm => by
        obtain ⟨i, hi⟩ := List.mem_iff_getElem?.1 hfm
        have hi' : fs[i]? = some f := by simpa using hi
        have hlt : i < xs.length := by rw [hxl]; exact (Array.getElem?_eq_some_iff.1 hi').1
        exact ⟨xs[i], by rw [hf i f hi', List.getElem?_eq_getElem hlt]⟩)
      exact ⟨avs, by simp only [isAV, ht]; exact h1, by simpa using h2⟩
    · rename_i m e ht
      rw [Bool.and_eq_true, decide_eq_true_eq] at hp
      obtain ⟨xs, fu, rfl, _, hl, hxl, hf⟩ := DataW.trod_array ht h
      obtain ⟨avs, h1, h2⟩ := open_elems (fun cs x => open_cells n e fu cs x hp.2) m cs (by rw [hl, hp.1]) (fun i hi => ⟨xs[i], by rw [hf i hi, List.getElem?_eq_getElem (by omega)]⟩)
      exact ⟨avs, by simp only [isAV, ht]; exact h1, h2⟩
    · cases hp
/-- An argument. -/
def argAV (P : Program) (t : TypeId) (avs : List AV) : AV := match P.underlying t with
  | some (.struct _) | some (.array _ _) => .agg avs
  | _ => avs.headD (.tup [])
theorem open_arg {n base : Nat} {t : TypeId} {v : Value} {d : DataW H} {ps : List MemPlace} (hp : plainT P n t = true) (hv : Value.okWide P w .any base t v) (h : DataW.Trod enc P w 0 (fun _ => true) held t v d ps) : ∃ avs, isAV P n t avs ∧ Rep (k0 w) (argAV P t avs) v := by
  obtain ⟨fuel, hf⟩ := h
  obtain ⟨avs, h1, h2⟩ := open_cells n t fuel _ _ hp hf
  refine ⟨avs, h1, ?_⟩
  have hagg : (∃ cs, v = .agg cs) → Rep (k0 w) (.agg avs) v := by
    rintro ⟨cs, rfl⟩
    have h3 : (Value.agg cs).cells = cs := rfl
    rw [h3] at h2
    exact .agg (by simpa using h2.1) (fun j u hu => by
      have hj : j < avs.length := by rw [← h2.1]; simpa using (Array.getElem?_eq_some_iff.1 hu).1
      exact (h2.2 j _ u (List.getElem?_eq_getElem hj) (by simpa using hu)).1) (fun j a u ha hu => (h2.2 j a u ha (by simpa using hu)).2)
  have hone : v.cells.toList = [v] → Rep (k0 w) (avs.headD (.tup [])) v := fun h3 => by
    rw [h3] at h2
    obtain ⟨h4, h5⟩ := h2
    match avs, h4 with
    | [a], _ => exact (h5 0 a v rfl rfl).2
  cases n with
  | zero => cases hp
  | succ n =>
    unfold plainT at hp
    unfold argAV
    split at hp
    · rename_i ht
      rw [ht]
      simp only [Value.okWide, ht, Cell.okWide, Cell.ok] at hv
      exact hone (by cases v <;> first | rfl | (simp at hv))
    · rename_i kk ht
      rw [ht]
      simp only [Value.okWide, ht, Cell.okWide, Cell.ok] at hv
      exact hone (by cases v <;> first | rfl | (simp at hv))
    · rename_i ht
      rw [ht]
      simp only [Value.okWide, ht, Cell.okWide, Cell.ok] at hv
      exact hone (by cases v <;> first | rfl | (simp at hv))
    · rename_i e ht; rw [ht]; obtain ⟨a, l, c, rfl⟩ := Go.WideShapes.okWide_slice ht hv; exact hone rfl
    · rename_i fs ht; rw [ht]; obtain ⟨cs, rfl, _⟩ := Go.WideShapes.okWide_struct ht hv; exact hagg ⟨cs, rfl⟩
    · rename_i m e ht
      rw [ht]
      have : ∃ cs, v = .agg cs := by
        simp only [Value.okWide, ht] at hv
        obtain ⟨cs, h1, _⟩ := hv
        exact ⟨cs, h1⟩
      exact hagg this
    · cases hp
theorem list_of {α β : Type} {g : α → β} {Q : α → Prop} : ∀ (l : List β), (∀ b ∈ l, ∃ x, b = g x ∧ Q x) → ∃ xs : List α, l = xs.map g ∧ ∀ x ∈ xs, Q x
  | [], _ => ⟨[], rfl, fun x h => by cases h⟩
  | b :: l, h => by
    obtain ⟨x, rfl, hq⟩ := h b (.head _)
    obtain ⟨xs, rfl, h2⟩ := list_of l (fun c hc => h c (.tail _ hc))
    exact ⟨x :: xs, rfl, fun y hy => by
      rcases List.mem_cons.1 hy with rfl | hy
      · exact hq
      · exact h2 y hy⟩
end
end Go.Proofs.YtfaaokekgljnbaaDoor.Ab

/- Bytes that came in, opened. -/
set_option linter.unusedVariables false
set_option linter.unusedSimpArgs false
set_option maxRecDepth 20000
namespace Go.Proofs.YtfaaokekgljnbaaDoor.Ab
open Go Go.RowKit
theorem open_bytes {P : Program} {n : Nat} {t e : TypeId} {avs : List AV} (ht : P.underlying t = some (.slice e)) (he : P.underlying e = some (.int .u8)) (hc : P.cellsOf e = 1) (h : isAV P (n + 2) t avs) : ∃ l : List UInt8, avs = [.sl none false 1 (bys l)] ∧ l.length ≤ maxLen := by
  simp only [isAV, ht, he, hc] at h
  obtain ⟨els, rfl, hl, h⟩ := h
  obtain ⟨xs, rfl, _⟩ := list_of (g := fun b : UInt8 => [AV.v (.int .u8 b.toNat)]) (Q := fun _ => True) els (fun el hel => by
    obtain ⟨_, m, rfl, hm⟩ := h el hel
    obtain ⟨h0, h1⟩ := wf_u8 hm
    refine ⟨UInt8.ofNat m.toNat, ?_, trivial⟩
    have : (UInt8.ofNat m.toNat).toNat = m.toNat := by simp; omega
    simp only [this, List.cons.injEq, AV.v.injEq, Value.int.injEq, true_and, and_true]
    omega)
  exact ⟨xs, rfl, by simpa using hl⟩
end Go.Proofs.YtfaaokekgljnbaaDoor.Ab

/- Classes and facts: data, and what is found. -/
set_option linter.unusedVariables false
set_option linter.unusedSimpArgs false
set_option maxRecDepth 20000
namespace Go.Proofs.YtfaaokekgljnbaaDoor.Ab
open Go
attribute [local irreducible] thn inb endR CJ LJ OpJ DJ

def noS : ByteArray := ⟨#[]⟩
def noC : Cls := ⟨⟨#[]⟩, []⟩
def noV : Vl := ⟨0, 0, ⟨#[]⟩⟩
def isC (nm : ByteArray) (c : Cls) : Bool := decide (c.name = nm)
def isS (nm : ByteArray) (s : ByteArray) : Bool := decide (s = nm)
def isB (nm : ByteArray) (b : Bd) : Bool := decide (b.name = nm)
def findC (nm : ByteArray) (l : List Cls) : Option Cls := l.find? (isC nm)
def attrI (nm : ByteArray) (l : List ByteArray) : Int := idxG (isS nm) l 0
def attrN (nm : ByteArray) (l : List ByteArray) : Int := if attrI nm l < 0 then 0 else attrI nm l
def attrB (nm : ByteArray) (l : List ByteArray) : Bool := decide (0 ≤ attrI nm l)
end Go.Proofs.YtfaaokekgljnbaaDoor.Ab

/- Classes, facts and what changes them, that came in, opened. -/
set_option linter.unusedVariables false
set_option linter.unusedSimpArgs false
set_option maxRecDepth 20000
namespace Go.Proofs.YtfaaokekgljnbaaDoor.Ab
open Go Go.RowKit
theorem open_list {P : Program} {n : Nat} {t e : TypeId} {sz : Nat} {avs : List AV} {α : Type} (g : α → List AV) (Q : α → Prop) (ht : P.underlying t = some (.slice e)) (hc : P.cellsOf e = sz) (h : isAV P (n + 1) t avs) (he : ∀ el, isAV P n e el → ∃ x, el = g x ∧ Q x) : ∃ l : List α, avs = [.sl none false sz (l.map g)] ∧ (∀ x ∈ l, Q x) ∧ l.length ≤ maxLen := by
  simp only [isAV, ht, hc] at h
  obtain ⟨els, rfl, hl, h⟩ := h
  obtain ⟨xs, rfl, hq⟩ := list_of (g := g) (Q := Q) els (fun el hel => he el (h el hel).2)
  exact ⟨xs, rfl, hq, by simpa using hl⟩
theorem open_v {n : Nat} {avs : List AV} (h : isAV Tryd.prog (n + 2) 29 avs) : ∃ v : Vl, avs = vc v ∧ (0 ≤ v.k ∧ v.k < 256) ∧ (-9223372036854775808 ≤ v.n ∧ v.n < 9223372036854775808) := by
  obtain ⟨a, r1, rfl, _, ⟨k, rfl, hk⟩, b, r2, rfl, _, ⟨m, rfl, hm⟩, c, r3, rfl, _, ⟨s, rfl, hs⟩, rfl⟩ := h
  exact ⟨⟨k, m, s⟩, rfl, wf_u8 hk, wf_i64 hm⟩
theorem open_s {n : Nat} {avs : List AV} (h : isAV Tryd.prog (n + 1) 9 avs) : ∃ s : ByteArray, avs = str1 s ∧ True := by
  obtain ⟨s, rfl, _⟩ : ∃ s, avs = [AV.v (.string s)] ∧ s.size ≤ maxLen := h
  exact ⟨s, rfl, trivial⟩
theorem open_c {n : Nat} {avs : List AV} (h : isAV Tryd.prog (n + 3) 84 avs) : ∃ c : Cls, avs = cc c ∧ True := by
  obtain ⟨a, r1, rfl, _, ⟨s, rfl, _⟩, b, r2, rfl, _, hb, rfl⟩ := h
  obtain ⟨l, rfl, _, _⟩ := open_list (e := 9) (sz := 1) str1 (fun _ => True) (by kernel_rfl) (by kernel_rfl) hb (fun el hel => open_s hel)
  exact ⟨⟨s, l⟩, rfl, trivial⟩
theorem open_cs {n : Nat} {avs : List AV} (h : isAV Tryd.prog (n + 4) 40 avs) : ∃ l : List Cls, avs = [.sl none false 2 (l.map cc)] := by
  obtain ⟨l, rfl, _⟩ := open_list (e := 84) (sz := 2) cc (fun _ => True) (by kernel_rfl) (by kernel_rfl) h (fun el hel => open_c hel)
  exact ⟨l, rfl⟩
end Go.Proofs.YtfaaokekgljnbaaDoor.Ab
