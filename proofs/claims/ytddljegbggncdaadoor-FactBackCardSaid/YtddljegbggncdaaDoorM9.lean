/- The texts AbSq, F2, F3, F4, F5, F6, O4, one behind the other. -/
import Derived.Test.YtddljegbggncdaaDoorM1
import Derived.Test.YtddljegbggncdaaDoorM2
import Derived.Test.YtddljegbggncdaaDoorM3
import Derived.Test.YtddljegbggncdaaDoorM4
import Derived.Test.YtddljegbggncdaaDoorM5
import Derived.Test.YtddljegbggncdaaDoorM6
import Derived.Test.YtddljegbggncdaaDoorM7
import Derived.Test.YtddljegbggncdaaDoorM8
import Derived.Test.YtddljegbggncdaaDoorProg
/- Abstract values over the model's memory: a part of a string, under a guard. -/
set_option linter.unusedVariables false
set_option linter.unusedSimpArgs false
set_option maxRecDepth 20000
namespace Go.Proofs.YtddljegbggncdaaDoor.Ab
open Go
section
variable {P : Program} {nt : Nat} {ops : Array Oper} {Q : Post} {l : List Oper} {c : List (List Nat)} {m n0 : Nat} {kp : Bool} {bs : List Nat} {σ σ0 σ1 : St} {K : Fr → Prop} {K2 : Fr → St → Prop} {i : Nat} {fr : Fr} {rest : List Oper} {t : Tmp} {ty : TypeId} {pos : String} {aft : Array Edge}
theorem jsq {st : TypeId} {x : Operand} {lo hi : Option Operand} {s : ByteArray} {b k : Int} {j u : Nat} {w cc : Bool} {a : AV} (hb : cc = true → 0 ≤ b ∧ b ≤ k ∧ k ≤ s.size) (h : LJ P nt ops Q rest ((t, .mb cc (.v (.string (s.extract b.toNat k.toNat)))) :: fr) σ) (hj : (ops[j]?).bind (·.dst) = some u := by exact rfl) (hl : lk fr u = some a := by exact rfl) (hg : gc a w = some cc := by exact rfl) (ht : P.underlying st = some .string := by exact rfl) (hx : ev (strip fr) x = some (.v (.string s)) := by exact rfl) (hlo : bound (ev (strip fr)) 0 lo = some b := by exact rfl) (hhi : bound (ev (strip fr)) s.size hi = some k := by exact rfl) (hn : Needs cc fr (Op.slice st x lo hi none).operands.toList := by repeat' (first | exact True.intro | refine And.intro ?_ ?_ | exact nd0 rfl | exact nd1 rfl | exact nd2 rfl | exact nd3 rfl | exact nd4 rfl)) (hd : fits nt (some t) = true := by exact rfl) : LJ P nt ops Q (⟨some t, .slice st x lo hi none, ty, pos, aft, some (j, w)⟩ :: rest) fr σ :=
  lj_q hd hj hl hg hn (fun hc R hR => opj_slice_str rfl ht hx hlo hhi (hb hc).1 (hb hc).2.1 (hb hc).2.2 hR) h
theorem dsq {st : TypeId} {x : Operand} {lo hi : Option Operand} {s : ByteArray} {b k : Int} {j u : Nat} {w cc : Bool} {a : AV} (hb : cc = true → 0 ≤ b ∧ b ≤ k ∧ k ≤ s.size) (h : DJ P l c m σ0 σ1 K (i + 1) rest ((t, .mb cc (.v (.string (s.extract b.toNat k.toNat)))) :: fr)) (him : Nat.beq i m = false := by exact rfl) (hj : dstOf l j = some u := by exact rfl) (hl : lk fr u = some a := by exact rfl) (hg : gc a w = some cc := by exact rfl) (ht : P.underlying st = some .string := by exact rfl) (hx : ev (strip fr) x = some (.v (.string s)) := by exact rfl) (hlo : bound (ev (strip fr)) 0 lo = some b := by exact rfl) (hhi : bound (ev (strip fr)) s.size hi = some k := by exact rfl) (hn : Needs cc fr (Op.slice st x lo hi none).operands.toList := by repeat' (first | exact True.intro | refine And.intro ?_ ?_ | exact nd0 rfl | exact nd1 rfl | exact nd2 rfl | exact nd3 rfl | exact nd4 rfl)) : DJ P l c m σ0 σ1 K i (⟨some t, .slice st x lo hi none, ty, pos, aft, some (j, w)⟩ :: rest) fr :=
  dj_q him hj hl hg hn (fun hc R hR => opj_slice_str rfl ht hx hlo hhi (hb hc).1 (hb hc).2.1 (hb hc).2.2 hR) (fun hc R hR => opj_slice_str rfl ht hx hlo hhi (hb hc).1 (hb hc).2.1 (hb hc).2.2 hR) h
theorem jff {op : Op} {j u : Nat} {w cc : Bool} {a : AV} (h : LJ P nt ops Q rest ((t, .mb cc (.v (.bool false))) :: fr) σ) (hj : (ops[j]?).bind (·.dst) = some u := by exact rfl) (hl : lk fr u = some a := by exact rfl) (hg : gc a w = some cc := by exact rfl) (hf : cc = false := by exact rfl) (hd : fits nt (some t) = true := by exact rfl) : LJ P nt ops Q (⟨some t, op, ty, pos, aft, some (j, w)⟩ :: rest) fr σ :=
  lj_q0 hd hj hl hg (fun hc => by rw [hf] at hc; cases hc) h
theorem jtb {sb db et : TypeId} {ub : TypeDesc} {x : Operand} {b : ByteArray} {lb : List UInt8} (hm : b.size ≤ maxLen) (hb : b.data.toList = lb) (h : LJ P nt ops Q rest ((t, .sl none false 1 (bys lb)) :: fr) σ) (hs : P.underlying sb = some ub := by exact rfl) (hdd : P.underlying db = some (.slice et) := by exact rfl) (he : P.underlying et = some (.int .u8) := by exact rfl) (hx : ev fr x = some (.v (.string b)) := by exact rfl) (hd : fits nt (some t) = true := by exact rfl) : LJ P nt ops Q (⟨some t, .convert sb db x, ty, pos, aft, none⟩ :: rest) fr σ := by
  subst hb
  exact lj_v hd (fun R hR => OpJ.weak (opj_to_bytes rfl hs hdd he hx hm ⟨rfl, _, rfl, Wk.sl _ _ _ _⟩) hR) h
end
end Go.Proofs.YtddljegbggncdaaDoor.Ab

/- Keys of facts. -/
set_option linter.unusedVariables false
set_option linter.unusedSimpArgs false
set_option maxRecDepth 20000
namespace Go.Proofs.YtddljegbggncdaaDoor.Ab
open Go
theorem be_modN (w n : Nat) : be w (n % 256 ^ w) = be w n := by
  induction w generalizing n with
  | zero => rfl
  | succ w ih =>
    rw [be, be]
    have h1 : n % 256 ^ (w + 1) / 256 = n / 256 % 256 ^ w := by
      rw [Nat.pow_succ', Nat.mod_mul_right_div_self]
    have h2 : n % 256 ^ (w + 1) % 256 = n % 256 := by
      rw [Nat.pow_succ']; exact Nat.mod_mul_right_mod _ _ _
    rw [h1, ih, h2]
theorem be_beN : ∀ (n : Nat) (l : List UInt8), l.length = n → be n (beNat l) = l
  | 0, [], _ => rfl
  | n + 1, l, h => by
    have hne : l ≠ [] := by rintro rfl; simp at h
    have hs := List.dropLast_concat_getLast hne
    have hl : l.dropLast.length = n := by simp [h]
    have hb := (l.getLast hne).toNat_lt
    conv => lhs; rw [← hs]
    rw [beNat_snoc, be]
    have h1 : (beNat l.dropLast * 256 + (l.getLast hne).toNat) / 256 = beNat l.dropLast := by omega
    have h2 : (beNat l.dropLast * 256 + (l.getLast hne).toNat) % 256 = (l.getLast hne).toNat := by omega
    rw [h1, h2, be_beN n _ hl, show UInt8.ofNat (l.getLast hne).toNat = l.getLast hne by simp, hs]
theorem getN_be6 {m : Nat} (hm : m < 256 ^ 6) : getN (be 6 m) 6 = ((m : Int), 0) := by
  rw [getN, if_neg (by omega), length_be, if_neg (by omega), show (6 : Int).toNat = 6 from rfl, List.take_of_length_le (by rw [length_be]; exact Nat.le_refl _), beNat_be, Nat.mod_eq_of_lt hm]
theorem getN_6 {l : List UInt8} (h : l.length = 6) : getN l 6 = ((beNat l : Int), 0) := by
  rw [getN, if_neg (by omega), if_neg (by omega), show (6 : Int).toNat = 6 from rfl, List.take_of_length_le (by omega)]
theorem ba_list (s : ByteArray) : s = ⟨s.data.toList.toArray⟩ := by rw [Array.toArray_toList]
theorem ba_sizeL (s : ByteArray) : s.data.toList.length = s.size := by rw [Array.length_toList]; rfl
theorem ex_data (l : List UInt8) (i j : Nat) : (⟨l.toArray⟩ : ByteArray).extract i j = ⟨((l.take j).drop i).toArray⟩ := by
  apply ByteArray.ext
  rw [ByteArray.data_extract]
  simp [List.extract_toArray, List.drop_take]
theorem ex_list (l : List UInt8) (i j : Nat) : ((⟨l.toArray⟩ : ByteArray).extract i j).data.toList = (l.take j).drop i := by rw [ex_data]
theorem ba_inj {a b : List UInt8} (h : (⟨a.toArray⟩ : ByteArray) = ⟨b.toArray⟩) : a = b := by
  have := congrArg (fun s : ByteArray => s.data.toList) h
  simpa using this
attribute [local irreducible] thn inb endR CJ LJ OpJ DJ DA DB AllocK

def keyE (n : Int) : Int := if n < 1 ∨ 1099511627776 < n then 22 else 0
def keyS (n : Int) : ByteArray := if keyE n = 0 then ⟨(119 :: be 6 n.toNat).toArray⟩ else ⟨#[]⟩
def tagN (s : ByteArray) : Int := beNat (s.data.toList.drop 1)
def tagE (s : ByteArray) : Int := if s.size = 7 ∧ s.data.toList.take 1 = [119] ∧ keyE (tagN s) = 0 then 0 else 4
def tagV (s : ByteArray) : Int := if tagE s = 0 then tagN s else 0
theorem keyE_ok {n : Int} (h : keyE n = 0) : 1 ≤ n ∧ n ≤ 1099511627776 := by
  unfold keyE at h
  split at h
  · cases h
  · omega
theorem p_key (n : Int) (hn : -9223372036854775808 ≤ n ∧ n < 9223372036854775808) : Pure Tryd.prog 33 [.v (.int .i64 n)] (.tup [.v (.string (keyS n)), .v (.int .i64 (keyE n))]) := by
  refine enterW Tryd.func33 rfl rfl rfl rfl (fun σ => ?_)
  by_cases hk : keyE n = 0
  · obtain ⟨h1, h2⟩ := keyE_ok hk
    have e6 : (256 ^ (6 : Int).toNat : Int) = 281474976710656 := by decide
    have hp : putE n 6 = 0 := by
      rw [putE, if_neg (by omega), if_neg (by rintro (h | h); omega; rw [e6] at h; omega)]
    have k1 := p_put n 6 hn
    rw [putB, if_pos hp, hp, show (6 : Int).toNat = 6 from rfl] at k1
    have hbl : (be 6 n.toNat).length = 6 := length_be _ _
    repeat' (first|(first|(refine jl ?_;first|refine j7 ?_|refine j1 ?_|refine j4 ?_|refine j9 ?_|refine j25 ?_|refine j26 ?_|refine jp (k1) ?_)|(refine jc ?_;first|refine c1 ?_|refine c2 ?_|refine c6 ?_|refine c7 ?_)|refine n1 ?_|refine n11 ?_)|(refine c9 (fun h=>?_) (fun h=>?_)<;>((try simp only [Bool.or_eq_true, Bool.and_eq_true, Bool.or_eq_false_iff, Bool.and_eq_false_iff, Bool.not_eq_true', Bool.not_eq_false', decide_eq_true_eq, decide_eq_false_iff_not, Bool.false_eq_true, Bool.true_eq_false, reduceCtorEq] at h) <;> (try simp (disch := omega) only [sb_bt, w64, Int.reduceAdd, Int.reduceToNat, Int.toNat_natCast, not_true_eq_false, false_or] at h) <;> (try (exfalso; omega)))))
    · rw [keyS, if_pos hk, hk]
      refine gvs (fin_two (.wk (Wk.of_eq ?_)) (Fin.refl _ _ _))
      exact congrArg (fun s => AV.v (Value.string s)) (bconcat [119] _)
  · have hb : n < 1 ∨ 1099511627776 < n := by
      by_cases h : n < 1 ∨ 1099511627776 < n
      · exact h
      · exact absurd (if_neg h) hk
    repeat' (first|(first|(refine jl ?_;first|refine j7 ?_|refine j1 ?_|refine j4 ?_|refine j9 ?_)|(refine jc ?_;first|refine c1 ?_|refine c2 ?_|refine c7 ?_)|refine n2 ?_|refine n11 ?_)|(refine c9 (fun h=>?_) (fun h=>?_)<;>((try simp only [Bool.or_eq_true, Bool.and_eq_true, Bool.or_eq_false_iff, Bool.and_eq_false_iff, Bool.not_eq_true', Bool.not_eq_false', decide_eq_true_eq, decide_eq_false_iff_not, Bool.false_eq_true, Bool.true_eq_false, reduceCtorEq] at h) <;> (try simp (disch := omega) only [sb_bt, w64, Int.reduceAdd, Int.reduceToNat, Int.toNat_natCast, not_true_eq_false, false_or] at h) <;> (try (exfalso; omega)))))
    rw [keyS, if_neg hk, keyE, if_pos hb]
    first | exact ge rfl | exact gvs (by (repeat' (first | exact finl_nil | apply finl_cons | exact Fin.refl _ _ _ | apply fin_pk2 | apply fin_pk3 | apply fin_agg | apply fin_tup | exact fin_nil | exact fin_sl rfl | exact fin_fz (by exact lkp) (by first | assumption | exact St.ns1 (by assumption) | exact St.ns2 (by assumption) | exact St.ns3 (by assumption) | exact St.ns4 (by assumption) | exact St.ns5 (by assumption) | exact St.ns6 (by assumption) | exact St.ns7 (by assumption) | exact St.ns8 (by assumption) | exact St.ns9 (by assumption) | exact St.ns10 (by assumption) | exact St.ns11 (by assumption) | exact St.ns12 (by assumption) | exact St.ns13 (by assumption) | exact St.ns14 (by assumption) | exact St.ns10 (by assumption) | exact St.ns11 (by assumption) | exact St.ns12 (by assumption) | exact St.ns13 (by assumption) | exact St.ns14 (by assumption)) (by first | exact rfl | assumption | (simp only [List.length_map, List.length_append, List.length_cons, List.length_nil]; done) | (simp only [List.length_map, List.length_append, List.length_cons, List.length_nil]; omega)) rfl (fun _ => rfl) | exact fin_eq rfl)))
theorem p_rkey (n : Int) (hn : -9223372036854775808 ≤ n ∧ n < 9223372036854775808) : Pure Tryd.prog 34 [.v (.int .i64 n)] (.tup [.v (.string (keyS n)), .v (.int .i64 (keyE n))]) := by
  refine enterW Tryd.func34 rfl rfl rfl rfl (fun σ => ?_)
  by_cases hk : keyE n = 0
  · obtain ⟨h1, h2⟩ := keyE_ok hk
    have e6 : (256 ^ (6 : Int).toNat : Int) = 281474976710656 := by decide
    have hp : putE n 6 = 0 := by
      rw [putE, if_neg (by omega), if_neg (by rintro (h | h); omega; rw [e6] at h; omega)]
    have k1 := p_rput n 6 hn
    rw [putB, if_pos hp, hp, show (6 : Int).toNat = 6 from rfl] at k1
    have hbl : (be 6 n.toNat).length = 6 := length_be _ _
    repeat' (first|(first|(refine jl ?_;first|refine j7 ?_|refine j1 ?_|refine j4 ?_|refine j9 ?_|refine j25 ?_|refine j26 ?_|refine jp (k1) ?_)|(refine jc ?_;first|refine c1 ?_|refine c2 ?_|refine c6 ?_|refine c7 ?_)|refine n1 ?_|refine n11 ?_)|(refine c9 (fun h=>?_) (fun h=>?_)<;>((try simp only [Bool.or_eq_true, Bool.and_eq_true, Bool.or_eq_false_iff, Bool.and_eq_false_iff, Bool.not_eq_true', Bool.not_eq_false', decide_eq_true_eq, decide_eq_false_iff_not, Bool.false_eq_true, Bool.true_eq_false, reduceCtorEq] at h) <;> (try simp (disch := omega) only [sb_bt, w64, Int.reduceAdd, Int.reduceToNat, Int.toNat_natCast, not_true_eq_false, false_or] at h) <;> (try (exfalso; omega)))))
    · rw [keyS, if_pos hk, hk]
      refine gvs (fin_two (.wk (Wk.of_eq ?_)) (Fin.refl _ _ _))
      exact congrArg (fun s => AV.v (Value.string s)) (bconcat [119] _)
  · have hb : n < 1 ∨ 1099511627776 < n := by
      by_cases h : n < 1 ∨ 1099511627776 < n
      · exact h
      · exact absurd (if_neg h) hk
    repeat' (first|(first|(refine jl ?_;first|refine j7 ?_|refine j1 ?_|refine j4 ?_|refine j9 ?_)|(refine jc ?_;first|refine c1 ?_|refine c2 ?_|refine c7 ?_)|refine n2 ?_|refine n11 ?_)|(refine c9 (fun h=>?_) (fun h=>?_)<;>((try simp only [Bool.or_eq_true, Bool.and_eq_true, Bool.or_eq_false_iff, Bool.and_eq_false_iff, Bool.not_eq_true', Bool.not_eq_false', decide_eq_true_eq, decide_eq_false_iff_not, Bool.false_eq_true, Bool.true_eq_false, reduceCtorEq] at h) <;> (try simp (disch := omega) only [sb_bt, w64, Int.reduceAdd, Int.reduceToNat, Int.toNat_natCast, not_true_eq_false, false_or] at h) <;> (try (exfalso; omega)))))
    rw [keyS, if_neg hk, keyE, if_pos hb]
    first | exact ge rfl | exact gvs (by (repeat' (first | exact finl_nil | apply finl_cons | exact Fin.refl _ _ _ | apply fin_pk2 | apply fin_pk3 | apply fin_agg | apply fin_tup | exact fin_nil | exact fin_sl rfl | exact fin_fz (by exact lkp) (by first | assumption | exact St.ns1 (by assumption) | exact St.ns2 (by assumption) | exact St.ns3 (by assumption) | exact St.ns4 (by assumption) | exact St.ns5 (by assumption) | exact St.ns6 (by assumption) | exact St.ns7 (by assumption) | exact St.ns8 (by assumption) | exact St.ns9 (by assumption) | exact St.ns10 (by assumption) | exact St.ns11 (by assumption) | exact St.ns12 (by assumption) | exact St.ns13 (by assumption) | exact St.ns14 (by assumption) | exact St.ns10 (by assumption) | exact St.ns11 (by assumption) | exact St.ns12 (by assumption) | exact St.ns13 (by assumption) | exact St.ns14 (by assumption)) (by first | exact rfl | assumption | (simp only [List.length_map, List.length_append, List.length_cons, List.length_nil]; done) | (simp only [List.length_map, List.length_append, List.length_cons, List.length_nil]; omega)) rfl (fun _ => rfl) | exact fin_eq rfl)))
theorem p_tagk (s : ByteArray) : Pure Tryd.prog 35 [.v (.string s)] (.tup [.v (.int .i64 (tagV s)), .v (.int .i64 (tagE s))]) := by
  refine enterW Tryd.func35 rfl rfl rfl rfl (fun σ => ?_)
  have hsz := ba_sizeL s
  have hs := ba_list s
  by_cases h7 : s.size = 7
  · obtain ⟨c, l, hL⟩ : ∃ c l, s.data.toList = c :: l := by
      cases h : s.data.toList with
      | nil => rw [h] at hsz; simp at hsz; omega
      | cons c l => exact ⟨c, l, rfl⟩
    rw [hL] at hs hsz
    rw [List.length_cons] at hsz
    have hl6 : l.length = 6 := by omega
    have hln : beNat l < 256 ^ 6 := by have := beNat_lt l; rwa [hl6] at this
    have e1 : s.extract 0 1 = ⟨#[c]⟩ := by rw [hs, ex_data]; rfl
    have e2 : (s.extract 1 s.size).data.toList = l := by
      rw [h7, hs, ex_list]
      simp [List.take_of_length_le (show (c :: l).length ≤ 7 by rw [List.length_cons]; omega)]
    have k1 := p_get none false (s.extract 1 s.size).data.toList 6
    rw [e2, getN_6 hl6] at k1
    have hsub : (s.extract 1 s.size).size ≤ maxLen := by
      rw [← ba_sizeL, e2, hl6]; decide
    have hi0 : ((1 : Nat) : Int).toNat = 1 := rfl
    have ht1 : tagN s = beNat l := by rw [tagN, hL]; rfl
    have ht2 : s.data.toList.take 1 = [c] := by rw [hL]; rfl
    repeat' (first|(first|(refine jl ?_;first|refine j7 ?_|refine j1 ?_|refine j4 ?_|refine j9 ?_|refine j21 ?_|refine jp (k1) ?_|refine jsq (b := 0) (k := 1) (s := s) (fun _ => ⟨by omega, by omega, by omega⟩) ?_|refine jtb (lb := l) hsub e2 ?_)|(refine jc ?_;first|refine c1 ?_|refine c2 ?_|refine c6 ?_|refine c7 ?_)|refine n1 ?_|refine n2 ?_|refine n11 ?_)|(refine c9 (fun h=>?_) (fun h=>?_)<;>(try simp only [Bool.or_eq_true, Bool.and_eq_true, Bool.or_eq_false_iff, Bool.and_eq_false_iff, Bool.not_eq_true', Bool.not_eq_false', decide_eq_true_eq, decide_eq_false_iff_not, Bool.false_eq_true, Bool.true_eq_false, reduceCtorEq] at h)))
    · have hc : ¬ [c] = [119] := by
        rintro hc
        rcases h with h | h
        · omega
        · exact h (e1.trans (congrArg (fun l : List UInt8 => (⟨l.toArray⟩ : ByteArray)) hc))
      have e : tagE s = 4 := by rw [tagE, if_neg (by rw [ht2]; exact fun h => hc h.2.1)]
      rw [tagV, e, if_neg (by decide)]
      first | exact ge rfl | exact gvs (by (repeat' (first | exact finl_nil | apply finl_cons | exact Fin.refl _ _ _ | apply fin_pk2 | apply fin_pk3 | apply fin_agg | apply fin_tup | exact fin_nil | exact fin_sl rfl | exact fin_fz (by exact lkp) (by first | assumption | exact St.ns1 (by assumption) | exact St.ns2 (by assumption) | exact St.ns3 (by assumption) | exact St.ns4 (by assumption) | exact St.ns5 (by assumption) | exact St.ns6 (by assumption) | exact St.ns7 (by assumption) | exact St.ns8 (by assumption) | exact St.ns9 (by assumption) | exact St.ns10 (by assumption) | exact St.ns11 (by assumption) | exact St.ns12 (by assumption) | exact St.ns13 (by assumption) | exact St.ns14 (by assumption) | exact St.ns10 (by assumption) | exact St.ns11 (by assumption) | exact St.ns12 (by assumption) | exact St.ns13 (by assumption) | exact St.ns14 (by assumption)) (by first | exact rfl | assumption | (simp only [List.length_map, List.length_append, List.length_cons, List.length_nil]; done) | (simp only [List.length_map, List.length_append, List.length_cons, List.length_nil]; omega)) rfl (fun _ => rfl) | exact fin_eq rfl)))
    · have hk : ¬ keyE (tagN s) = 0 := by
        rw [ht1, keyE, if_pos (by
          rcases h with (h | h) | h
          · exact absurd trivial h
          · exact .inl h
          · exact .inr h)]
        decide
      have e : tagE s = 4 := by rw [tagE, if_neg (fun h => hk h.2.2)]
      rw [tagV, e, if_neg (by decide)]
      first | exact ge rfl | exact gvs (by (repeat' (first | exact finl_nil | apply finl_cons | exact Fin.refl _ _ _ | apply fin_pk2 | apply fin_pk3 | apply fin_agg | apply fin_tup | exact fin_nil | exact fin_sl rfl | exact fin_fz (by exact lkp) (by first | assumption | exact St.ns1 (by assumption) | exact St.ns2 (by assumption) | exact St.ns3 (by assumption) | exact St.ns4 (by assumption) | exact St.ns5 (by assumption) | exact St.ns6 (by assumption) | exact St.ns7 (by assumption) | exact St.ns8 (by assumption) | exact St.ns9 (by assumption) | exact St.ns10 (by assumption) | exact St.ns11 (by assumption) | exact St.ns12 (by assumption) | exact St.ns13 (by assumption) | exact St.ns14 (by assumption) | exact St.ns10 (by assumption) | exact St.ns11 (by assumption) | exact St.ns12 (by assumption) | exact St.ns13 (by assumption) | exact St.ns14 (by assumption)) (by first | exact rfl | assumption | (simp only [List.length_map, List.length_append, List.length_cons, List.length_nil]; done) | (simp only [List.length_map, List.length_append, List.length_cons, List.length_nil]; omega)) rfl (fun _ => rfl) | exact fin_eq rfl)))
    · have hcc : [c] = [119] := ba_inj (e1.symm.trans (And.right ‹_›))
      have hk : keyE (tagN s) = 0 := by rw [ht1, keyE, if_neg (by omega)]
      have e : tagE s = 0 := by rw [tagE, if_pos ⟨h7, ht2.trans hcc, hk⟩]
      rw [tagV, e, if_pos rfl, ht1]
      first | exact ge rfl | exact gvs (by (repeat' (first | exact finl_nil | apply finl_cons | exact Fin.refl _ _ _ | apply fin_pk2 | apply fin_pk3 | apply fin_agg | apply fin_tup | exact fin_nil | exact fin_sl rfl | exact fin_fz (by exact lkp) (by first | assumption | exact St.ns1 (by assumption) | exact St.ns2 (by assumption) | exact St.ns3 (by assumption) | exact St.ns4 (by assumption) | exact St.ns5 (by assumption) | exact St.ns6 (by assumption) | exact St.ns7 (by assumption) | exact St.ns8 (by assumption) | exact St.ns9 (by assumption) | exact St.ns10 (by assumption) | exact St.ns11 (by assumption) | exact St.ns12 (by assumption) | exact St.ns13 (by assumption) | exact St.ns14 (by assumption) | exact St.ns10 (by assumption) | exact St.ns11 (by assumption) | exact St.ns12 (by assumption) | exact St.ns13 (by assumption) | exact St.ns14 (by assumption)) (by first | exact rfl | assumption | (simp only [List.length_map, List.length_append, List.length_cons, List.length_nil]; done) | (simp only [List.length_map, List.length_append, List.length_cons, List.length_nil]; omega)) rfl (fun _ => rfl) | exact fin_eq rfl)))
  · have e : tagE s = 4 := by rw [tagE, if_neg (fun h => h7 h.1)]
    rw [tagV, e, if_neg (by decide)]
    repeat' (first|(first|(refine jl ?_;first|refine j7 ?_|refine j1 ?_|refine j4 ?_|refine j9 ?_|refine j21 ?_|refine jsq (b := 0) (k := 1) (s := s) (cc := !!decide ((s.size : Int) = 7)) (fun hc => absurd hc (by simp; omega)) ?_)|(refine jc ?_;first|refine c1 ?_|refine c2 ?_|refine c6 ?_|refine c7 ?_)|refine n1 ?_|refine n2 ?_|refine n11 ?_)|(refine c9 (fun h=>?_) (fun h=>?_)<;>(try simp only [Bool.or_eq_true, Bool.and_eq_true, Bool.or_eq_false_iff, Bool.and_eq_false_iff, Bool.not_eq_true', Bool.not_eq_false', decide_eq_true_eq, decide_eq_false_iff_not, Bool.false_eq_true, Bool.true_eq_false, reduceCtorEq] at h)))
    · first | exact ge rfl | exact gvs (by (repeat' (first | exact finl_nil | apply finl_cons | exact Fin.refl _ _ _ | apply fin_pk2 | apply fin_pk3 | apply fin_agg | apply fin_tup | exact fin_nil | exact fin_sl rfl | exact fin_fz (by exact lkp) (by first | assumption | exact St.ns1 (by assumption) | exact St.ns2 (by assumption) | exact St.ns3 (by assumption) | exact St.ns4 (by assumption) | exact St.ns5 (by assumption) | exact St.ns6 (by assumption) | exact St.ns7 (by assumption) | exact St.ns8 (by assumption) | exact St.ns9 (by assumption) | exact St.ns10 (by assumption) | exact St.ns11 (by assumption) | exact St.ns12 (by assumption) | exact St.ns13 (by assumption) | exact St.ns14 (by assumption) | exact St.ns10 (by assumption) | exact St.ns11 (by assumption) | exact St.ns12 (by assumption) | exact St.ns13 (by assumption) | exact St.ns14 (by assumption)) (by first | exact rfl | assumption | (simp only [List.length_map, List.length_append, List.length_cons, List.length_nil]; done) | (simp only [List.length_map, List.length_append, List.length_cons, List.length_nil]; omega)) rfl (fun _ => rfl) | exact fin_eq rfl)))
    · exfalso; omega
theorem p_rtagk (s : ByteArray) : Pure Tryd.prog 36 [.v (.string s)] (.tup [.v (.int .i64 (tagV s)), .v (.int .i64 (tagE s))]) := by
  refine enterW Tryd.func36 rfl rfl rfl rfl (fun σ => ?_)
  have hsz := ba_sizeL s
  have hs := ba_list s
  by_cases h7 : s.size = 7
  · obtain ⟨c, l, hL⟩ : ∃ c l, s.data.toList = c :: l := by
      cases h : s.data.toList with
      | nil => rw [h] at hsz; simp at hsz; omega
      | cons c l => exact ⟨c, l, rfl⟩
    rw [hL] at hs hsz
    rw [List.length_cons] at hsz
    have hl6 : l.length = 6 := by omega
    have hln : beNat l < 256 ^ 6 := by have := beNat_lt l; rwa [hl6] at this
    have e2 : (s.extract 1 s.size).data.toList = l := by
      rw [h7, hs, ex_list]
      simp [List.take_of_length_le (show (c :: l).length ≤ 7 by rw [List.length_cons]; omega)]
    have k1 := p_rget none false (s.extract 1 s.size).data.toList 6
    rw [e2, getN_6 hl6] at k1
    have hsub : (s.extract 1 s.size).size ≤ maxLen := by
      rw [← ba_sizeL, e2, hl6]; decide
    have ht1 : tagN s = beNat l := by rw [tagN, hL]; rfl
    have ht2 : s.data.toList.take 1 = [c] := by rw [hL]; rfl
    have k2 := p_rkey (beNat l) (by omega)
    repeat' (first|(first|(refine jl ?_;first|refine j7 ?_|refine j1 ?_|refine j4 ?_|refine j9 ?_|refine j21 ?_|refine jp (k1) ?_|refine jp (k2) ?_|refine jtb (lb := l) hsub e2 ?_)|(refine jc ?_;first|refine c1 ?_|refine c2 ?_|refine c6 ?_|refine c7 ?_)|refine n1 ?_|refine n2 ?_|refine n11 ?_)|(refine c9 (fun h=>?_) (fun h=>?_)<;>(try simp only [Bool.or_eq_true, Bool.and_eq_true, Bool.or_eq_false_iff, Bool.and_eq_false_iff, Bool.not_eq_true', Bool.not_eq_false', decide_eq_true_eq, decide_eq_false_iff_not, Bool.false_eq_true, Bool.true_eq_false, reduceCtorEq] at h)))
    · exact absurd h7 (by omega)
    · have e : tagE s = 4 := by
        rw [tagE, if_neg]
        rintro ⟨_, g2, g3⟩
        rw [ht1] at g3
        rw [ht2] at g2
        rcases h with h | h
        · exact h g3
        · refine h ?_
          rw [keyS, if_pos g3, hs, Int.toNat_natCast, be_beN 6 l hl6]
          rw [List.cons.inj g2 |>.1]
      rw [tagV, e, if_neg (by decide)]
      first | exact ge rfl | exact gvs (by (repeat' (first | exact finl_nil | apply finl_cons | exact Fin.refl _ _ _ | apply fin_pk2 | apply fin_pk3 | apply fin_agg | apply fin_tup | exact fin_nil | exact fin_sl rfl | exact fin_fz (by exact lkp) (by first | assumption | exact St.ns1 (by assumption) | exact St.ns2 (by assumption) | exact St.ns3 (by assumption) | exact St.ns4 (by assumption) | exact St.ns5 (by assumption) | exact St.ns6 (by assumption) | exact St.ns7 (by assumption) | exact St.ns8 (by assumption) | exact St.ns9 (by assumption) | exact St.ns10 (by assumption) | exact St.ns11 (by assumption) | exact St.ns12 (by assumption) | exact St.ns13 (by assumption) | exact St.ns14 (by assumption) | exact St.ns10 (by assumption) | exact St.ns11 (by assumption) | exact St.ns12 (by assumption) | exact St.ns13 (by assumption) | exact St.ns14 (by assumption)) (by first | exact rfl | assumption | (simp only [List.length_map, List.length_append, List.length_cons, List.length_nil]; done) | (simp only [List.length_map, List.length_append, List.length_cons, List.length_nil]; omega)) rfl (fun _ => rfl) | exact fin_eq rfl)))
    · obtain ⟨g1, g2⟩ := h
      rw [keyS, if_pos g1, Int.toNat_natCast, be_beN 6 l hl6] at g2
      rw [hs] at g2
      have hcc := (List.cons.inj (ba_inj g2)).1
      have e : tagE s = 0 := by rw [tagE, if_pos ⟨h7, by rw [ht2, hcc], by rw [ht1]; exact g1⟩]
      rw [tagV, e, if_pos rfl, ht1]
      first | exact ge rfl | exact gvs (by (repeat' (first | exact finl_nil | apply finl_cons | exact Fin.refl _ _ _ | apply fin_pk2 | apply fin_pk3 | apply fin_agg | apply fin_tup | exact fin_nil | exact fin_sl rfl | exact fin_fz (by exact lkp) (by first | assumption | exact St.ns1 (by assumption) | exact St.ns2 (by assumption) | exact St.ns3 (by assumption) | exact St.ns4 (by assumption) | exact St.ns5 (by assumption) | exact St.ns6 (by assumption) | exact St.ns7 (by assumption) | exact St.ns8 (by assumption) | exact St.ns9 (by assumption) | exact St.ns10 (by assumption) | exact St.ns11 (by assumption) | exact St.ns12 (by assumption) | exact St.ns13 (by assumption) | exact St.ns14 (by assumption) | exact St.ns10 (by assumption) | exact St.ns11 (by assumption) | exact St.ns12 (by assumption) | exact St.ns13 (by assumption) | exact St.ns14 (by assumption)) (by first | exact rfl | assumption | (simp only [List.length_map, List.length_append, List.length_cons, List.length_nil]; done) | (simp only [List.length_map, List.length_append, List.length_cons, List.length_nil]; omega)) rfl (fun _ => rfl) | exact fin_eq rfl)))
  · have e : tagE s = 4 := by rw [tagE, if_neg (fun h => h7 h.1)]
    rw [tagV, e, if_neg (by decide)]
    repeat' (first|(first|(refine jl ?_;first|refine j1 ?_|refine j4 ?_|refine j21 ?_)|(refine jc ?_;first|refine c1 ?_|refine c2 ?_|refine c6 ?_|refine c7 ?_)|refine n1 ?_|refine n2 ?_|refine n11 ?_)|(refine c9 (fun h=>?_) (fun h=>?_)<;>(try simp only [Bool.or_eq_true, Bool.and_eq_true, Bool.or_eq_false_iff, Bool.and_eq_false_iff, Bool.not_eq_true', Bool.not_eq_false', decide_eq_true_eq, decide_eq_false_iff_not, Bool.false_eq_true, Bool.true_eq_false, reduceCtorEq] at h)))
    · first | exact ge rfl | exact gvs (by (repeat' (first | exact finl_nil | apply finl_cons | exact Fin.refl _ _ _ | apply fin_pk2 | apply fin_pk3 | apply fin_agg | apply fin_tup | exact fin_nil | exact fin_sl rfl | exact fin_fz (by exact lkp) (by first | assumption | exact St.ns1 (by assumption) | exact St.ns2 (by assumption) | exact St.ns3 (by assumption) | exact St.ns4 (by assumption) | exact St.ns5 (by assumption) | exact St.ns6 (by assumption) | exact St.ns7 (by assumption) | exact St.ns8 (by assumption) | exact St.ns9 (by assumption) | exact St.ns10 (by assumption) | exact St.ns11 (by assumption) | exact St.ns12 (by assumption) | exact St.ns13 (by assumption) | exact St.ns14 (by assumption) | exact St.ns10 (by assumption) | exact St.ns11 (by assumption) | exact St.ns12 (by assumption) | exact St.ns13 (by assumption) | exact St.ns14 (by assumption)) (by first | exact rfl | assumption | (simp only [List.length_map, List.length_append, List.length_cons, List.length_nil]; done) | (simp only [List.length_map, List.length_append, List.length_cons, List.length_nil]; omega)) rfl (fun _ => rfl) | exact fin_eq rfl)))
    · exfalso; omega
end Go.Proofs.YtddljegbggncdaaDoor.Ab

/- Facts' bytes. -/
set_option linter.unusedVariables false
set_option linter.unusedSimpArgs false
set_option maxRecDepth 20000
namespace Go.Proofs.YtddljegbggncdaaDoor.Ab
open Go
attribute [local irreducible] thn inb endR CJ LJ OpJ DJ DA DB AllocK

def placeN (l : List Cls) (nm : ByteArray) : Int := idxG (isC nm) l 0
def valsB (vs : List Vl) : List UInt8 := vs.flatMap fun v => putV v.k v.n v.s
def layB (h : Int) (vs : List Vl) : List UInt8 := UInt8.ofNat h.toNat :: valsB vs
def bytesF (l : List Cls) (f : Fc) : List UInt8 := layB (IntKind.u8.wrap (placeN l f.cls)) f.vals
def putFE (l : List Cls) (f : Fc) : Int := if checkF l f ≠ 0 then checkF l f else if 255 < placeN l f.cls ∨ 160 < (bytesF l f).length then 5 else 0
def putFS (l : List Cls) (f : Fc) : ByteArray := if putFE l f = 0 then ⟨(bytesF l f).toArray⟩ else ⟨#[]⟩
theorem putV_len (k n : Int) (s : ByteArray) : (putV k n s).length ≤ 257 := by
  have hl1 : (signB n).length ≤ 6 := by unfold signB; split <;> simp [length_be]
  have hl2 : (textB s).length ≤ 256 := by
    unfold textB; split
    · simp
    · rw [List.length_cons, bl_len]; omega
  unfold putV
  split
  · simp
  · split
    · rw [List.length_cons]; omega
    · split
      · rw [List.length_cons]; omega
      · simp
theorem valsB_len : ∀ (vs : List Vl), (valsB vs).length ≤ 257 * vs.length
  | [] => Nat.le_refl _
  | v :: r => by
    have h1 := valsB_len r
    have h2 := putV_len v.k v.n v.s
    rw [valsB, List.flatMap_cons, List.length_append, List.length_cons]
    have h3 : (List.flatMap (fun v => putV v.k v.n v.s) r).length = (valsB r).length := rfl
    omega
theorem layB_len (h : Int) (vs : List Vl) : (layB h vs).length ≤ 1 + 257 * vs.length := by
  have := valsB_len vs
  rw [layB, List.length_cons]; omega
theorem layB_snoc (h : Int) {vs : List Vl} {i : Nat} {v : Vl} (hv : vs[i]? = some v) : layB h (vs.take (i + 1)) = layB h (vs.take i) ++ putV v.k v.n v.s := by
  rw [List.take_add_one, hv]
  simp [layB, valsB]
theorem p_lay (hd0 : Int) (h0 : 0 ≤ hd0) (h1 : hd0 < 256) (vs : List Vl) (hl : vs.length ≤ 65536) (hk : ∀ v ∈ vs, 0 ≤ v.k) (hc : ∀ v ∈ vs, checkE v.k v.n v.s = 0) : Pure Tryd.prog 79 [.v (.int .u8 hd0), .sl none false 3 (vs.map vc)] (.tup [.sl none false 1 (bys (layB hd0 vs)), .v (.int .i64 0)]) := by
  refine enterW Tryd.func79 rfl rfl rfl rfl (fun σ => ?_)
  have hn : (vs.map vc).length = vs.length := List.length_map ..
  repeat (first|(refine jl ?_;first|refine j1 ?_|refine j4 ?_|refine jlito (fun w hw => ?_))|(refine jc ?_;first|refine c1 ?_|refine c2 ?_|refine c5 ?_))
  have hb0 : [[AV.v (.int .u8 hd0)]] = bys (layB hd0 (vs.take 0)) := by
    have : ((UInt8.ofNat hd0.toNat).toNat : Int) = hd0 := by
      rw [UInt8.toNat_ofNat']; omega
    simp [layB, valsB, bys]
    omega
  refine cj_for (fun s : Nat × Nat => s.1 ≤ vs.length ∧ σ s.2 = none) (fun s => [(15, .v (.int .i64 s.1)), (6, .osl s.2 1 0 (layB hd0 (vs.take s.1)).length)]) (fun s => σ.set s.2 (.row 1 5 (bys (layB hd0 (vs.take s.1))))) (fun s => vs.length - s.1) (0, w) ⟨Nat.zero_le _, hw⟩ ⟨⟨_, rfl, fun _ _ h => h⟩, ⟨_, rfl, fun _ _ h => h⟩, trivial⟩ (St.le_of_eq (by rw [← hb0])) (fun s hs => ?_)
  obtain ⟨i, w⟩ := s
  obtain ⟨hi, hw⟩ := hs
  dsimp only at hi hw ⊢
  have hlen := layB_len hd0 (vs.take i)
  have hln : (vs.take i).length ≤ 65536 := by rw [List.length_take]; omega
  by_cases hlt : i < vs.length
  · obtain ⟨v, hv⟩ : ∃ v, vs[i]? = some v := ⟨_, List.getElem?_eq_getElem hlt⟩
    have h4 := get_map vc hv
    have hm := List.mem_of_getElem? hv
    have k1 := p_putv v.k v.n v.s (hk v hm)
    rw [hc v hm] at k1
    have hpl := putV_len v.k v.n v.s
    have hbl : (bys (layB hd0 (vs.take i))).length = (layB hd0 (vs.take i)).length := length_bys _
    have hbl2 : (bys (putV v.k v.n v.s)).length = (putV v.k v.n v.s).length := length_bys _
    have hsn := layB_snoc hd0 hv
    have hall : (bys (layB hd0 (vs.take i))).take (layB hd0 (vs.take i)).length ++ bys (putV v.k v.n v.s) = bys (layB hd0 (vs.take (i + 1))) := by rw [List.take_of_length_le (by omega), hsn, bys_append]
    repeat' (first|(first|(refine jl ?_;first|refine jbl ?_|refine j1 ?_|refine j4 ?_|refine j13 (fun id hid=>?_)|refine j14 ?_|refine j17t ?_|refine ji1 ?_|refine jp (k1) ?_)|(refine jc ?_;first|refine c1 ?_|refine c2 ?_|refine c5 ?_|refine c6 ?_)|refine n1 ?_)|(refine c9 (fun h=>?_) (fun h=>?_)<;>((try simp only [Bool.or_eq_true, Bool.and_eq_true, Bool.or_eq_false_iff, Bool.and_eq_false_iff, Bool.not_eq_true', Bool.not_eq_false', decide_eq_true_eq, decide_eq_false_iff_not, Bool.false_eq_true, Bool.true_eq_false, reduceCtorEq] at h) <;> (try simp (disch := omega) only [sb_bt, w64, Int.reduceAdd, Int.reduceToNat, Int.toNat_natCast, not_true_eq_false, false_or] at h) <;> (try (exfalso; omega)))))
    refine japo (id := w) (els := bys (layB hd0 (vs.take i))) (n := (layB hd0 (vs.take i)).length) (m := (layB hd0 (vs.take (i + 1))).length) (news := bys (putV v.k v.n v.s)) (all := bys (layB hd0 (vs.take (i + 1)))) (fun w2 hw2 => ?_) hall (by rw [hsn, List.length_append, hbl2]) (hn := by omega) (hb := by omega)
    repeat (first|(refine jl ?_;first|refine j1 ?_|refine j6 ?_)|(refine jc ?_;first|refine c2 ?_)|refine n1 ?_|refine n10 ?_)
    exact nx_forS (i + 1, w2) ⟨by dsimp only; omega, St.ns2 hw2⟩ (by dsimp only; omega) ⟨⟨_, rfl, wk1 (by omega)⟩, ⟨_, rfl, Wk.refl _⟩, trivial⟩ (St.le_setk (St.le_any (St.le_del (St.le_any (St.le_any (St.le_refl _) hw)) hw)) (St.set_same _ _ _))
  · obtain rfl : i = vs.length := by omega
    rw [List.take_length]
    repeat' (first|(first|(refine jl ?_;first|refine j1 ?_|refine j4 ?_)|(refine jc ?_;first|refine c1 ?_|refine c2 ?_|refine c7 ?_|refine c8 ?_)|refine n1 ?_|refine n3 ?_|refine n7 ?_|refine n8 ?_|refine n11 ?_)|(refine c9 (fun h=>?_) (fun h=>?_)<;>((try simp only [Bool.or_eq_true, Bool.and_eq_true, Bool.or_eq_false_iff, Bool.and_eq_false_iff, Bool.not_eq_true', Bool.not_eq_false', decide_eq_true_eq, decide_eq_false_iff_not, Bool.false_eq_true, Bool.true_eq_false, reduceCtorEq] at h) <;> (try simp (disch := omega) only [sb_bt, w64, Int.reduceAdd, Int.reduceToNat, Int.toNat_natCast, not_true_eq_false, false_or] at h) <;> (try (exfalso; omega)))))
    exact gvs (fin_two (fin_fz (St.set_same _ _ _) hw (by rw [List.length_map]) rfl (fun _ => rfl)) (Fin.refl _ _ _)) (St.le_any (St.le_refl _) hw)
theorem p_place (nl : Option Bool) (full : Bool) (l : List Cls) (nm : ByteArray) : Pure Tryd.prog 80 [.sl nl full 2 (l.map cc), .v (.string nm)] (.v (.int .i64 (placeN l nm))) := by
  refine enterW Tryd.func80 rfl rfl rfl rfl (fun σ => ?_)
  refine cj_len 0 (fun hm => ?_)
  have hn : (l.map cc).length = l.length := List.length_map ..
  repeat (first|(refine jl ?_;first|refine j1 ?_|refine j4 ?_)|(refine jc ?_;first|refine c1 ?_|refine c2 ?_|refine c5 ?_))
  refine cj_fors (fun i : Nat => idxG (isC nm) (l.drop i) i = placeN l nm) (fun i => [(5, .v (.int .i64 i))]) (fun i => l.length - i) 0 rfl ⟨⟨_, rfl, fun _ _ h => h⟩, trivial⟩ (fun i hi => ?_)
  rcases hd : l.drop i with _ | ⟨x, r⟩
  · have h0 := dropn hd
    rw [hd, idxG] at hi
    repeat' (first|(first|(refine jl ?_;first|refine j1 ?_|refine j4 ?_)|(refine jc ?_;first|refine c1 ?_|refine c2 ?_|refine c7 ?_|refine c8 ?_)|refine n1 ?_|refine n3 ?_|refine n7 ?_|refine n8 ?_|refine n11 ?_)|(refine c9 (fun h=>?_) (fun h=>?_)<;>((try simp only [Bool.or_eq_true, Bool.and_eq_true, Bool.or_eq_false_iff, Bool.and_eq_false_iff, Bool.not_eq_true', Bool.not_eq_false', decide_eq_true_eq, decide_eq_false_iff_not, Bool.false_eq_true, Bool.true_eq_false, reduceCtorEq] at h) <;> (try simp (disch := omega) only [sb_bt, w64, Int.reduceAdd, Int.reduceToNat, Int.toNat_natCast, not_true_eq_false, false_or] at h) <;> (try (exfalso; omega)))))
    rw [← hi]
    exact ge rfl
  · obtain ⟨h1, h2, h3⟩ := dropc hd
    have h4 := get_map cc h3
    rw [hd, idxG] at hi
    repeat' (first|(first|(refine jl ?_;first|refine jbl ?_|refine j1 ?_|refine j4 ?_|refine j6 ?_|refine ji1 ?_)|(refine jc ?_;first|refine c1 ?_|refine c2 ?_|refine c5 ?_|refine c6 ?_|refine c7 ?_)|refine n1 ?_|refine n2 ?_|refine n5 ?_|refine n6 ?_|refine n10 ?_|refine n11 ?_)|(refine c9 (fun h=>?_) (fun h=>?_)<;>((try simp only [Bool.or_eq_true, Bool.and_eq_true, Bool.or_eq_false_iff, Bool.and_eq_false_iff, Bool.not_eq_true', Bool.not_eq_false', decide_eq_true_eq, decide_eq_false_iff_not, Bool.false_eq_true, Bool.true_eq_false, reduceCtorEq] at h) <;> (try simp (disch := omega) only [sb_bt, w64, Int.reduceAdd, Int.reduceToNat, Int.toNat_natCast, not_true_eq_false, false_or] at h) <;> (try (exfalso; omega)))))
    · rw [if_pos (show isC nm x = true from decide_eq_true h)] at hi
      rw [← hi]
      exact ge rfl
    · rw [if_neg (show ¬ isC nm x = true by rw [isC, decide_eq_true_eq]; exact h), ← h2] at hi
      exact nx_for (i + 1) hi (by omega) ⟨⟨_, rfl, wk1 (by omega)⟩, trivial⟩
theorem q_put1 {σ : St} {id : Nat} {f : Fc} (hid : σ id = some (.row 3 28 [fc f])) (x : Cls) : ACalls Tryd.prog 78 [.agg (cc x), .ptr id 3 0 0] σ (fun e σ' => e = .ret (.v (.bool (isC f.cls x))) ∧ σ' = σ) := by
  refine enterS Tryd.func78 rfl rfl rfl rfl ?_
  obtain ⟨ft, fn, vs⟩ := f
  repeat (first|(refine jl ?_;first|refine j1 ?_|refine j4 ?_|refine j12 (fun id hid=>?_)|refine j14 ?_)|(refine jc ?_;first|refine c1 ?_|refine c2 ?_|refine c7 ?_)|refine n11 ?_)
  exact ge rfl
theorem placeN_range (l : List Cls) (nm : ByteArray) (hl : l.length ≤ 9223372036854775807) : -1 ≤ placeN l nm ∧ placeN l nm < 9223372036854775808 := by
  by_cases h : 0 ≤ placeN l nm
  · obtain ⟨j, x, h1, h2, _⟩ := idxG_first (isC nm) l 0 h
    have := (List.getElem?_eq_some_iff.1 h2).1
    rw [Nat.zero_add] at h1
    have h3 : placeN l nm = (j : Int) := h1
    omega
  · have h1 : placeN l nm = -1 := idxG_neg (isC nm) l 0 (by unfold placeN at h; omega)
    omega
theorem p_fput (nl : Option Bool) (full : Bool) (l : List Cls) (f : Fc) (hk : ∀ v ∈ f.vals, 0 ≤ v.k) (hv : f.vals.length ≤ 65536) : Pure Tryd.prog 38 [.sl nl full 2 (l.map cc), .agg (fc f)] (.tup [.v (.string (putFS l f)), .v (.int .i64 (putFE l f))]) := by
  refine enterW Tryd.func38 rfl rfl rfl rfl (fun σ => ?_)
  refine cj_len 0 (fun hm => ?_)
  have hn : (l.map cc).length = l.length := List.length_map ..
  obtain ⟨ft, fn, vs⟩ := f
  have k1 := p_ccheck nl full l ⟨ft, fn, vs⟩
  have hpr := placeN_range l fn (by omega)
  by_cases hc : checkF l ⟨ft, fn, vs⟩ = 0
  · obtain ⟨_, c, _, _, _, hvs⟩ := checkF_zero hc
    rw [hc] at k1
    have hw0 : 0 ≤ IntKind.u8.wrap (placeN l fn) ∧ IntKind.u8.wrap (placeN l fn) < 256 := by rw [wrap8]; omega
    have k2 := p_lay (IntKind.u8.wrap (placeN l fn)) hw0.1 hw0.2 vs hv hk hvs
    have hbl : (bys (layB (IntKind.u8.wrap (placeN l fn)) vs)).length = (layB (IntKind.u8.wrap (placeN l fn)) vs).length := length_bys _
    repeat' (first|(first|(refine jl ?_;first|refine j7 ?_|refine j1 ?_|refine j4 ?_|refine j9 ?_|refine j12 (fun id hid=>?_)|refine j14 ?_|refine j26 ?_|refine jp (k1) ?_|refine jp (k2) ?_|refine lj_to rfl rfl rfl (q_index_classes (isC fn) rfl nl full l (fun x => q_put1 (f := ⟨ft, fn, vs⟩) lkp x)) ?_)|(refine jc ?_;first|refine c1 ?_|refine c2 ?_|refine c5 ?_|refine c6 ?_|refine c7 ?_)|refine n1 ?_|refine n2 ?_|refine n6 ?_|refine n10 ?_|refine n11 ?_)|(refine c9 (fun h=>?_) (fun h=>?_)<;>(try simp only [Bool.or_eq_true, Bool.and_eq_true, Bool.or_eq_false_iff, Bool.and_eq_false_iff, Bool.not_eq_true', Bool.not_eq_false', decide_eq_true_eq, decide_eq_false_iff_not, Bool.false_eq_true, Bool.true_eq_false, reduceCtorEq] at h)))
    · exact absurd trivial h
    · exact absurd trivial h
    · have e : putFE l ⟨ft, fn, vs⟩ = 5 := by
        rw [putFE, if_neg (by rw [hc]; simp), if_pos]
        rcases h with h | h
        · exact .inl h
        · right; show 160 < (layB (IntKind.u8.wrap (placeN l fn)) vs).length; omega
      rw [putFS, e, if_neg (by decide)]
      first | exact ge rfl | exact gvs (by (repeat' (first | exact finl_nil | apply finl_cons | exact Fin.refl _ _ _ | apply fin_pk2 | apply fin_pk3 | apply fin_agg | apply fin_tup | exact fin_nil | exact fin_sl rfl | exact fin_fz (by exact lkp) (by first | assumption | exact St.ns1 (by assumption) | exact St.ns2 (by assumption) | exact St.ns3 (by assumption) | exact St.ns4 (by assumption) | exact St.ns5 (by assumption) | exact St.ns6 (by assumption) | exact St.ns7 (by assumption) | exact St.ns8 (by assumption) | exact St.ns9 (by assumption) | exact St.ns10 (by assumption) | exact St.ns11 (by assumption) | exact St.ns12 (by assumption) | exact St.ns13 (by assumption) | exact St.ns14 (by assumption) | exact St.ns10 (by assumption) | exact St.ns11 (by assumption) | exact St.ns12 (by assumption) | exact St.ns13 (by assumption) | exact St.ns14 (by assumption)) (by first | exact rfl | assumption | (simp only [List.length_map, List.length_append, List.length_cons, List.length_nil]; done) | (simp only [List.length_map, List.length_append, List.length_cons, List.length_nil]; omega)) rfl (fun _ => rfl) | exact fin_eq rfl)))
    · have e : putFE l ⟨ft, fn, vs⟩ = 0 := by
        rw [putFE, if_neg (by rw [hc]; simp), if_neg]
        rintro (g | g)
        · exact h.1 g
        · have g : 160 < (layB (IntKind.u8.wrap (placeN l fn)) vs).length := g
          omega
      rw [putFS, e, if_pos rfl]
      first | exact ge rfl | exact gvs (by (repeat' (first | exact finl_nil | apply finl_cons | exact Fin.refl _ _ _ | apply fin_pk2 | apply fin_pk3 | apply fin_agg | apply fin_tup | exact fin_nil | exact fin_sl rfl | exact fin_fz (by exact lkp) (by first | assumption | exact St.ns1 (by assumption) | exact St.ns2 (by assumption) | exact St.ns3 (by assumption) | exact St.ns4 (by assumption) | exact St.ns5 (by assumption) | exact St.ns6 (by assumption) | exact St.ns7 (by assumption) | exact St.ns8 (by assumption) | exact St.ns9 (by assumption) | exact St.ns10 (by assumption) | exact St.ns11 (by assumption) | exact St.ns12 (by assumption) | exact St.ns13 (by assumption) | exact St.ns14 (by assumption) | exact St.ns10 (by assumption) | exact St.ns11 (by assumption) | exact St.ns12 (by assumption) | exact St.ns13 (by assumption) | exact St.ns14 (by assumption)) (by first | exact rfl | assumption | (simp only [List.length_map, List.length_append, List.length_cons, List.length_nil]; done) | (simp only [List.length_map, List.length_append, List.length_cons, List.length_nil]; omega)) rfl (fun _ => rfl) | exact fin_eq rfl)))
  · have e : putFE l ⟨ft, fn, vs⟩ = checkF l ⟨ft, fn, vs⟩ := by rw [putFE, if_pos hc]
    have e2 : putFS l ⟨ft, fn, vs⟩ = ⟨#[]⟩ := by rw [putFS, e, if_neg hc]
    rw [e, e2]
    repeat' (first|(first|(refine jl ?_;first|refine j1 ?_|refine j4 ?_|refine j12 (fun id hid=>?_)|refine j14 ?_|refine jp (k1) ?_)|(refine jc ?_;first|refine c1 ?_|refine c2 ?_|refine c6 ?_|refine c7 ?_)|refine n1 ?_|refine n2 ?_|refine n11 ?_)|(refine c9 (fun h=>?_) (fun h=>?_)<;>(try simp only [Bool.or_eq_true, Bool.and_eq_true, Bool.or_eq_false_iff, Bool.and_eq_false_iff, Bool.not_eq_true', Bool.not_eq_false', decide_eq_true_eq, decide_eq_false_iff_not, Bool.false_eq_true, Bool.true_eq_false, reduceCtorEq] at h)))
    · first | exact ge rfl | exact gvs (by (repeat' (first | exact finl_nil | apply finl_cons | exact Fin.refl _ _ _ | apply fin_pk2 | apply fin_pk3 | apply fin_agg | apply fin_tup | exact fin_nil | exact fin_sl rfl | exact fin_fz (by exact lkp) (by first | assumption | exact St.ns1 (by assumption) | exact St.ns2 (by assumption) | exact St.ns3 (by assumption) | exact St.ns4 (by assumption) | exact St.ns5 (by assumption) | exact St.ns6 (by assumption) | exact St.ns7 (by assumption) | exact St.ns8 (by assumption) | exact St.ns9 (by assumption) | exact St.ns10 (by assumption) | exact St.ns11 (by assumption) | exact St.ns12 (by assumption) | exact St.ns13 (by assumption) | exact St.ns14 (by assumption) | exact St.ns10 (by assumption) | exact St.ns11 (by assumption) | exact St.ns12 (by assumption) | exact St.ns13 (by assumption) | exact St.ns14 (by assumption)) (by first | exact rfl | assumption | (simp only [List.length_map, List.length_append, List.length_cons, List.length_nil]; done) | (simp only [List.length_map, List.length_append, List.length_cons, List.length_nil]; omega)) rfl (fun _ => rfl) | exact fin_eq rfl)))
    · exact absurd h hc
theorem p_rfput (nl : Option Bool) (full : Bool) (l : List Cls) (f : Fc) (hk : ∀ v ∈ f.vals, 0 ≤ v.k) (hz : ∀ v ∈ f.vals, v.s.size ≤ 60) (hv : f.vals.length ≤ 65536) : Pure Tryd.prog 39 [.sl nl full 2 (l.map cc), .agg (fc f)] (.tup [.v (.string (putFS l f)), .v (.int .i64 (putFE l f))]) := by
  refine enterW Tryd.func39 rfl rfl rfl rfl (fun σ => ?_)
  refine cj_len 0 (fun hm => ?_)
  have hn : (l.map cc).length = l.length := List.length_map ..
  obtain ⟨ft, fn, vs⟩ := f
  have k1 := p_rccheck nl full l ⟨ft, fn, vs⟩ hz
  have k2 := p_place nl full l fn
  have hpr := placeN_range l fn (by omega)
  dsimp only at hk hz hv
  have hnv : (vs.map vc).length = vs.length := List.length_map ..
  by_cases hc : checkF l ⟨ft, fn, vs⟩ = 0
  · obtain ⟨_, c, _, _, _, hvs⟩ := checkF_zero hc
    rw [hc] at k1
    have hw0 : 0 ≤ IntKind.u8.wrap (placeN l fn) ∧ IntKind.u8.wrap (placeN l fn) < 256 := by rw [wrap8]; omega
    repeat' (first|(first|(refine jl ?_;first|refine j1 ?_|refine j4 ?_|refine j12 (fun id hid=>?_)|refine j14 ?_|refine jp (k1) ?_|refine jp (k2) ?_|refine jlito (fun w hw => ?_))|(refine jc ?_;first|refine c1 ?_|refine c2 ?_|refine c5 ?_|refine c6 ?_|refine c7 ?_)|refine n1 ?_|refine n2 ?_|refine n11 ?_)|(refine c9 (fun h=>?_) (fun h=>?_)<;>(try simp only [Bool.or_eq_true, Bool.and_eq_true, Bool.or_eq_false_iff, Bool.and_eq_false_iff, Bool.not_eq_true', Bool.not_eq_false', decide_eq_true_eq, decide_eq_false_iff_not, Bool.false_eq_true, Bool.true_eq_false, reduceCtorEq] at h)))
    · exact absurd trivial h
    clear h
    generalize hd : IntKind.u8.wrap (placeN l fn) = hd0 at *
    have hb0 : [[AV.v (.int .u8 hd0)]] = bys (layB hd0 (vs.take 0)) := by
      have : ((UInt8.ofNat hd0.toNat).toNat : Int) = hd0 := by
        rw [UInt8.toNat_ofNat']; omega
      simp [layB, valsB, bys]
      omega
    first | refine cj_id 3 (fun id3 e => ?_) | refine lj_id 3 (fun id3 e => ?_)
    subst e
    refine cj_nameS (fun τ hτ => ?_)
    have hwτ : τ w = none := by rw [hτ]; exact hw
    have t3 : τ id3 = some (.row 3 28 [fc ⟨ft, fn, vs⟩]) := by rw [hτ]; exact lkp
    have hle : σ.le τ := by rw [hτ]; repeat' (first | exact St.le_refl _ | refine St.le_any ?_)
    clear hτ hw
    refine cj_for (fun s : Nat × Nat => s.1 ≤ vs.length ∧ τ s.2 = none) (fun s => [(9, .v (.int .i64 s.1)), (8, .osl s.2 1 0 (layB hd0 (vs.take s.1)).length)]) (fun s => τ.set s.2 (.row 1 5 (bys (layB hd0 (vs.take s.1))))) (fun s => vs.length - s.1) (0, w) ⟨Nat.zero_le _, hwτ⟩ ⟨⟨_, rfl, fun _ _ h => h⟩, ⟨_, rfl, fun _ _ h => h⟩, trivial⟩ (St.le_of_eq (by rw [← hb0])) (fun s hs => ?_)
    obtain ⟨i, w⟩ := s
    obtain ⟨hi, hw⟩ := hs
    dsimp only at hi hw ⊢
    have hlen := layB_len hd0 (vs.take i)
    have hln : (vs.take i).length ≤ 65536 := by rw [List.length_take]; omega
    by_cases hlt : i < vs.length
    · obtain ⟨v, hv⟩ : ∃ v, vs[i]? = some v := ⟨_, List.getElem?_eq_getElem hlt⟩
      have h4 := get_map vc hv
      have hm := List.mem_of_getElem? hv
      have k3 := p_rputv v.k v.n v.s (hk v hm) (by have := hz v hm; omega)
      have hpl := putV_len v.k v.n v.s
      have hbl : (bys (layB hd0 (vs.take i))).length = (layB hd0 (vs.take i)).length := length_bys _
      have hbl2 : (bys (putV v.k v.n v.s)).length = (putV v.k v.n v.s).length := length_bys _
      have hsn := layB_snoc hd0 hv
      have hall : (bys (layB hd0 (vs.take i))).take (layB hd0 (vs.take i)).length ++ bys (putV v.k v.n v.s) = bys (layB hd0 (vs.take (i + 1))) := by rw [List.take_of_length_le (by omega), hsn, bys_append]
      repeat' (first|(first|(refine jl ?_;first|refine jbl ?_|refine j1 ?_|refine j4 ?_|refine j14 ?_|refine ji1 ?_|refine jp (k3) ?_)|(refine jc ?_;first|refine c1 ?_|refine c2 ?_|refine c5 ?_|refine c6 ?_)|refine n1 ?_)|(refine c9 (fun h=>?_) (fun h=>?_)<;>((try simp only [Bool.or_eq_true, Bool.and_eq_true, Bool.or_eq_false_iff, Bool.and_eq_false_iff, Bool.not_eq_true', Bool.not_eq_false', decide_eq_true_eq, decide_eq_false_iff_not, Bool.false_eq_true, Bool.true_eq_false, reduceCtorEq] at h) <;> (try simp (disch := omega) only [sb_bt, w64, Int.reduceAdd, Int.reduceToNat, Int.toNat_natCast, not_true_eq_false, false_or] at h) <;> (try (exfalso; omega)))))
      refine japo (id := w) (els := bys (layB hd0 (vs.take i))) (n := (layB hd0 (vs.take i)).length) (m := (layB hd0 (vs.take (i + 1))).length) (news := bys (putV v.k v.n v.s)) (all := bys (layB hd0 (vs.take (i + 1)))) (fun w2 hw2 => ?_) hall (by rw [hsn, List.length_append, hbl2]) (hn := by omega) (hb := by omega)
      repeat (first|(refine jl ?_;first|refine j1 ?_|refine j6 ?_)|(refine jc ?_;first|refine c2 ?_)|refine n1 ?_|refine n10 ?_)
      exact nx_forS (i + 1, w2) ⟨by dsimp only; omega, St.ns1 hw2⟩ (by dsimp only; omega) ⟨⟨_, rfl, wk1 (by omega)⟩, ⟨_, rfl, Wk.refl _⟩, trivial⟩ (St.le_setk (St.le_any (St.le_del (St.le_any (St.le_refl _) hw) hw)) (St.set_same _ _ _))
    · obtain rfl : i = vs.length := by omega
      rw [List.take_length]
      have hbl : (bys (layB hd0 vs)).length = (layB hd0 vs).length := length_bys _
      have hF : bytesF l ⟨ft, fn, vs⟩ = layB hd0 vs := by rw [bytesF, hd]
      refine cj_freeze 8 (els := bys (layB hd0 vs)) rfl (St.set_same _ _ _) hbl.symm (by decide) ?_
      rw [St.del_set hw]
      repeat' (first|(first|(refine jl ?_;first|refine j7 ?_|refine j1 ?_|refine j4 ?_|refine j9 ?_|refine j14 ?_|refine j26 ?_)|(refine jc ?_;first|refine c1 ?_|refine c2 ?_|refine c6 ?_|refine c7 ?_|refine c8 ?_)|refine n1 ?_|refine n2 ?_|refine n3 ?_|refine n7 ?_|refine n8 ?_|refine n11 ?_)|(refine c9 (fun h=>?_) (fun h=>?_)<;>((try simp only [Bool.or_eq_true, Bool.and_eq_true, Bool.or_eq_false_iff, Bool.and_eq_false_iff, Bool.not_eq_true', Bool.not_eq_false', decide_eq_true_eq, decide_eq_false_iff_not, Bool.false_eq_true, Bool.true_eq_false, reduceCtorEq] at h) <;> (try simp (disch := omega) only [sb_bt, w64, Int.reduceAdd, Int.reduceToNat, Int.toNat_natCast, not_true_eq_false, false_or] at h) <;> (try (exfalso; omega)))))
      · have e : putFE l ⟨ft, fn, vs⟩ = 5 := by
          rw [putFE, if_neg (by rw [hc]; simp), hF, if_pos]
          rcases h with h | h
          · exact .inl h
          · right; omega
        rw [putFS, e, if_neg (by decide)]
        exact gvs (fin_two (Fin.refl _ _ _) (Fin.refl _ _ _)) hle
      · have e : putFE l ⟨ft, fn, vs⟩ = 0 := by
          rw [putFE, if_neg (by rw [hc]; simp), hF, if_neg]
          rintro (g | g)
          · exact h.1 g
          · omega
        rw [putFS, e, if_pos rfl, hF]
        exact gvs (fin_two (Fin.refl _ _ _) (Fin.refl _ _ _)) hle
  · have e : putFE l ⟨ft, fn, vs⟩ = checkF l ⟨ft, fn, vs⟩ := by rw [putFE, if_pos hc]
    have e2 : putFS l ⟨ft, fn, vs⟩ = ⟨#[]⟩ := by rw [putFS, e, if_neg hc]
    rw [e, e2]
    repeat' (first|(first|(refine jl ?_;first|refine j1 ?_|refine j4 ?_|refine j12 (fun id hid=>?_)|refine j14 ?_|refine jp (k1) ?_)|(refine jc ?_;first|refine c1 ?_|refine c2 ?_|refine c6 ?_|refine c7 ?_)|refine n1 ?_|refine n2 ?_|refine n11 ?_)|(refine c9 (fun h=>?_) (fun h=>?_)<;>(try simp only [Bool.or_eq_true, Bool.and_eq_true, Bool.or_eq_false_iff, Bool.and_eq_false_iff, Bool.not_eq_true', Bool.not_eq_false', decide_eq_true_eq, decide_eq_false_iff_not, Bool.false_eq_true, Bool.true_eq_false, reduceCtorEq] at h)))
    · first | exact ge rfl | exact gvs (by (repeat' (first | exact finl_nil | apply finl_cons | exact Fin.refl _ _ _ | apply fin_pk2 | apply fin_pk3 | apply fin_agg | apply fin_tup | exact fin_nil | exact fin_sl rfl | exact fin_fz (by exact lkp) (by first | assumption | exact St.ns1 (by assumption) | exact St.ns2 (by assumption) | exact St.ns3 (by assumption) | exact St.ns4 (by assumption) | exact St.ns5 (by assumption) | exact St.ns6 (by assumption) | exact St.ns7 (by assumption) | exact St.ns8 (by assumption) | exact St.ns9 (by assumption) | exact St.ns10 (by assumption) | exact St.ns11 (by assumption) | exact St.ns12 (by assumption) | exact St.ns13 (by assumption) | exact St.ns14 (by assumption) | exact St.ns10 (by assumption) | exact St.ns11 (by assumption) | exact St.ns12 (by assumption) | exact St.ns13 (by assumption) | exact St.ns14 (by assumption)) (by first | exact rfl | assumption | (simp only [List.length_map, List.length_append, List.length_cons, List.length_nil]; done) | (simp only [List.length_map, List.length_append, List.length_cons, List.length_nil]; omega)) rfl (fun _ => rfl) | exact fin_eq rfl)))
    · exact absurd h hc
end Go.Proofs.YtddljegbggncdaaDoor.Ab

/- Facts read. -/
set_option linter.unusedVariables false
set_option linter.unusedSimpArgs false
set_option maxRecDepth 20000
namespace Go.Proofs.YtddljegbggncdaaDoor.Ab
open Go
attribute [local irreducible] thn inb endR CJ LJ OpJ DJ DA DB AllocK

def noFc : Fc := ⟨0, ⟨#[]⟩, []⟩
def gotV (b : List UInt8) : Vl := ⟨(getV b).1, (getV b).2.1, (getV b).2.2.1⟩
def gotN (b : List UInt8) : Int := (getV b).2.2.2.1
def gotE (b : List UInt8) : Int := (getV b).2.2.2.2
def getVals : Nat → List UInt8 → Option (List Vl)
  | 0, b => some []
  | n + 1, b => if gotE b = 0 then (getVals n (b.drop (gotN b).toNat)).map (gotV b :: ·) else none
def getFc (l : List Cls) (tag : Int) (val : ByteArray) : Option Fc :=
  match val.data.toList with
  | [] => none
  | b0 :: rest => match l[b0.toNat]? with
    | none => none
    | some c => match getVals c.attrs.length rest with
      | none => none
      | some vs => if putFE l ⟨tag, c.name, vs⟩ = 0 ∧ putFS l ⟨tag, c.name, vs⟩ = val then some ⟨tag, c.name, vs⟩ else none
abbrev gres (r : Option Fc) : AV := .tup [.agg (fc (r.getD noFc)), .v (.int .i64 (if r.isSome = true then 0 else 4))]
theorem getF_facts (k : Int) (hk : 0 ≤ k) (r : Int × ByteArray × List UInt8 × Int) (len : Nat) (hr : r.2.2.1.length ≤ len) : 0 ≤ (getF k r len).1 ∧ 0 ≤ (getF k r len).2.2.2.1 ∧ (getF k r len).2.2.2.1 ≤ len ∧ ((getF k r len).2.2.2.2 = 0 → checkE (getF k r len).1 (getF k r len).2.1 (getF k r len).2.2.1 = 0) := by
  unfold getF
  split
  · exact ⟨Int.le_refl _, Int.le_refl _, by dsimp only; omega, fun h => by cases h⟩
  · split
    · exact ⟨Int.le_refl _, Int.le_refl _, by dsimp only; omega, fun h => by cases h⟩
    · rename_i h
      refine ⟨hk, by dsimp only; omega, by dsimp only; omega, fun _ => ?_⟩
      dsimp only
      by_cases hc : checkE k r.1 r.2.1 = 0
      · exact hc
      · exact absurd (.inr hc) h
theorem gotV_facts (b : List UInt8) : 0 ≤ (gotV b).k ∧ 0 ≤ gotN b ∧ gotN b ≤ b.length ∧ (gotE b = 0 → checkE (gotV b).k (gotV b).n (gotV b).s = 0) := by
  unfold gotV gotN gotE getV
  refine getF_facts _ ?_ _ _ ?_
  · rw [wrap8]; omega
  · have h1 := rnum_le b 0 1
    have h2 := rsigned_le (rnum b 0 1).2.1 (rnum b 0 1).2.2
    have h3 := rtext_le (rnum b 0 1).2.1 (rnum b 0 1).2.2
    unfold getB
    split
    · dsimp only; omega
    · split
      · dsimp only; omega
      · dsimp only; omega
theorem check_size {k n : Int} {s : ByteArray} (h0 : 0 ≤ k) (h : checkE k n s = 0) : s.size ≤ 60 := by
  have h2 := checkE_kind h
  by_cases hk : k = 2
  · have := checkE_size h hk; omega
  · by_cases hk1 : k = 1
    · rw [check_one h hk1]; exact Nat.zero_le _
    · rw [(check_zero h (by omega)).2]; exact Nat.zero_le _
theorem getVals_ok : ∀ (n : Nat) (b : List UInt8) (vs : List Vl), getVals n b = some vs → vs.length = n ∧ ∀ v ∈ vs, 0 ≤ v.k ∧ v.s.size ≤ 60 ∧ checkE v.k v.n v.s = 0
  | 0, b, vs, h => by cases h; exact ⟨rfl, fun v hv => by cases hv⟩
  | n + 1, b, vs, h => by
    unfold getVals at h
    split at h
    · rename_i he
      cases hg : getVals n (b.drop (gotN b).toNat) with
      | none => rw [hg] at h; cases h
      | some vs' =>
        rw [hg] at h
        cases h
        obtain ⟨h1, h2⟩ := getVals_ok n _ vs' hg
        obtain ⟨g1, _, _, g4⟩ := gotV_facts b
        refine ⟨by rw [List.length_cons, h1], fun v hv => ?_⟩
        rcases List.mem_cons.1 hv with rfl | hv
        · exact ⟨g1, check_size g1 (g4 he), g4 he⟩
        · exact h2 v hv
    · cases h
set_option maxHeartbeats 2000000 in
theorem p_fget (nl : Option Bool) (full : Bool) (l : List Cls) (tag : Int) (val : ByteArray) (hl : ∀ c ∈ l, c.attrs.length ≤ 20) (hv : val.size ≤ 140737488355328) : Pure Tryd.prog 40 [.sl nl full 2 (l.map cc), .v (.int .i64 tag), .v (.string val)] (gres (getFc l tag val)) := by
  refine enterW Tryd.func40 rfl rfl rfl rfl (fun σ => ?_)
  refine cj_len 0 (fun hm => ?_)
  have hn : (l.map cc).length = l.length := List.length_map ..
  have hsz := ba_sizeL val
  have hs := ba_list val
  cases hL : val.data.toList with
  | nil =>
    rw [hL] at hsz hs
    have hr : getFc l tag val = none := by unfold getFc; rw [hL]
    rw [hr]
    subst hs
    repeat' (first|(first|(refine jl ?_;first|refine j7 ?_|refine jb ?_|refine j1 ?_|refine j4 ?_|refine j9 ?_|refine j13 (fun id hid=>?_)|refine j17t ?_|refine jff ?_)|(refine jc ?_;first|refine c1 ?_|refine c2 ?_|refine c6 ?_|refine c7 ?_)|refine n1 ?_|refine n2 ?_|refine n15 ?_)|(refine c9 (fun h=>?_) (fun h=>?_)<;>(try simp only [Bool.or_eq_true, Bool.and_eq_true, Bool.or_eq_false_iff, Bool.and_eq_false_iff, Bool.not_eq_true', Bool.not_eq_false', decide_eq_true_eq, decide_eq_false_iff_not, Bool.false_eq_true, Bool.true_eq_false, reduceCtorEq] at h)))
    · first | exact ge rfl | exact gvs (by (repeat' (first | exact finl_nil | apply finl_cons | exact Fin.refl _ _ _ | apply fin_pk2 | apply fin_pk3 | apply fin_agg | apply fin_tup | exact fin_nil | exact fin_sl rfl | exact fin_fz (by exact lkp) (by first | assumption | exact St.ns1 (by assumption) | exact St.ns2 (by assumption) | exact St.ns3 (by assumption) | exact St.ns4 (by assumption) | exact St.ns5 (by assumption) | exact St.ns6 (by assumption) | exact St.ns7 (by assumption) | exact St.ns8 (by assumption) | exact St.ns9 (by assumption) | exact St.ns10 (by assumption) | exact St.ns11 (by assumption) | exact St.ns12 (by assumption) | exact St.ns13 (by assumption) | exact St.ns14 (by assumption) | exact St.ns10 (by assumption) | exact St.ns11 (by assumption) | exact St.ns12 (by assumption) | exact St.ns13 (by assumption) | exact St.ns14 (by assumption)) (by first | exact rfl | assumption | (simp only [List.length_map, List.length_append, List.length_cons, List.length_nil]; done) | (simp only [List.length_map, List.length_append, List.length_cons, List.length_nil]; omega)) rfl (fun _ => rfl) | exact fin_eq rfl)))
    · exact absurd trivial h.1
  | cons b0 rest0 =>
    rw [hL] at hsz hs
    rw [List.length_cons] at hsz
    have hb0 := b0.toNat_lt
    have hsb : sb val 0 = b0.toNat := by rw [sb, hL]; rfl
    have hbt : IntKind.i64.wrap ((bt val 0 : Nat) : Int) = b0.toNat := by rw [show bt val 0 = b0.toNat by rw [bt, hL]; rfl]; exact wrap8in b0
    have hne : ¬ val = ⟨#[]⟩ := by rintro rfl; cases hL
    have e2 : (val.extract 1 val.size).data.toList = rest0 := by
      rw [← hsz, hs, ex_list]
      simp
    have hsub : (val.extract 1 val.size).size ≤ maxLen := by
      rw [← ba_sizeL, e2, maxLen]; omega
    by_cases hlt : b0.toNat < l.length
    · obtain ⟨c, hc⟩ : ∃ c, l[b0.toNat]? = some c := ⟨_, List.getElem?_eq_getElem hlt⟩
      have h4 : (l.map cc)[(sb val 0).toNat]? = some (cc c) := by rw [hsb, Int.toNat_natCast, List.getElem?_map, hc]; rfl
      have h4' : (l.map cc)[(IntKind.i64.wrap (sb val 0)).toNat]? = some (cc c) := by rw [hsb, wrap8in, Int.toNat_natCast, List.getElem?_map, hc]; rfl
      have hcl := hl c (List.mem_of_getElem? hc)
      have hca : (c.attrs.map str1).length = c.attrs.length := List.length_map ..
      have hr : getFc l tag val = match getVals c.attrs.length rest0 with
          | none => none
          | some vs => if putFE l ⟨tag, c.name, vs⟩ = 0 ∧ putFS l ⟨tag, c.name, vs⟩ = val then some ⟨tag, c.name, vs⟩ else none := by
        unfold getFc; rw [hL]; dsimp only; rw [hc]
      repeat' (first|(first|(refine jl ?_;first|refine j7 ?_|refine jb ?_|refine jbl ?_|refine j1 ?_|refine j4 ?_|refine j9 ?_|refine j13 (fun id hid=>?_)|refine j14 ?_|refine j17t ?_|refine j18 ?_|refine j20 ?_|refine j21 ?_|refine ji1 ?_|refine jtb (lb := rest0) hsub e2 ?_)|(refine jc ?_;first|refine c1 ?_|refine c2 ?_|refine c5 ?_|refine c6 ?_|refine c7 ?_)|refine n1 ?_|refine n2 ?_|refine n15 ?_)|(refine c9 (fun h=>?_) (fun h=>?_)<;>((try simp only [Bool.or_eq_true, Bool.and_eq_true, Bool.or_eq_false_iff, Bool.and_eq_false_iff, Bool.not_eq_true', Bool.not_eq_false', decide_eq_true_eq, decide_eq_false_iff_not, Bool.false_eq_true, Bool.true_eq_false, reduceCtorEq] at h) <;> (try simp (disch := omega) only [sb_bt, w64, Int.reduceAdd, Int.reduceToNat, Int.toNat_natCast, not_true_eq_false, false_or] at h) <;> (try (exfalso; omega)))))
      · exfalso
        rcases h with h | h
        · exact hne h
        · rw [hbt] at h; omega
      clear h
      first | refine cj_id 6 (fun id6 e => ?_) | refine lj_id 6 (fun id6 e => ?_)
      subst e
      first | refine cj_id 8 (fun id8 e => ?_) | refine lj_id 8 (fun id8 e => ?_)
      subst e
      first | refine cj_id 9 (fun id9 e => ?_) | refine lj_id 9 (fun id9 e => ?_)
      subst e
      have hf9 := hid
      have n69 : id6 ≠ id9 := St.nn1 hf9
      have n89 : id8 ≠ id9 := St.nn0 hf9
      have s9 : σ id9 = none := St.ns2 hf9
      have s6 : σ id6 = none := by assumption
      refine cj_name (fun τ hτ => ?_)
      have t6 : τ id6 = some (.row 3 28 [[.v (.int .i64 0), .v (.string ⟨#[]⟩), .sl (some true) true 1 []]]) := by rw [hτ]; exact lkp
      have t8 : τ id8 = some (.row 2 95 [cc c]) := by rw [hτ]; exact lkp
      have t9 : τ id9 = some (.row 3 28 [[.v (.int .i64 tag), .v (.string c.name), .sl (some true) true 1 []]]) := by rw [hτ]; exact lkp
      have hle : σ.le τ := by rw [hτ]; repeat' (first | exact St.le_refl _ | refine St.le_any ?_)
      clear hτ hf9 hid
      refine cj_nilcell 9 2 3 37 (fun w0 hw0 => ?_)
      refine cj_for (fun s : Nat × Nat × List Vl × List UInt8 => s.1 ≤ c.attrs.length ∧ τ s.2.1 = none ∧ s.2.2.1.length = s.1 ∧ getVals c.attrs.length rest0 = (getVals (c.attrs.length - s.1) s.2.2.2).map (s.2.2.1 ++ ·) ∧ s.2.2.2.length ≤ rest0.length) (fun s => [(42, .v (.int .i64 s.1)), (10, .sl none false 1 (bys s.2.2.2))]) (fun s => (τ.set s.2.1 (.row 3 37 (s.2.2.1.map vc))).set id9 (.row 3 28 [[.v (.int .i64 tag), .v (.string c.name), .osl s.2.1 3 0 s.2.2.1.length]])) (fun s => c.attrs.length - s.1) (0, w0, [], rest0) ⟨Nat.zero_le _, hw0, rfl, by simp, Nat.le_refl _⟩ ⟨⟨_, rfl, fun _ _ h => h⟩, ⟨_, rfl, fun _ _ h => h⟩, trivial⟩ (St.le_refl _) (fun s hs => ?_)
      obtain ⟨k, w, vs, rest⟩ := s
      obtain ⟨hk, hw, hvl, hg, hrl⟩ := hs
      dsimp only at hk hw hvl hg hrl ⊢
      have nw6 : w ≠ id6 := St.ne_some hw t6
      have nw8 : w ≠ id8 := St.ne_some hw t8
      have nw9 : w ≠ id9 := St.ne_some hw t9
      have hlr : (bys rest).length = rest.length := length_bys _
      by_cases hkn : k < c.attrs.length
      · obtain ⟨m, hm'⟩ : ∃ m, c.attrs.length - k = m + 1 := ⟨c.attrs.length - k - 1, by omega⟩
        rw [hm', getVals] at hg
        obtain ⟨g1, g2, g3, g4⟩ := gotV_facts rest
        have g2' : 0 ≤ (getV rest).2.2.2.1 := g2
        have g3' : (getV rest).2.2.2.1 ≤ ((bys rest).length : Nat) := by rw [hlr]; exact g3
        have k1 := p_getv none false rest (by omega)
        have hcut : ((bys rest).take (((bys rest).length : Nat) : Int).toNat).drop ((getV rest).2.2.2.1).toNat = bys (rest.drop (gotN rest).toNat) := by rw [Int.toNat_natCast, List.take_length, bys_drop]; rfl
        repeat' (first|(first|(refine jl ?_;first|refine jb ?_|refine j1 ?_|refine j4 ?_|refine j13 (fun id hid=>?_)|refine j14 ?_|refine j17t ?_|refine j17 ?_|refine jp (k1) ?_|refine jlit ?_)|(refine jc ?_;first|refine c1 ?_|refine c2 ?_|refine c5 ?_|refine c6 ?_|refine c7 ?_)|refine n1 ?_|refine n2 ?_|refine n5 ?_|refine n6 ?_|refine n15 ?_)|(refine c9 (fun h=>?_) (fun h=>?_)<;>((try simp only [Bool.or_eq_true, Bool.and_eq_true, Bool.or_eq_false_iff, Bool.and_eq_false_iff, Bool.not_eq_true', Bool.not_eq_false', decide_eq_true_eq, decide_eq_false_iff_not, Bool.false_eq_true, Bool.true_eq_false, reduceCtorEq] at h) <;> (try simp (disch := omega) only [sb_bt, w64, Int.reduceAdd, Int.reduceToNat, Int.toNat_natCast, not_true_eq_false, false_or] at h) <;> (try (exfalso; omega)))))
        · have hge : ¬ gotE rest = 0 := h
          rw [if_neg hge] at hg
          rw [hg] at hr
          rw [hr]
          have h8 := St.le_any (x := .row 3 37 (vs.map vc)) hle (St.none_le hle hw)
          have h9 := St.le_any (x := .row 3 28 [[.v (.int .i64 tag), .v (.string c.name), .osl w 3 0 vs.length]]) h8 s9
          exact gvs (by (repeat' (first | exact finl_nil | apply finl_cons | exact Fin.refl _ _ _ | apply fin_pk2 | apply fin_pk3 | apply fin_agg | apply fin_tup | exact fin_nil | exact fin_sl rfl | exact fin_fz (by exact lkp) (by first | assumption | exact St.ns1 (by assumption) | exact St.ns2 (by assumption) | exact St.ns3 (by assumption) | exact St.ns4 (by assumption) | exact St.ns5 (by assumption) | exact St.ns6 (by assumption) | exact St.ns7 (by assumption) | exact St.ns8 (by assumption) | exact St.ns9 (by assumption) | exact St.ns10 (by assumption) | exact St.ns11 (by assumption) | exact St.ns12 (by assumption) | exact St.ns13 (by assumption) | exact St.ns14 (by assumption) | exact St.ns10 (by assumption) | exact St.ns11 (by assumption) | exact St.ns12 (by assumption) | exact St.ns13 (by assumption) | exact St.ns14 (by assumption)) (by first | exact rfl | assumption | (simp only [List.length_map, List.length_append, List.length_cons, List.length_nil]; done) | (simp only [List.length_map, List.length_append, List.length_cons, List.length_nil]; omega)) rfl (fun _ => rfl) | exact fin_eq rfl))) (St.le_any (St.le_any h9 (St.none_le h9 hid)) s6)
        · have hge : gotE rest = 0 := h
          rw [if_pos hge, Option.map_map] at hg
          have hn1 : (vs.map vc).length = vs.length := List.length_map ..
          have hall : (vs.map vc).take vs.length ++ [vc (gotV rest)] = (vs ++ [gotV rest]).map vc := by rw [List.take_of_length_le (by omega), List.map_append]; rfl
          have hf11 := hid
          refine japo (id := w) (els := vs.map vc) (n := vs.length) (m := vs.length + 1) (news := [vc (gotV rest)]) (all := (vs ++ [gotV rest]).map vc) (fun w2 hw2 => ?_) hall rfl (hn := by omega) (hb := by dsimp only [List.length]; omega)
          have hw2' : τ w2 = none := St.ns3 hw2
          have n29 : w2 ≠ id9 := St.ne_some hw2' t9
          refine j1 ?_
          refine j17 (hσ := by rw [St.set_ne' _ _ _ n29, St.del_ne nw9, St.set_ne _ _ _ (St.nn0 hf11)]; exact St.set_same _ _ _) ?_
          repeat (first|(refine jl ?_;first|refine j1 ?_|refine j4 ?_|refine j6 ?_|refine jcf (l := (getV rest).2.2.2.1) (h := (((bys rest).length : Nat) : Int)) (all := bys (rest.drop (gotN rest).toNat)) ?_ hcut (h0 := g2') (h1 := g3') (h2 := by omega))|(refine jc ?_;first|refine c2 ?_)|refine n1 ?_|refine n10 ?_)
          refine nx_forS (k + 1, w2, vs ++ [gotV rest], rest.drop (gotN rest).toNat) ⟨by dsimp only; omega, hw2', by dsimp only; rw [List.length_append, hvl]; rfl, ?_, ?_⟩ (by dsimp only; omega) ⟨⟨_, rfl, wk1 (by omega)⟩, ⟨_, rfl, Wk.refl _⟩, trivial⟩ ?_
          · dsimp only
            rw [hg, show c.attrs.length - (k + 1) = m by omega]
            congr 1
            funext x
            simp
          · dsimp only
            rw [List.length_drop]; omega
          · dsimp only
            rw [List.length_append, List.length_singleton]
            exact St.le_set2 (St.leX_same (St.leX_setk (St.leX_del (St.leX_any (St.leX_same (St.leX_any (St.leX_refl _ _) hw)) (St.ns2 hf11)) hw))) (St.set_same _ _ _)
      · obtain rfl : k = c.attrs.length := by omega
        rw [Nat.sub_self, getVals, Option.map_some, List.append_nil] at hg
        rw [hg] at hr
        dsimp only at hr
        obtain ⟨_, hok⟩ := getVals_ok _ _ _ hg
        refine cj_freezecell 9 2 (vs.map vc) ?_ (by rw [List.length_map]) nw9
        rw [St.del_set2 hw nw9]
        have k2 := p_fput nl full l ⟨tag, c.name, vs⟩ (fun v hv => (hok v hv).1) (by dsimp only; omega)
        repeat' (first|(first|(refine jl ?_;first|refine j7 ?_|refine jb ?_|refine j1 ?_|refine j4 ?_|refine j9 ?_|refine j14 ?_|refine j17 ?_|refine jp (k2) ?_)|(refine jc ?_;first|refine c1 ?_|refine c2 ?_|refine c6 ?_|refine c7 ?_|refine c8 ?_)|refine n1 ?_|refine n2 ?_|refine n3 ?_|refine n7 ?_|refine n8 ?_|refine n15 ?_)|(refine c9 (fun h=>?_) (fun h=>?_)<;>((try simp only [Bool.or_eq_true, Bool.and_eq_true, Bool.or_eq_false_iff, Bool.and_eq_false_iff, Bool.not_eq_true', Bool.not_eq_false', decide_eq_true_eq, decide_eq_false_iff_not, Bool.false_eq_true, Bool.true_eq_false, reduceCtorEq] at h) <;> (try simp (disch := omega) only [sb_bt, w64, Int.reduceAdd, Int.reduceToNat, Int.toNat_natCast, not_true_eq_false, false_or] at h) <;> (try (exfalso; omega)))))
        · rw [if_neg (by rintro ⟨e1, e2⟩; rcases h with h | h; exact h e1; exact h e2)] at hr
          rw [hr]
          exact gvs (by (repeat' (first | exact finl_nil | apply finl_cons | exact Fin.refl _ _ _ | apply fin_pk2 | apply fin_pk3 | apply fin_agg | apply fin_tup | exact fin_nil | exact fin_sl rfl | exact fin_fz (by exact lkp) (by first | assumption | exact St.ns1 (by assumption) | exact St.ns2 (by assumption) | exact St.ns3 (by assumption) | exact St.ns4 (by assumption) | exact St.ns5 (by assumption) | exact St.ns6 (by assumption) | exact St.ns7 (by assumption) | exact St.ns8 (by assumption) | exact St.ns9 (by assumption) | exact St.ns10 (by assumption) | exact St.ns11 (by assumption) | exact St.ns12 (by assumption) | exact St.ns13 (by assumption) | exact St.ns14 (by assumption) | exact St.ns10 (by assumption) | exact St.ns11 (by assumption) | exact St.ns12 (by assumption) | exact St.ns13 (by assumption) | exact St.ns14 (by assumption)) (by first | exact rfl | assumption | (simp only [List.length_map, List.length_append, List.length_cons, List.length_nil]; done) | (simp only [List.length_map, List.length_append, List.length_cons, List.length_nil]; omega)) rfl (fun _ => rfl) | exact fin_eq rfl))) (St.le_any (St.le_any hle s9) s6)
        · rw [if_pos h] at hr
          rw [hr]
          exact gvs (by (repeat' (first | exact finl_nil | apply finl_cons | exact Fin.refl _ _ _ | apply fin_pk2 | apply fin_pk3 | apply fin_agg | apply fin_tup | exact fin_nil | exact fin_sl rfl | exact fin_fz (by exact lkp) (by first | assumption | exact St.ns1 (by assumption) | exact St.ns2 (by assumption) | exact St.ns3 (by assumption) | exact St.ns4 (by assumption) | exact St.ns5 (by assumption) | exact St.ns6 (by assumption) | exact St.ns7 (by assumption) | exact St.ns8 (by assumption) | exact St.ns9 (by assumption) | exact St.ns10 (by assumption) | exact St.ns11 (by assumption) | exact St.ns12 (by assumption) | exact St.ns13 (by assumption) | exact St.ns14 (by assumption) | exact St.ns10 (by assumption) | exact St.ns11 (by assumption) | exact St.ns12 (by assumption) | exact St.ns13 (by assumption) | exact St.ns14 (by assumption)) (by first | exact rfl | assumption | (simp only [List.length_map, List.length_append, List.length_cons, List.length_nil]; done) | (simp only [List.length_map, List.length_append, List.length_cons, List.length_nil]; omega)) rfl (fun _ => rfl) | exact fin_eq rfl))) (St.le_any (St.le_any hle s9) s6)
    · have hr : getFc l tag val = none := by
        unfold getFc; rw [hL]; dsimp only
        rw [List.getElem?_eq_none (by omega)]
      rw [hr]
      repeat' (first|(first|(refine jl ?_;first|refine j7 ?_|refine jb ?_|refine j1 ?_|refine j4 ?_|refine j9 ?_|refine j13 (fun id hid=>?_)|refine j17t ?_|refine j20 ?_)|(refine jc ?_;first|refine c1 ?_|refine c2 ?_|refine c7 ?_)|refine n2 ?_|refine n15 ?_)|(refine c9 (fun h=>?_) (fun h=>?_)<;>((try simp only [Bool.or_eq_true, Bool.and_eq_true, Bool.or_eq_false_iff, Bool.and_eq_false_iff, Bool.not_eq_true', Bool.not_eq_false', decide_eq_true_eq, decide_eq_false_iff_not, Bool.false_eq_true, Bool.true_eq_false, reduceCtorEq] at h) <;> (try simp (disch := omega) only [sb_bt, w64, Int.reduceAdd, Int.reduceToNat, Int.toNat_natCast, not_true_eq_false, false_or] at h) <;> (try (exfalso; omega)))))
      first | exact ge rfl | exact gvs (by (repeat' (first | exact finl_nil | apply finl_cons | exact Fin.refl _ _ _ | apply fin_pk2 | apply fin_pk3 | apply fin_agg | apply fin_tup | exact fin_nil | exact fin_sl rfl | exact fin_fz (by exact lkp) (by first | assumption | exact St.ns1 (by assumption) | exact St.ns2 (by assumption) | exact St.ns3 (by assumption) | exact St.ns4 (by assumption) | exact St.ns5 (by assumption) | exact St.ns6 (by assumption) | exact St.ns7 (by assumption) | exact St.ns8 (by assumption) | exact St.ns9 (by assumption) | exact St.ns10 (by assumption) | exact St.ns11 (by assumption) | exact St.ns12 (by assumption) | exact St.ns13 (by assumption) | exact St.ns14 (by assumption) | exact St.ns10 (by assumption) | exact St.ns11 (by assumption) | exact St.ns12 (by assumption) | exact St.ns13 (by assumption) | exact St.ns14 (by assumption)) (by first | exact rfl | assumption | (simp only [List.length_map, List.length_append, List.length_cons, List.length_nil]; done) | (simp only [List.length_map, List.length_append, List.length_cons, List.length_nil]; omega)) rfl (fun _ => rfl) | exact fin_eq rfl)))
set_option maxHeartbeats 2000000 in
theorem p_rfget (nl : Option Bool) (full : Bool) (l : List Cls) (tag : Int) (val : ByteArray) (hl : ∀ c ∈ l, c.attrs.length ≤ 20) (hv : val.size ≤ 140737488355328) : Pure Tryd.prog 41 [.sl nl full 2 (l.map cc), .v (.int .i64 tag), .v (.string val)] (gres (getFc l tag val)) := by
  refine enterW Tryd.func41 rfl rfl rfl rfl (fun σ => ?_)
  refine cj_len 0 (fun hm => ?_)
  have hn : (l.map cc).length = l.length := List.length_map ..
  have hsz := ba_sizeL val
  have hs := ba_list val
  cases hL : val.data.toList with
  | nil =>
    rw [hL] at hsz hs
    have hr : getFc l tag val = none := by unfold getFc; rw [hL]
    rw [hr]
    subst hs
    repeat' (first|(first|(refine jl ?_;first|refine j7 ?_|refine jb ?_|refine j1 ?_|refine j4 ?_|refine j9 ?_|refine j13 (fun id hid=>?_)|refine j17t ?_|refine jff ?_)|(refine jc ?_;first|refine c1 ?_|refine c2 ?_|refine c6 ?_|refine c7 ?_)|refine n1 ?_|refine n2 ?_|refine n15 ?_)|(refine c9 (fun h=>?_) (fun h=>?_)<;>(try simp only [Bool.or_eq_true, Bool.and_eq_true, Bool.or_eq_false_iff, Bool.and_eq_false_iff, Bool.not_eq_true', Bool.not_eq_false', decide_eq_true_eq, decide_eq_false_iff_not, Bool.false_eq_true, Bool.true_eq_false, reduceCtorEq] at h)))
    · first | exact ge rfl | exact gvs (by (repeat' (first | exact finl_nil | apply finl_cons | exact Fin.refl _ _ _ | apply fin_pk2 | apply fin_pk3 | apply fin_agg | apply fin_tup | exact fin_nil | exact fin_sl rfl | exact fin_fz (by exact lkp) (by first | assumption | exact St.ns1 (by assumption) | exact St.ns2 (by assumption) | exact St.ns3 (by assumption) | exact St.ns4 (by assumption) | exact St.ns5 (by assumption) | exact St.ns6 (by assumption) | exact St.ns7 (by assumption) | exact St.ns8 (by assumption) | exact St.ns9 (by assumption) | exact St.ns10 (by assumption) | exact St.ns11 (by assumption) | exact St.ns12 (by assumption) | exact St.ns13 (by assumption) | exact St.ns14 (by assumption) | exact St.ns10 (by assumption) | exact St.ns11 (by assumption) | exact St.ns12 (by assumption) | exact St.ns13 (by assumption) | exact St.ns14 (by assumption)) (by first | exact rfl | assumption | (simp only [List.length_map, List.length_append, List.length_cons, List.length_nil]; done) | (simp only [List.length_map, List.length_append, List.length_cons, List.length_nil]; omega)) rfl (fun _ => rfl) | exact fin_eq rfl)))
    · exact absurd trivial h.1
  | cons b0 rest0 =>
    rw [hL] at hsz hs
    rw [List.length_cons] at hsz
    have hb0 := b0.toNat_lt
    have hsb : sb val 0 = b0.toNat := by rw [sb, hL]; rfl
    have hbt : IntKind.i64.wrap ((bt val 0 : Nat) : Int) = b0.toNat := by rw [show bt val 0 = b0.toNat by rw [bt, hL]; rfl]; exact wrap8in b0
    have hne : ¬ val = ⟨#[]⟩ := by rintro rfl; cases hL
    have e2 : (val.extract 1 val.size).data.toList = rest0 := by
      rw [← hsz, hs, ex_list]
      simp
    have hsub : (val.extract 1 val.size).size ≤ maxLen := by
      rw [← ba_sizeL, e2, maxLen]; omega
    by_cases hlt : b0.toNat < l.length
    · obtain ⟨c, hc⟩ : ∃ c, l[b0.toNat]? = some c := ⟨_, List.getElem?_eq_getElem hlt⟩
      have h4 : (l.map cc)[(sb val 0).toNat]? = some (cc c) := by rw [hsb, Int.toNat_natCast, List.getElem?_map, hc]; rfl
      have h4' : (l.map cc)[(IntKind.i64.wrap (sb val 0)).toNat]? = some (cc c) := by rw [hsb, wrap8in, Int.toNat_natCast, List.getElem?_map, hc]; rfl
      have hcl := hl c (List.mem_of_getElem? hc)
      have hca : (c.attrs.map str1).length = c.attrs.length := List.length_map ..
      have hr : getFc l tag val = match getVals c.attrs.length rest0 with
          | none => none
          | some vs => if putFE l ⟨tag, c.name, vs⟩ = 0 ∧ putFS l ⟨tag, c.name, vs⟩ = val then some ⟨tag, c.name, vs⟩ else none := by
        unfold getFc; rw [hL]; dsimp only; rw [hc]
      repeat' (first|(first|(refine jl ?_;first|refine j7 ?_|refine jb ?_|refine jbl ?_|refine j1 ?_|refine j4 ?_|refine j9 ?_|refine j13 (fun id hid=>?_)|refine j14 ?_|refine j17t ?_|refine j18 ?_|refine j20 ?_|refine j21 ?_|refine ji1 ?_|refine jtb (lb := rest0) hsub e2 ?_)|(refine jc ?_;first|refine c1 ?_|refine c2 ?_|refine c5 ?_|refine c6 ?_|refine c7 ?_)|refine n1 ?_|refine n2 ?_|refine n15 ?_)|(refine c9 (fun h=>?_) (fun h=>?_)<;>((try simp only [Bool.or_eq_true, Bool.and_eq_true, Bool.or_eq_false_iff, Bool.and_eq_false_iff, Bool.not_eq_true', Bool.not_eq_false', decide_eq_true_eq, decide_eq_false_iff_not, Bool.false_eq_true, Bool.true_eq_false, reduceCtorEq] at h) <;> (try simp (disch := omega) only [sb_bt, w64, Int.reduceAdd, Int.reduceToNat, Int.toNat_natCast, not_true_eq_false, false_or] at h) <;> (try (exfalso; omega)))))
      · exfalso
        rcases h with h | h
        · exact hne h
        · rw [hbt] at h; omega
      clear h
      first | refine cj_id 6 (fun id6 e => ?_) | refine lj_id 6 (fun id6 e => ?_)
      subst e
      first | refine cj_id 8 (fun id8 e => ?_) | refine lj_id 8 (fun id8 e => ?_)
      subst e
      first | refine cj_id 9 (fun id9 e => ?_) | refine lj_id 9 (fun id9 e => ?_)
      subst e
      have hf9 := hid
      have n69 : id6 ≠ id9 := St.nn1 hf9
      have n89 : id8 ≠ id9 := St.nn0 hf9
      have s9 : σ id9 = none := St.ns2 hf9
      have s6 : σ id6 = none := by assumption
      refine cj_name (fun τ hτ => ?_)
      have t6 : τ id6 = some (.row 3 28 [[.v (.int .i64 0), .v (.string ⟨#[]⟩), .sl (some true) true 1 []]]) := by rw [hτ]; exact lkp
      have t8 : τ id8 = some (.row 2 95 [cc c]) := by rw [hτ]; exact lkp
      have t9 : τ id9 = some (.row 3 28 [[.v (.int .i64 tag), .v (.string c.name), .sl (some true) true 1 []]]) := by rw [hτ]; exact lkp
      have hle : σ.le τ := by rw [hτ]; repeat' (first | exact St.le_refl _ | refine St.le_any ?_)
      clear hτ hf9 hid
      refine cj_nilcell 9 2 3 37 (fun w0 hw0 => ?_)
      refine cj_for (fun s : Nat × Nat × List Vl × List UInt8 => s.1 ≤ c.attrs.length ∧ τ s.2.1 = none ∧ s.2.2.1.length = s.1 ∧ getVals c.attrs.length rest0 = (getVals (c.attrs.length - s.1) s.2.2.2).map (s.2.2.1 ++ ·) ∧ s.2.2.2.length ≤ rest0.length) (fun s => [(11, .v (.int .i64 s.1)), (10, .sl none false 1 (bys s.2.2.2))]) (fun s => (τ.set s.2.1 (.row 3 37 (s.2.2.1.map vc))).set id9 (.row 3 28 [[.v (.int .i64 tag), .v (.string c.name), .osl s.2.1 3 0 s.2.2.1.length]])) (fun s => c.attrs.length - s.1) (0, w0, [], rest0) ⟨Nat.zero_le _, hw0, rfl, by simp, Nat.le_refl _⟩ ⟨⟨_, rfl, fun _ _ h => h⟩, ⟨_, rfl, fun _ _ h => h⟩, trivial⟩ (St.le_refl _) (fun s hs => ?_)
      obtain ⟨k, w, vs, rest⟩ := s
      obtain ⟨hk, hw, hvl, hg, hrl⟩ := hs
      dsimp only at hk hw hvl hg hrl ⊢
      have nw6 : w ≠ id6 := St.ne_some hw t6
      have nw8 : w ≠ id8 := St.ne_some hw t8
      have nw9 : w ≠ id9 := St.ne_some hw t9
      have hlr : (bys rest).length = rest.length := length_bys _
      by_cases hkn : k < c.attrs.length
      · obtain ⟨m, hm'⟩ : ∃ m, c.attrs.length - k = m + 1 := ⟨c.attrs.length - k - 1, by omega⟩
        rw [hm', getVals] at hg
        obtain ⟨g1, g2, g3, g4⟩ := gotV_facts rest
        have g2' : 0 ≤ (getV rest).2.2.2.1 := g2
        have g3' : (getV rest).2.2.2.1 ≤ ((bys rest).length : Nat) := by rw [hlr]; exact g3
        have k1 := p_rgetv none false rest (by omega)
        have hcut : ((bys rest).take (((bys rest).length : Nat) : Int).toNat).drop ((getV rest).2.2.2.1).toNat = bys (rest.drop (gotN rest).toNat) := by rw [Int.toNat_natCast, List.take_length, bys_drop]; rfl
        repeat' (first|(first|(refine jl ?_;first|refine jb ?_|refine j1 ?_|refine j4 ?_|refine j13 (fun id hid=>?_)|refine j14 ?_|refine j17t ?_|refine j17 ?_|refine jp (k1) ?_|refine jlit ?_)|(refine jc ?_;first|refine c1 ?_|refine c2 ?_|refine c5 ?_|refine c6 ?_|refine c7 ?_)|refine n1 ?_|refine n2 ?_|refine n5 ?_|refine n6 ?_|refine n15 ?_)|(refine c9 (fun h=>?_) (fun h=>?_)<;>((try simp only [Bool.or_eq_true, Bool.and_eq_true, Bool.or_eq_false_iff, Bool.and_eq_false_iff, Bool.not_eq_true', Bool.not_eq_false', decide_eq_true_eq, decide_eq_false_iff_not, Bool.false_eq_true, Bool.true_eq_false, reduceCtorEq] at h) <;> (try simp (disch := omega) only [sb_bt, w64, Int.reduceAdd, Int.reduceToNat, Int.toNat_natCast, not_true_eq_false, false_or] at h) <;> (try (exfalso; omega)))))
        · have hge : ¬ gotE rest = 0 := h
          rw [if_neg hge] at hg
          rw [hg] at hr
          rw [hr]
          have h8 := St.le_any (x := .row 3 37 (vs.map vc)) hle (St.none_le hle hw)
          have h9 := St.le_any (x := .row 3 28 [[.v (.int .i64 tag), .v (.string c.name), .osl w 3 0 vs.length]]) h8 s9
          exact gvs (by (repeat' (first | exact finl_nil | apply finl_cons | exact Fin.refl _ _ _ | apply fin_pk2 | apply fin_pk3 | apply fin_agg | apply fin_tup | exact fin_nil | exact fin_sl rfl | exact fin_fz (by exact lkp) (by first | assumption | exact St.ns1 (by assumption) | exact St.ns2 (by assumption) | exact St.ns3 (by assumption) | exact St.ns4 (by assumption) | exact St.ns5 (by assumption) | exact St.ns6 (by assumption) | exact St.ns7 (by assumption) | exact St.ns8 (by assumption) | exact St.ns9 (by assumption) | exact St.ns10 (by assumption) | exact St.ns11 (by assumption) | exact St.ns12 (by assumption) | exact St.ns13 (by assumption) | exact St.ns14 (by assumption) | exact St.ns10 (by assumption) | exact St.ns11 (by assumption) | exact St.ns12 (by assumption) | exact St.ns13 (by assumption) | exact St.ns14 (by assumption)) (by first | exact rfl | assumption | (simp only [List.length_map, List.length_append, List.length_cons, List.length_nil]; done) | (simp only [List.length_map, List.length_append, List.length_cons, List.length_nil]; omega)) rfl (fun _ => rfl) | exact fin_eq rfl))) (St.le_any (St.le_any h9 (St.none_le h9 hid)) s6)
        · have hge : gotE rest = 0 := h
          rw [if_pos hge, Option.map_map] at hg
          have hn1 : (vs.map vc).length = vs.length := List.length_map ..
          have hall : (vs.map vc).take vs.length ++ [vc (gotV rest)] = (vs ++ [gotV rest]).map vc := by rw [List.take_of_length_le (by omega), List.map_append]; rfl
          have hf11 := hid
          refine japo (id := w) (els := vs.map vc) (n := vs.length) (m := vs.length + 1) (news := [vc (gotV rest)]) (all := (vs ++ [gotV rest]).map vc) (fun w2 hw2 => ?_) hall rfl (hn := by omega) (hb := by dsimp only [List.length]; omega)
          have hw2' : τ w2 = none := St.ns3 hw2
          have n29 : w2 ≠ id9 := St.ne_some hw2' t9
          refine j1 ?_
          refine j17 (hσ := by rw [St.set_ne' _ _ _ n29, St.del_ne nw9, St.set_ne _ _ _ (St.nn0 hf11)]; exact St.set_same _ _ _) ?_
          repeat (first|(refine jl ?_;first|refine j1 ?_|refine j4 ?_|refine j6 ?_|refine jcf (l := (getV rest).2.2.2.1) (h := (((bys rest).length : Nat) : Int)) (all := bys (rest.drop (gotN rest).toNat)) ?_ hcut (h0 := g2') (h1 := g3') (h2 := by omega))|(refine jc ?_;first|refine c2 ?_)|refine n1 ?_|refine n10 ?_)
          refine nx_forS (k + 1, w2, vs ++ [gotV rest], rest.drop (gotN rest).toNat) ⟨by dsimp only; omega, hw2', by dsimp only; rw [List.length_append, hvl]; rfl, ?_, ?_⟩ (by dsimp only; omega) ⟨⟨_, rfl, wk1 (by omega)⟩, ⟨_, rfl, Wk.refl _⟩, trivial⟩ ?_
          · dsimp only
            rw [hg, show c.attrs.length - (k + 1) = m by omega]
            congr 1
            funext x
            simp
          · dsimp only
            rw [List.length_drop]; omega
          · dsimp only
            rw [List.length_append, List.length_singleton]
            exact St.le_set2 (St.leX_same (St.leX_setk (St.leX_del (St.leX_any (St.leX_same (St.leX_any (St.leX_refl _ _) hw)) (St.ns2 hf11)) hw))) (St.set_same _ _ _)
      · obtain rfl : k = c.attrs.length := by omega
        rw [Nat.sub_self, getVals, Option.map_some, List.append_nil] at hg
        rw [hg] at hr
        dsimp only at hr
        obtain ⟨_, hok⟩ := getVals_ok _ _ _ hg
        refine cj_freezecell 9 2 (vs.map vc) ?_ (by rw [List.length_map]) nw9
        rw [St.del_set2 hw nw9]
        have k2 := p_rfput nl full l ⟨tag, c.name, vs⟩ (fun v hv => (hok v hv).1) (fun v hv => (hok v hv).2.1) (by dsimp only; omega)
        repeat' (first|(first|(refine jl ?_;first|refine j7 ?_|refine jb ?_|refine j1 ?_|refine j4 ?_|refine j9 ?_|refine j14 ?_|refine j17 ?_|refine jp (k2) ?_)|(refine jc ?_;first|refine c1 ?_|refine c2 ?_|refine c6 ?_|refine c7 ?_|refine c8 ?_)|refine n1 ?_|refine n2 ?_|refine n3 ?_|refine n7 ?_|refine n8 ?_|refine n15 ?_)|(refine c9 (fun h=>?_) (fun h=>?_)<;>((try simp only [Bool.or_eq_true, Bool.and_eq_true, Bool.or_eq_false_iff, Bool.and_eq_false_iff, Bool.not_eq_true', Bool.not_eq_false', decide_eq_true_eq, decide_eq_false_iff_not, Bool.false_eq_true, Bool.true_eq_false, reduceCtorEq] at h) <;> (try simp (disch := omega) only [sb_bt, w64, Int.reduceAdd, Int.reduceToNat, Int.toNat_natCast, not_true_eq_false, false_or] at h) <;> (try (exfalso; omega)))))
        · rw [if_neg (by rintro ⟨e1, e2⟩; rcases h with h | h; exact h e1; exact h e2)] at hr
          rw [hr]
          exact gvs (by (repeat' (first | exact finl_nil | apply finl_cons | exact Fin.refl _ _ _ | apply fin_pk2 | apply fin_pk3 | apply fin_agg | apply fin_tup | exact fin_nil | exact fin_sl rfl | exact fin_fz (by exact lkp) (by first | assumption | exact St.ns1 (by assumption) | exact St.ns2 (by assumption) | exact St.ns3 (by assumption) | exact St.ns4 (by assumption) | exact St.ns5 (by assumption) | exact St.ns6 (by assumption) | exact St.ns7 (by assumption) | exact St.ns8 (by assumption) | exact St.ns9 (by assumption) | exact St.ns10 (by assumption) | exact St.ns11 (by assumption) | exact St.ns12 (by assumption) | exact St.ns13 (by assumption) | exact St.ns14 (by assumption) | exact St.ns10 (by assumption) | exact St.ns11 (by assumption) | exact St.ns12 (by assumption) | exact St.ns13 (by assumption) | exact St.ns14 (by assumption)) (by first | exact rfl | assumption | (simp only [List.length_map, List.length_append, List.length_cons, List.length_nil]; done) | (simp only [List.length_map, List.length_append, List.length_cons, List.length_nil]; omega)) rfl (fun _ => rfl) | exact fin_eq rfl))) (St.le_any (St.le_any hle s9) s6)
        · rw [if_pos h] at hr
          rw [hr]
          exact gvs (by (repeat' (first | exact finl_nil | apply finl_cons | exact Fin.refl _ _ _ | apply fin_pk2 | apply fin_pk3 | apply fin_agg | apply fin_tup | exact fin_nil | exact fin_sl rfl | exact fin_fz (by exact lkp) (by first | assumption | exact St.ns1 (by assumption) | exact St.ns2 (by assumption) | exact St.ns3 (by assumption) | exact St.ns4 (by assumption) | exact St.ns5 (by assumption) | exact St.ns6 (by assumption) | exact St.ns7 (by assumption) | exact St.ns8 (by assumption) | exact St.ns9 (by assumption) | exact St.ns10 (by assumption) | exact St.ns11 (by assumption) | exact St.ns12 (by assumption) | exact St.ns13 (by assumption) | exact St.ns14 (by assumption) | exact St.ns10 (by assumption) | exact St.ns11 (by assumption) | exact St.ns12 (by assumption) | exact St.ns13 (by assumption) | exact St.ns14 (by assumption)) (by first | exact rfl | assumption | (simp only [List.length_map, List.length_append, List.length_cons, List.length_nil]; done) | (simp only [List.length_map, List.length_append, List.length_cons, List.length_nil]; omega)) rfl (fun _ => rfl) | exact fin_eq rfl))) (St.le_any (St.le_any hle s9) s6)
    · have hr : getFc l tag val = none := by
        unfold getFc; rw [hL]; dsimp only
        rw [List.getElem?_eq_none (by omega)]
      rw [hr]
      repeat' (first|(first|(refine jl ?_;first|refine j7 ?_|refine jb ?_|refine j1 ?_|refine j4 ?_|refine j9 ?_|refine j13 (fun id hid=>?_)|refine j17t ?_|refine j20 ?_)|(refine jc ?_;first|refine c1 ?_|refine c2 ?_|refine c7 ?_)|refine n2 ?_|refine n15 ?_)|(refine c9 (fun h=>?_) (fun h=>?_)<;>((try simp only [Bool.or_eq_true, Bool.and_eq_true, Bool.or_eq_false_iff, Bool.and_eq_false_iff, Bool.not_eq_true', Bool.not_eq_false', decide_eq_true_eq, decide_eq_false_iff_not, Bool.false_eq_true, Bool.true_eq_false, reduceCtorEq] at h) <;> (try simp (disch := omega) only [sb_bt, w64, Int.reduceAdd, Int.reduceToNat, Int.toNat_natCast, not_true_eq_false, false_or] at h) <;> (try (exfalso; omega)))))
      first | exact ge rfl | exact gvs (by (repeat' (first | exact finl_nil | apply finl_cons | exact Fin.refl _ _ _ | apply fin_pk2 | apply fin_pk3 | apply fin_agg | apply fin_tup | exact fin_nil | exact fin_sl rfl | exact fin_fz (by exact lkp) (by first | assumption | exact St.ns1 (by assumption) | exact St.ns2 (by assumption) | exact St.ns3 (by assumption) | exact St.ns4 (by assumption) | exact St.ns5 (by assumption) | exact St.ns6 (by assumption) | exact St.ns7 (by assumption) | exact St.ns8 (by assumption) | exact St.ns9 (by assumption) | exact St.ns10 (by assumption) | exact St.ns11 (by assumption) | exact St.ns12 (by assumption) | exact St.ns13 (by assumption) | exact St.ns14 (by assumption) | exact St.ns10 (by assumption) | exact St.ns11 (by assumption) | exact St.ns12 (by assumption) | exact St.ns13 (by assumption) | exact St.ns14 (by assumption)) (by first | exact rfl | assumption | (simp only [List.length_map, List.length_append, List.length_cons, List.length_nil]; done) | (simp only [List.length_map, List.length_append, List.length_cons, List.length_nil]; omega)) rfl (fun _ => rfl) | exact fin_eq rfl)))
end Go.Proofs.YtddljegbggncdaaDoor.Ab

/- Plain laws of facts' bytes. -/
set_option linter.unusedVariables false
set_option linter.unusedSimpArgs false
set_option maxRecDepth 20000
namespace Go.Proofs.YtddljegbggncdaaDoor.Ab
open Go

theorem key_tag {n : Int} (h : keyE n = 0) : tagV (keyS n) = n ∧ tagE (keyS n) = 0 := by
  obtain ⟨h1, h2⟩ := keyE_ok h
  have e : keyS n = ⟨(119 :: be 6 n.toNat).toArray⟩ := by rw [keyS, if_pos h]
  have hN : tagN (keyS n) = n := by
    rw [tagN, e]
    show ((beNat (be 6 n.toNat) : Nat) : Int) = n
    rw [beNat_be, Nat.mod_eq_of_lt (by omega)]
    omega
  have hE : tagE (keyS n) = 0 := by
    rw [tagE, if_pos]
    refine ⟨?_, ?_, by rw [hN]; exact h⟩
    · rw [e, bsz, List.length_cons, length_be]
    · rw [e]; rfl
  exact ⟨by rw [tagV, if_pos hE, hN], hE⟩
theorem got_put {v : Vl} (h0 : 0 ≤ v.k) (h : checkE v.k v.n v.s = 0) (r : List UInt8) : gotV (putV v.k v.n v.s ++ r) = v ∧ gotN (putV v.k v.n v.s ++ r) = (putV v.k v.n v.s).length ∧ gotE (putV v.k v.n v.s ++ r) = 0 := by
  unfold gotV gotN gotE
  rw [get_put h0 h r]
  exact ⟨rfl, rfl, rfl⟩
theorem putV_pos {v : Vl} (h : checkE v.k v.n v.s = 0) : 0 < (putV v.k v.n v.s).length := by
  unfold putV
  rw [if_neg (by rw [h]; simp)]
  split
  · simp
  · split <;> simp
theorem getVals_put : ∀ (vs : List Vl) (r : List UInt8), (∀ v ∈ vs, 0 ≤ v.k ∧ checkE v.k v.n v.s = 0) → getVals vs.length (valsB vs ++ r) = some vs
  | [], r, _ => rfl
  | v :: q, r, h => by
    obtain ⟨h0, h1⟩ := h v (.head _)
    have e : valsB (v :: q) ++ r = putV v.k v.n v.s ++ (valsB q ++ r) := by simp [valsB]
    obtain ⟨g1, g2, g3⟩ := got_put h0 h1 (valsB q ++ r)
    rw [List.length_cons, getVals, e, if_pos g3, g1, g2, Int.toNat_natCast, List.drop_left, getVals_put q r (fun x hx => h x (.tail _ hx))]
    rfl
theorem valsB_pos {vs : List Vl} (hne : vs ≠ []) (h : ∀ v ∈ vs, 0 ≤ v.k ∧ checkE v.k v.n v.s = 0) : 0 < (valsB vs).length := by
  cases vs with
  | nil => exact absurd rfl hne
  | cons v q =>
    have := putV_pos (h v (.head _)).2
    simp only [valsB, List.flatMap_cons, List.length_append]
    omega
theorem getVals_cut : ∀ (vs : List Vl), vs ≠ [] → (∀ v ∈ vs, 0 ≤ v.k ∧ checkE v.k v.n v.s = 0) → getVals vs.length ((valsB vs).take ((valsB vs).length - 1)) = none
  | [], h, _ => absurd rfl h
  | [v], _, h => by
    obtain ⟨h0, h1⟩ := h v (.head _)
    have e : valsB [v] = putV v.k v.n v.s := by simp [valsB]
    rw [e]
    show getVals 1 _ = none
    have h3 : gotE ((putV v.k v.n v.s).take ((putV v.k v.n v.s).length - 1)) = 3 := get_cut h0 h1
    rw [getVals, if_neg (by rw [h3]; decide)]
  | v :: w :: q, _, h => by
    obtain ⟨h0, h1⟩ := h v (.head _)
    have hq : ∀ x ∈ w :: q, 0 ≤ x.k ∧ checkE x.k x.n x.s = 0 := fun x hx => h x (.tail _ hx)
    have hp := valsB_pos (vs := w :: q) (by simp) hq
    have e : valsB (v :: w :: q) = putV v.k v.n v.s ++ valsB (w :: q) := by simp [valsB]
    have e2 : (valsB (v :: w :: q)).take ((valsB (v :: w :: q)).length - 1) = putV v.k v.n v.s ++ (valsB (w :: q)).take ((valsB (w :: q)).length - 1) := by
      rw [e, List.length_append, List.take_append, List.take_of_length_le (by omega)]
      congr 2
      omega
    obtain ⟨g1, g2, g3⟩ := got_put h0 h1 ((valsB (w :: q)).take ((valsB (w :: q)).length - 1))
    rw [e2, List.length_cons, getVals, if_pos g3, g2, Int.toNat_natCast, List.drop_left, getVals_cut (w :: q) (by simp) hq]
    rfl
theorem idxG_find {α : Type} (g : α → Bool) {l : List α} {x : α} (h : l.find? g = some x) : ∃ j : Nat, idxG g l 0 = j ∧ l[j]? = some x := by
  have h0 : 0 ≤ idxG g l 0 := by
    have h1 := idxG_lt g l 0
    by_cases hc : 0 ≤ idxG g l 0
    · exact hc
    · have := h1.1 (by omega) x (List.mem_of_find?_eq_some h)
      rw [List.find?_some h] at this; cases this
  obtain ⟨j, y, h1, h2, _, h4⟩ := idxG_get g l 0 h0
  rw [h4] at h
  cases h
  exact ⟨j, by rw [h1, Nat.zero_add], h2⟩
theorem put_zero {l : List Cls} {f : Fc} (h : putFE l f = 0) : checkF l f = 0 ∧ placeN l f.cls ≤ 255 ∧ (bytesF l f).length ≤ 160 := by
  unfold putFE at h
  split at h
  · rename_i h0; exact absurd h h0
  · rename_i h0
    split at h
    · cases h
    · rename_i h1
      refine ⟨by simpa using h0, ?_, ?_⟩
      · apply Int.not_lt.1; exact fun h2 => h1 (.inl h2)
      · apply Nat.not_lt.1; exact fun h2 => h1 (.inr h2)
/-- What is put: its head is the class's place. -/
theorem put_facts {l : List Cls} {f : Fc} (hk : ∀ v ∈ f.vals, 0 ≤ v.k) (h : putFE l f = 0) : ∃ (b0 : UInt8) (c : Cls), putFS l f = ⟨(b0 :: valsB f.vals).toArray⟩ ∧ l[b0.toNat]? = some c ∧ c.name = f.cls ∧ c.attrs.length = f.vals.length ∧ ∀ v ∈ f.vals, 0 ≤ v.k ∧ checkE v.k v.n v.s = 0 := by
  obtain ⟨h1, h2, h3⟩ := put_zero h
  obtain ⟨_, c, g1, _, g3, g4⟩ := checkF_zero h1
  obtain ⟨j, e1, e2⟩ := idxG_find (isC f.cls) g1
  have e1' : placeN l f.cls = (j : Int) := e1
  have hj : j ≤ 255 := by omega
  have hw : IntKind.u8.wrap (placeN l f.cls) = (j : Int) := by rw [e1', wrap8]; omega
  have hb : (UInt8.ofNat j).toNat = j := by rw [UInt8.toNat_ofNat']; omega
  refine ⟨UInt8.ofNat j, c, ?_, by rw [hb]; exact e2, ?_, g3.symm, fun v hv => ⟨hk v hv, g4 v hv⟩⟩
  · rw [putFS, if_pos h, bytesF, layB, hw, Int.toNat_natCast]
  · have := List.find?_some g1
    exact of_decide_eq_true this
theorem fact_back {l : List Cls} {f : Fc} (hk : ∀ v ∈ f.vals, 0 ≤ v.k) (h : putFE l f = 0) : getFc l f.tag (putFS l f) = some f := by
  obtain ⟨b0, c, e, hc, hn, hl, hv⟩ := put_facts hk h
  have hf : (⟨f.tag, c.name, f.vals⟩ : Fc) = f := by rw [hn]
  unfold getFc
  rw [e]
  show (match l[b0.toNat]? with | none => none | some c => _) = _
  rw [hc]
  dsimp only
  have := getVals_put f.vals [] hv
  rw [List.append_nil] at this
  rw [hl, this]
  dsimp only
  rw [hf, if_pos ⟨h, e⟩]
theorem fact_more {l : List Cls} {f : Fc} (hk : ∀ v ∈ f.vals, 0 ≤ v.k) (h : putFE l f = 0) : getFc l f.tag (putFS l f ++ ⟨#[0]⟩) = none := by
  obtain ⟨b0, c, e, hc, hn, hl, hv⟩ := put_facts hk h
  have hf : (⟨f.tag, c.name, f.vals⟩ : Fc) = f := by rw [hn]
  have e2 : putFS l f ++ ⟨#[0]⟩ = ⟨(b0 :: (valsB f.vals ++ [0])).toArray⟩ := by
    rw [e]; exact bconcat (b0 :: valsB f.vals) [0]
  unfold getFc
  rw [e2]
  show (match l[b0.toNat]? with | none => none | some c => _) = _
  rw [hc]
  dsimp only
  rw [hl, getVals_put f.vals [0] hv]
  dsimp only
  rw [hf, if_neg]
  rintro ⟨_, h2⟩
  rw [e] at h2
  have := congrArg List.length (ba_inj h2)
  simp at this
theorem fact_less {l : List Cls} {f : Fc} (hk : ∀ v ∈ f.vals, 0 ≤ v.k) (h : putFE l f = 0) : getFc l f.tag ((putFS l f).extract 0 ((putFS l f).size - 1)) = none := by
  obtain ⟨b0, c, e, hc, hn, hl, hv⟩ := put_facts hk h
  have e2 : (putFS l f).extract 0 ((putFS l f).size - 1) = ⟨((b0 :: valsB f.vals).take (valsB f.vals).length).toArray⟩ := by
    rw [e, ex_data, bsz, List.length_cons, Nat.add_sub_cancel, List.drop_zero]
  rw [e2]
  by_cases hne : f.vals = []
  · rw [hne]; rfl
  · have hp := valsB_pos hne hv
    obtain ⟨m, hm⟩ : ∃ m, (valsB f.vals).length = m + 1 := ⟨(valsB f.vals).length - 1, by omega⟩
    have hcut := getVals_cut f.vals hne hv
    rw [hm, Nat.add_sub_cancel] at hcut
    rw [hm, List.take_succ_cons]
    unfold getFc
    show (match l[b0.toNat]? with | none => none | some c => _) = _
    rw [hc]
    dsimp only
    rw [hl, hcut]
end Go.Proofs.YtddljegbggncdaaDoor.Ab

/- Laws of facts' keys and bytes. -/
set_option linter.unusedVariables false
set_option linter.unusedSimpArgs false
set_option maxRecDepth 20000
namespace Go.Proofs.YtddljegbggncdaaDoor.Ab
open Go
attribute [local irreducible] thn inb endR CJ LJ OpJ DJ DA DB AllocK

def cls19 : List Cls := [⟨⟨#[99]⟩, [⟨#[112]⟩, ⟨#[113]⟩]⟩]
def fact19 : Fc := ⟨258, ⟨#[99]⟩, [⟨1, 5, ⟨#[]⟩⟩, ⟨0, 0, ⟨#[]⟩⟩]⟩
abbrev cls19X : AV := .sl (some false) true 2 [[.v (.string ⟨#[99]⟩), .sl (some false) true 1 [[.v (.string ⟨#[112]⟩)], [.v (.string ⟨#[113]⟩)]]]]
abbrev fact19X : List AV := [.v (.int .i64 258), .v (.string ⟨#[99]⟩), .sl (some false) true 3 [[.v (.int .u8 1), .v (.int .i64 5), .v (.string ⟨#[]⟩)], [.v (.int .u8 0), .v (.int .i64 0), .v (.string ⟨#[]⟩)]]]
theorem wk_cls19 : Wk cls19X (.sl none false 2 (cls19.map cc)) := Wk.els ⟨⟨Wk.refl _, Wk.sl _ _ _ _, trivial⟩, trivial⟩
theorem wk_fact19 : Wk (.agg fact19X) (.agg (fc fact19)) := Wk.agg ⟨Wk.refl _, Wk.refl _, Wk.sl _ _ _ _, trivial⟩
def put19 : ByteArray := ⟨#[0, 1, 1, 0, 0, 0, 0, 5, 0]⟩
theorem p_awake19 : Pure Tryd.prog 32 [] (.v (.bool true)) := by
  refine enterW Tryd.func32 rfl rfl rfl rfl (fun σ => ?_)
  have k1 := p_key 258 (by omega)
  rw [show keyS 258 = ⟨#[119, 0, 0, 0, 0, 1, 2]⟩ by kernel_rfl, show keyE 258 = 0 by kernel_rfl] at k1
  have k2 := p_tagk ⟨#[119, 0, 0, 0, 0, 1, 2]⟩
  rw [show tagV ⟨#[119, 0, 0, 0, 0, 1, 2]⟩ = 258 by kernel_rfl, show tagE ⟨#[119, 0, 0, 0, 0, 1, 2]⟩ = 0 by kernel_rfl] at k2
  have k3 : Pure Tryd.prog 38 [cls19X, .agg fact19X] (.tup [.v (.string put19), .v (.int .i64 0)]) := by
    have := Pure.wka (bs := _) (p_fput none false cls19 fact19 (by decide) (by decide)) (show WkL [cls19X, .agg fact19X] _ from ⟨wk_cls19, wk_fact19, trivial⟩)
    rwa [show putFS cls19 fact19 = put19 by kernel_rfl, show putFE cls19 fact19 = 0 by kernel_rfl] at this
  have k4 : Pure Tryd.prog 40 [cls19X, .v (.int .i64 258), .v (.string put19)] (gres (some fact19)) := by
    have := Pure.wka (bs := _) (p_fget none false cls19 258 put19 (by decide) (by decide)) (show WkL [cls19X, .v (.int .i64 258), .v (.string put19)] _ from ⟨wk_cls19, Wk.refl _, Wk.refl _, trivial⟩)
    rwa [show getFc cls19 258 put19 = some fact19 by kernel_rfl] at this
  repeat' (first|(first|(refine jl ?_;first|refine j8 ?_|refine jtf ?_|refine jb ?_|refine j1 ?_|refine j4 ?_|refine j9 ?_|refine j13 (fun id hid=>?_)|refine j17t ?_|refine j16 ?_|refine ji3 ?_|refine jp (k1) ?_|refine jp (k2) ?_|refine jp (k3) ?_|refine jp (k4) ?_|refine jlit ?_)|(refine jc ?_;first|refine c1 ?_|refine c2 ?_|refine c7 ?_)|refine n11 ?_))
  refine ge (congrArg (fun b => AV.v (Value.bool b)) ?_)
  decide +kernel
theorem l_factKeys (n : Int) (hn : -9223372036854775808 ≤ n ∧ n < 9223372036854775808) (s : ByteArray) : Pure Tryd.prog 7 [.v (.int .i64 n), .v (.string s)] (.v (.bool true)) := by
  refine enterW Tryd.func7 rfl rfl rfl rfl (fun σ => ?_)
  repeat' (first|(first|(refine jl ?_;first|refine j8 ?_|refine j1 ?_|refine j4 ?_|refine j9 ?_|refine jp (p_key n hn) ?_|refine jp (p_rkey n hn) ?_|refine jp (p_tagk s) ?_|refine jp (p_rtagk s) ?_|refine jp (p_awake19) ?_|refine jcq (hp:=fun hc=>p_awake19) ?_)|(refine jc ?_;first|refine c1 ?_|refine c2 ?_|refine c6 ?_|refine c7 ?_)|refine n1 ?_|refine n2 ?_|refine n11 ?_)|(refine c9 (fun h=>?_) (fun h=>?_)<;>(try simp only [Bool.or_eq_true, Bool.and_eq_true, Bool.or_eq_false_iff, Bool.and_eq_false_iff, Bool.not_eq_true', Bool.not_eq_false', decide_eq_true_eq, decide_eq_false_iff_not, Bool.false_eq_true, Bool.true_eq_false, reduceCtorEq] at h)))
  · first | exact ge rfl | exact gvs (by (repeat' (first | exact finl_nil | apply finl_cons | exact Fin.refl _ _ _ | apply fin_pk2 | apply fin_pk3 | apply fin_agg | apply fin_tup | exact fin_nil | exact fin_sl rfl | exact fin_fz (by exact lkp) (by first | assumption | exact St.ns1 (by assumption) | exact St.ns2 (by assumption) | exact St.ns3 (by assumption) | exact St.ns4 (by assumption) | exact St.ns5 (by assumption) | exact St.ns6 (by assumption) | exact St.ns7 (by assumption) | exact St.ns8 (by assumption) | exact St.ns9 (by assumption) | exact St.ns10 (by assumption) | exact St.ns11 (by assumption) | exact St.ns12 (by assumption) | exact St.ns13 (by assumption) | exact St.ns14 (by assumption) | exact St.ns10 (by assumption) | exact St.ns11 (by assumption) | exact St.ns12 (by assumption) | exact St.ns13 (by assumption) | exact St.ns14 (by assumption)) (by first | exact rfl | assumption | (simp only [List.length_map, List.length_append, List.length_cons, List.length_nil]; done) | (simp only [List.length_map, List.length_append, List.length_cons, List.length_nil]; omega)) rfl (fun _ => rfl) | exact fin_eq rfl)))
  · exact ge (congrArg (fun b => AV.v (Value.bool b)) (by simp))
theorem l_factPuts (l : List Cls) (f : Fc) (hk : ∀ v ∈ f.vals, 0 ≤ v.k) (s : ByteArray) : Pure Tryd.prog 8 [.sl none false 2 (l.map cc), .agg (fc f), .v (.string s)] (.v (.bool true)) := by
  refine enterW Tryd.func8 rfl rfl rfl rfl (fun σ => ?_)
  have k1 : Pure Tryd.prog 37 [.sl none false 2 (l.map cc), .agg (fc f), .sl (some true) true 1 []] (.v (.bool (lightB l f []))) := (p_light none none false false l f []).wka ⟨Wk.refl _, Wk.refl _, Wk.nil _ _ _ _, trivial⟩
  have k0 := p_awake19
  by_cases h0 : lightB l f [] = true
  · obtain ⟨⟨a1, a2, a3, a4⟩, a5, a6, a7⟩ := lightB_iff h0
    by_cases hs : s.size ≤ 300
    · have k2 := p_fput none false l f hk (by omega)
      have k3 := p_rfput none false l f hk (fun v hv => a6 v hv) (by omega)
      have k4 := p_fget none false l f.tag s (fun c hc => (a5 c hc).1) (by omega)
      have k5 := p_rfget none false l f.tag s (fun c hc => (a5 c hc).1) (by omega)
      have k6 := p_rsame ((getFc l f.tag s).getD noFc) ((getFc l f.tag s).getD noFc)
      rw [h0] at k1
      repeat' (first|(first|(refine jl ?_;first|refine j7 ?_|refine j8 ?_|refine j1 ?_|refine j4 ?_|refine j9 ?_|refine j12 (fun id hid=>?_)|refine j13 (fun id hid=>?_)|refine j14 ?_|refine j17t ?_|refine j16 ?_|refine jp (k1) ?_|refine jp (k0) ?_|refine jcq (hp:=fun hc=>k0) ?_|refine jp (k2) ?_|refine jp (k3) ?_|refine jp (k4) ?_|refine jp (k5) ?_|refine jcq (hp:=fun hc=>k6) ?_)|(refine jc ?_;first|refine c1 ?_|refine c2 ?_|refine c6 ?_|refine c7 ?_)|refine n1 ?_|refine n2 ?_|refine n11 ?_)|(refine c9 (fun h=>?_) (fun h=>?_)<;>(try simp only [Bool.or_eq_true, Bool.and_eq_true, Bool.or_eq_false_iff, Bool.and_eq_false_iff, Bool.not_eq_true', Bool.not_eq_false', decide_eq_true_eq, decide_eq_false_iff_not, Bool.false_eq_true, Bool.true_eq_false, reduceCtorEq] at h)))
      · exfalso
        rcases h with h | h
        · exact h
        · omega
      · exact ge (congrArg (fun b => AV.v (Value.bool b)) (by simp [sameF]))
    · repeat' (first|(first|(refine jl ?_;first|refine j7 ?_|refine j1 ?_|refine j4 ?_|refine j9 ?_|refine j12 (fun id hid=>?_)|refine j14 ?_|refine jp (k1) ?_|refine jp (k0) ?_)|(refine jc ?_;first|refine c1 ?_|refine c2 ?_|refine c7 ?_)|refine n2 ?_|refine n11 ?_)|(refine c9 (fun h=>?_) (fun h=>?_)<;>((try simp only [Bool.or_eq_true, Bool.and_eq_true, Bool.or_eq_false_iff, Bool.and_eq_false_iff, Bool.not_eq_true', Bool.not_eq_false', decide_eq_true_eq, decide_eq_false_iff_not, Bool.false_eq_true, Bool.true_eq_false, reduceCtorEq] at h) <;> (try simp (disch := omega) only [sb_bt, w64, Int.reduceAdd, Int.reduceToNat, Int.toNat_natCast, not_true_eq_false, false_or] at h) <;> (try (exfalso; omega)))))
      first | exact ge rfl | exact gvs (by (repeat' (first | exact finl_nil | apply finl_cons | exact Fin.refl _ _ _ | apply fin_pk2 | apply fin_pk3 | apply fin_agg | apply fin_tup | exact fin_nil | exact fin_sl rfl | exact fin_fz (by exact lkp) (by first | assumption | exact St.ns1 (by assumption) | exact St.ns2 (by assumption) | exact St.ns3 (by assumption) | exact St.ns4 (by assumption) | exact St.ns5 (by assumption) | exact St.ns6 (by assumption) | exact St.ns7 (by assumption) | exact St.ns8 (by assumption) | exact St.ns9 (by assumption) | exact St.ns10 (by assumption) | exact St.ns11 (by assumption) | exact St.ns12 (by assumption) | exact St.ns13 (by assumption) | exact St.ns14 (by assumption) | exact St.ns10 (by assumption) | exact St.ns11 (by assumption) | exact St.ns12 (by assumption) | exact St.ns13 (by assumption) | exact St.ns14 (by assumption)) (by first | exact rfl | assumption | (simp only [List.length_map, List.length_append, List.length_cons, List.length_nil]; done) | (simp only [List.length_map, List.length_append, List.length_cons, List.length_nil]; omega)) rfl (fun _ => rfl) | exact fin_eq rfl)))
  · rw [Bool.not_eq_true] at h0
    rw [h0] at k1
    repeat' (first|(first|(refine jl ?_;first|refine j7 ?_|refine j1 ?_|refine j4 ?_|refine j9 ?_|refine j12 (fun id hid=>?_)|refine j14 ?_|refine jp (k1) ?_|refine jp (k0) ?_)|(refine jc ?_;first|refine c1 ?_|refine c2 ?_|refine c6 ?_|refine c7 ?_)|refine n1 ?_|refine n2 ?_|refine n11 ?_)|(refine c9 (fun h=>?_) (fun h=>?_)<;>((try simp only [Bool.or_eq_true, Bool.and_eq_true, Bool.or_eq_false_iff, Bool.and_eq_false_iff, Bool.not_eq_true', Bool.not_eq_false', decide_eq_true_eq, decide_eq_false_iff_not, Bool.false_eq_true, Bool.true_eq_false, reduceCtorEq] at h) <;> (try simp (disch := omega) only [sb_bt, w64, Int.reduceAdd, Int.reduceToNat, Int.toNat_natCast, not_true_eq_false, false_or] at h) <;> (try (exfalso; omega)))))
    · first | exact ge rfl | exact gvs (by (repeat' (first | exact finl_nil | apply finl_cons | exact Fin.refl _ _ _ | apply fin_pk2 | apply fin_pk3 | apply fin_agg | apply fin_tup | exact fin_nil | exact fin_sl rfl | exact fin_fz (by exact lkp) (by first | assumption | exact St.ns1 (by assumption) | exact St.ns2 (by assumption) | exact St.ns3 (by assumption) | exact St.ns4 (by assumption) | exact St.ns5 (by assumption) | exact St.ns6 (by assumption) | exact St.ns7 (by assumption) | exact St.ns8 (by assumption) | exact St.ns9 (by assumption) | exact St.ns10 (by assumption) | exact St.ns11 (by assumption) | exact St.ns12 (by assumption) | exact St.ns13 (by assumption) | exact St.ns14 (by assumption) | exact St.ns10 (by assumption) | exact St.ns11 (by assumption) | exact St.ns12 (by assumption) | exact St.ns13 (by assumption) | exact St.ns14 (by assumption)) (by first | exact rfl | assumption | (simp only [List.length_map, List.length_append, List.length_cons, List.length_nil]; done) | (simp only [List.length_map, List.length_append, List.length_cons, List.length_nil]; omega)) rfl (fun _ => rfl) | exact fin_eq rfl)))
    · exact h.1.elim
set_option maxHeartbeats 2000000 in
theorem l_factBack (l : List Cls) (f : Fc) (hn : -9223372036854775808 ≤ f.tag ∧ f.tag < 9223372036854775808) (hk : ∀ v ∈ f.vals, 0 ≤ v.k) : Pure Tryd.prog 9 [.sl none false 2 (l.map cc), .agg (fc f)] (.v (.bool true)) := by
  refine enterW Tryd.func9 rfl rfl rfl rfl (fun σ => ?_)
  have k1 : Pure Tryd.prog 37 [.sl none false 2 (l.map cc), .agg (fc f), .sl (some true) true 1 []] (.v (.bool (lightB l f []))) := (p_light none none false false l f []).wka ⟨Wk.refl _, Wk.refl _, Wk.nil _ _ _ _, trivial⟩
  have k0 := p_awake19
  by_cases h0 : lightB l f [] = true
  · obtain ⟨⟨y1, y2, y3, y4⟩, y5, y6, y7⟩ := lightB_iff h0
    have k2 := p_fput none false l f hk (by omega)
    rw [h0] at k1
    by_cases he : putFE l f = 0
    · obtain ⟨z1, z2, z3⟩ := put_zero he
      have hS : (putFS l f).size ≤ 160 := by rw [putFS, if_pos he, bsz]; exact z3
      have hS0 : 0 < (putFS l f).size := by
        obtain ⟨b0, c, e, _⟩ := put_facts hk he
        rw [e, bsz, List.length_cons]; omega
      have ht := (checkF_zero z1).1
      rw [tagB, Bool.and_eq_true, decide_eq_true_eq, decide_eq_true_eq] at ht
      have hke : keyE f.tag = 0 := by rw [keyE, if_neg (by omega)]
      have k3 := p_key f.tag hn
      have k4 := p_tagk (keyS f.tag)
      rw [(key_tag hke).1, (key_tag hke).2] at k4
      have k5 := p_fget none false l f.tag (putFS l f) (fun c hc => (y5 c hc).1) (by omega)
      rw [fact_back hk he] at k5
      have k6 := p_fget none false l f.tag (putFS l f ++ ⟨#[0]⟩) (fun c hc => (y5 c hc).1) (by rw [ByteArray.size_append]; show _ + 1 ≤ _; omega)
      rw [fact_more hk he] at k6
      have hw : IntKind.i64.wrap (((putFS l f).size : Int) - 1) = (((putFS l f).size - 1 : Nat) : Int) := by rw [w64 (by omega) (by omega)]; omega
      have k7 : Pure Tryd.prog 40 [.sl none false 2 (l.map cc), .v (.int .i64 f.tag), .v (.string ((putFS l f).extract (0 : Int).toNat (IntKind.i64.wrap (((putFS l f).size : Int) - 1)).toNat))] (gres none) := by
        rw [hw, Int.toNat_natCast]
        have := p_fget none false l f.tag ((putFS l f).extract 0 ((putFS l f).size - 1)) (fun c hc => (y5 c hc).1) (by rw [ByteArray.size_extract]; omega)
        rw [fact_less hk he] at this
        exact this
      have k8 := p_csame f f
      rw [he] at k2
      repeat' (first|(first|(refine jl ?_;first|refine j8 ?_|refine j1 ?_|refine j4 ?_|refine j9 ?_|refine j12 (fun id hid=>?_)|refine j13 (fun id hid=>?_)|refine j14 ?_|refine j17t ?_|refine j16 ?_|refine j25 ?_|refine jp (k1) ?_|refine jcq (hp:=fun hc=>k0) ?_|refine jp (k2) ?_|refine jp (k3) ?_|refine jp (k4) ?_|refine jp (k5) ?_|refine jp (k6) ?_|refine jcq (hp:=fun hc=>k8) ?_)|(refine al ?_;first|refine da_nil ?_|refine a1 ?_|refine a14 ?_|refine a21 ?_|refine ap (k7) ?_|refine da_skip ?_)|(refine bl ?_;first|refine b1 ?_|refine b17t ?_|refine db_nil ?_)|refine al_cons (fun id hid=>?_)|refine al_nil ?_|(refine jc ?_;first|refine c1 ?_|refine c2 ?_|refine c6 ?_|refine c7 ?_|refine cqk ?_)|refine n1 ?_|refine n11 ?_)|(refine c9 (fun h=>?_) (fun h=>?_)<;>((try simp only [Bool.or_eq_true, Bool.and_eq_true, Bool.or_eq_false_iff, Bool.and_eq_false_iff, Bool.not_eq_true', Bool.not_eq_false', decide_eq_true_eq, decide_eq_false_iff_not, Bool.false_eq_true, Bool.true_eq_false, reduceCtorEq] at h) <;> (try simp (disch := omega) only [sb_bt, w64, Int.reduceAdd, Int.reduceToNat, Int.toNat_natCast, not_true_eq_false, false_or] at h) <;> (try (exfalso; omega)))))
      exact ge (congrArg (fun b => AV.v (Value.bool b)) (by simp [hke, sameF]))
    · have e2 : putFS l f = ⟨#[]⟩ := by rw [putFS, if_neg he]
      have e3 : putFE l f = checkF l f ∨ putFE l f = 5 := by
        unfold putFE at he ⊢
        split
        · exact .inl rfl
        · rename_i h1
          rw [if_neg h1] at he
          split
          · exact .inr rfl
          · rename_i h2
            rw [if_neg h2] at he
            exact absurd rfl he
      rw [e2] at k2
      have k3 := p_ccheck none false l f
      repeat' (first|(first|(refine jl ?_;first|refine j8 ?_|refine j10 ?_|refine j1 ?_|refine j4 ?_|refine j9 ?_|refine j12 (fun id hid=>?_)|refine j14 ?_|refine j16 ?_|refine jp (k1) ?_|refine jcq (hp:=fun hc=>k0) ?_|refine jp (k2) ?_|refine jcq (hp:=fun hc=>k3) ?_)|(refine jc ?_;first|refine c1 ?_|refine c2 ?_|refine c6 ?_|refine c7 ?_)|refine n1 ?_|refine n2 ?_|refine n11 ?_)|(refine c9 (fun h=>?_) (fun h=>?_)<;>((try simp only [Bool.or_eq_true, Bool.and_eq_true, Bool.or_eq_false_iff, Bool.and_eq_false_iff, Bool.not_eq_true', Bool.not_eq_false', decide_eq_true_eq, decide_eq_false_iff_not, Bool.false_eq_true, Bool.true_eq_false, reduceCtorEq] at h) <;> (try simp (disch := omega) only [sb_bt, w64, Int.reduceAdd, Int.reduceToNat, Int.toNat_natCast, not_true_eq_false, false_or] at h) <;> (try (exfalso; omega)))))
      exact ge (congrArg (fun b => AV.v (Value.bool b)) (by rcases e3 with e3 | e3 <;> simp [e3]))
  · rw [Bool.not_eq_true] at h0
    rw [h0] at k1
    repeat' (first|(first|(refine jl ?_;first|refine j1 ?_|refine j4 ?_|refine j12 (fun id hid=>?_)|refine j14 ?_|refine jp (k1) ?_|refine jp (k0) ?_)|(refine jc ?_;first|refine c1 ?_|refine c2 ?_|refine c7 ?_)|refine n2 ?_|refine n11 ?_)|(refine c9 (fun h=>?_) (fun h=>?_)<;>((try simp only [Bool.or_eq_true, Bool.and_eq_true, Bool.or_eq_false_iff, Bool.and_eq_false_iff, Bool.not_eq_true', Bool.not_eq_false', decide_eq_true_eq, decide_eq_false_iff_not, Bool.false_eq_true, Bool.true_eq_false, reduceCtorEq] at h) <;> (try simp (disch := omega) only [sb_bt, w64, Int.reduceAdd, Int.reduceToNat, Int.toNat_natCast, not_true_eq_false, false_or] at h) <;> (try (exfalso; omega)))))
    first | exact ge rfl | exact gvs (by (repeat' (first | exact finl_nil | apply finl_cons | exact Fin.refl _ _ _ | apply fin_pk2 | apply fin_pk3 | apply fin_agg | apply fin_tup | exact fin_nil | exact fin_sl rfl | exact fin_fz (by exact lkp) (by first | assumption | exact St.ns1 (by assumption) | exact St.ns2 (by assumption) | exact St.ns3 (by assumption) | exact St.ns4 (by assumption) | exact St.ns5 (by assumption) | exact St.ns6 (by assumption) | exact St.ns7 (by assumption) | exact St.ns8 (by assumption) | exact St.ns9 (by assumption) | exact St.ns10 (by assumption) | exact St.ns11 (by assumption) | exact St.ns12 (by assumption) | exact St.ns13 (by assumption) | exact St.ns14 (by assumption) | exact St.ns10 (by assumption) | exact St.ns11 (by assumption) | exact St.ns12 (by assumption) | exact St.ns13 (by assumption) | exact St.ns14 (by assumption)) (by first | exact rfl | assumption | (simp only [List.length_map, List.length_append, List.length_cons, List.length_nil]; done) | (simp only [List.length_map, List.length_append, List.length_cons, List.length_nil]; omega)) rfl (fun _ => rfl) | exact fin_eq rfl)))
end Go.Proofs.YtddljegbggncdaaDoor.Ab

/- Facts, opened, their tags told. -/
set_option linter.unusedVariables false
set_option linter.unusedSimpArgs false
set_option maxRecDepth 20000
namespace Go.Proofs.YtddljegbggncdaaDoor.Ab
open Go Go.RowKit
theorem open_ft {n : Nat} {avs : List AV} (h : isAV Tryd.prog (n + 4) 28 avs) : ∃ f : Fc, avs = fc f ∧ (-9223372036854775808 ≤ f.tag ∧ f.tag < 9223372036854775808) ∧ ∀ v ∈ f.vals, 0 ≤ v.k := by
  obtain ⟨a, r1, rfl, _, ⟨m, rfl, hm⟩, b, r2, rfl, _, ⟨s, rfl, _⟩, c, r3, rfl, _, hc, rfl⟩ := h
  obtain ⟨l, rfl, hq, _⟩ := open_list (e := 37) (sz := 3) vc (fun v => 0 ≤ v.k) (by kernel_rfl) (by kernel_rfl) hc (fun el hel => by obtain ⟨v, h, hv, _⟩ := open_v hel; exact ⟨v, h, hv.1⟩)
  exact ⟨⟨m, s, l⟩, rfl, wf_i64 hm, hq⟩
end Go.Proofs.YtddljegbggncdaaDoor.Ab
