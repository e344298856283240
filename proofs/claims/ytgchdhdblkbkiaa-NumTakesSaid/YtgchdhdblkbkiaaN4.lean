/- Numbers of a set width, 4: the document's functions. -/
import Derived.Test.YtgchdhdblkbkiaaN3
import Derived.Test.YtgchdhdblkbkiaaAbE
set_option linter.unusedVariables false
set_option linter.unusedSimpArgs false
namespace Go.Proofs.Ytgchdhdblkbkiaa.Ab
open Go
attribute [local irreducible] thn inb endR CJ LJ OpJ DJ

theorem wrapNat (n : Nat) (h : n < 9223372036854775808) : IntKind.i64.wrap (n : Int) = n := wrap64_in (by omega) (by omega)
theorem wrapNat1 (n : Nat) (h : n < 9223372036854775807) : IntKind.i64.wrap ((n : Int) + 1) = ((n + 1 : Nat) : Int) := by
  rw [wrap64_in (by omega) (by omega)]; rfl
def topN (w : Int) : Nat := 256 ^ (min w 6).toNat
theorem p_top (w : Int) : Pure Try.prog 32 [.v (.int .i64 w)] (.v (.int .i64 (topN w))) := by
  refine enterW Try.func32 rfl rfl rfl rfl (fun σ => ?_)
  repeat (first | refine lj_auto rfl rfl ?_ | refine lj_autoy rfl rfl rfl rfl ?_ | refine lj_vn rfl rfl rfl rfl ?_ | refine lj_end ?_ | refine cj_seq ?_ | refine cj_region ?_ | refine cj_yes rfl ?_ | refine cj_no rfl ?_ | refine cj_block ?_ | refine cj_skip ?_ | refine cj_ret ?_ | refine cj_exit ?_ | refine lj_nil ?_ | refine nx_thn_cj ?_ | refine nx_ret_thn ?_ | refine nx_ret_inb ?_ | refine nx_exit_thn ?_ | refine nx_exit_same ?_ | refine nx_exit_other rfl ?_ | refine nx_inb ?_ | refine nx_end rfl ?_ | refine nx_end' rfl ?_ | refine lj_f rfl (fun R hR => opj_box rfl rfl rfl hR) (fun id hid => ?_) | refine lj_f rfl (fun R hR => opj_alloc rfl rfl hR) (fun id hid => ?_) | refine lj_v rfl (fun R hR => opj_load_ptr rfl rfl rfl (by first | exact St.set_same _ _ _ | assumption | exact St.set_keep (by assumption) (St.set_same _ _ _) | exact St.set_keep (by assumption) (by assumption) | exact St.set_keep (by assumption) (St.set_keep (by assumption) (St.set_same _ _ _)) | exact St.set_keep (by assumption) (St.set_keep (by assumption) (by assumption))) rfl rfl hR) ?_ | refine lj_s (fun R hR => opj_store rfl rfl rfl rfl (by first | exact St.set_same _ _ _ | assumption | exact St.set_keep (by assumption) (St.set_same _ _ _) | exact St.set_keep (by assumption) (by assumption) | exact St.set_keep (by assumption) (St.set_keep (by assumption) (St.set_same _ _ _)) | exact St.set_keep (by assumption) (St.set_keep (by assumption) (by assumption))) rfl rfl rfl (Nat.le_of_ble_eq_true rfl) hR) ?_)
  refine cj_head (fun i : Nat => i ≤ (min w 6).toNat) (fun i => [(3, .v (.int .i64 ((256 ^ i : Nat) : Int))), (4, .v (.int .i64 i)), (0, .v (.int .i64 w))]) (fun _ => σ) (fun i => (min w 6).toNat - i) 0 (Nat.zero_le _) ⟨rfl, rfl, rfl, trivial⟩ (St.le_refl _) (fun i hi => ?_)
  have hp : 256 ^ i ≤ 256 ^ 6 := Nat.pow_le_pow_right (by omega) (by omega)
  repeat' (first | (first | refine lj_auto rfl rfl ?_ | refine lj_autoy rfl rfl rfl rfl ?_ | refine lj_vn rfl rfl rfl rfl ?_ | refine lj_end ?_ | refine cj_seq ?_ | refine cj_region ?_ | refine cj_yes rfl ?_ | refine cj_no rfl ?_ | refine cj_block ?_ | refine cj_skip ?_ | refine cj_ret ?_ | refine cj_exit ?_ | refine lj_nil ?_ | refine nx_thn_cj ?_ | refine nx_ret_thn ?_ | refine nx_ret_inb ?_ | refine nx_exit_thn ?_ | refine nx_exit_same ?_ | refine nx_exit_other rfl ?_ | refine nx_inb ?_ | refine nx_end rfl ?_ | refine nx_end' rfl ?_ | refine lj_f rfl (fun R hR => opj_box rfl rfl rfl hR) (fun id hid => ?_) | refine lj_f rfl (fun R hR => opj_alloc rfl rfl hR) (fun id hid => ?_) | refine lj_v rfl (fun R hR => opj_load_ptr rfl rfl rfl (by first | exact St.set_same _ _ _ | assumption | exact St.set_keep (by assumption) (St.set_same _ _ _) | exact St.set_keep (by assumption) (by assumption) | exact St.set_keep (by assumption) (St.set_keep (by assumption) (St.set_same _ _ _)) | exact St.set_keep (by assumption) (St.set_keep (by assumption) (by assumption))) rfl rfl hR) ?_ | refine lj_s (fun R hR => opj_store rfl rfl rfl rfl (by first | exact St.set_same _ _ _ | assumption | exact St.set_keep (by assumption) (St.set_same _ _ _) | exact St.set_keep (by assumption) (by assumption) | exact St.set_keep (by assumption) (St.set_keep (by assumption) (St.set_same _ _ _)) | exact St.set_keep (by assumption) (St.set_keep (by assumption) (by assumption))) rfl rfl rfl (Nat.le_of_ble_eq_true rfl) hR) ?_) | ((fail_if_success refine lj_gt rfl rfl ?_); (fail_if_success refine lj_gf rfl rfl ?_); (refine lj_gcase rfl rfl (fun h => ?_) (fun h => ?_))) | refine cj_if rfl (fun h => ?_) (fun h => ?_))
  · rename_i h2
    simp only [decide_eq_true_eq] at h h2
    refine nx_thn ?_
    refine ⟨i + 1, by omega, by omega, ⟨?_, ?_, rfl, trivial⟩, St.le_refl _⟩
    · have hp5 : 256 ^ i ≤ 256 ^ 5 := Nat.pow_le_pow_right (by omega) (by omega)
      show some (AV.v (.int .i64 (IntKind.i64.wrap (256 * ((256 ^ i : Nat) : Int))))) = _
      have e : 256 * ((256 ^ i : Nat) : Int) = ((256 ^ (i + 1) : Nat) : Int) := by rw [Nat.pow_succ, Nat.mul_comm]; rfl
      rw [e, wrapNat _ (by rw [Nat.pow_succ]; omega)]
    · show some (AV.v (.int .i64 (IntKind.i64.wrap ((i : Int) + 1)))) = _
      rw [wrap64_in (by omega) (by omega)]; rfl
  · rename_i h2
    simp only [decide_eq_true_eq, decide_eq_false_iff_not] at h h2
    have : i = (min w 6).toNat := by omega
    subst this
    exact gives (St.le_refl _) (Fin.refl _ _ _)
  · simp only [decide_eq_false_iff_not] at h
    have : i = (min w 6).toNat := by omega
    subst this
    exact gives (St.le_refl _) (Fin.refl _ _ _)
theorem rem256 (m : Nat) : ((m : Int)).tmod 256 = ((m % 256 : Nat) : Int) := by
  rw [Int.tmod_eq_emod_of_nonneg (by omega)]; omega
theorem quo256 (m : Nat) : ((m : Int)).tdiv 256 = ((m / 256 : Nat) : Int) := by
  rw [Int.tdiv_eq_ediv_of_nonneg (by omega)]; omega
theorem div_pow_succ (m i : Nat) : m / 256 ^ i / 256 = m / 256 ^ (i + 1) := by rw [Nat.div_div_eq_div_mul, Nat.pow_succ]
theorem p_rput (n w : Int) (hn : -9223372036854775808 ≤ n ∧ n < 9223372036854775808) : Pure Try.prog 10 [.v (.int .i64 n), .v (.int .i64 w)] (.tup [.sl none false 1 (bys (putB n w)), .v (.int .i64 (putE n w))]) := by
  refine enterW Try.func10 rfl rfl rfl rfl (fun σ => ?_)
  repeat' (first | (first | refine lj_auto rfl rfl ?_ | refine lj_autoy rfl rfl rfl rfl ?_ | refine lj_vn rfl rfl rfl rfl ?_ | refine lj_end ?_ | refine cj_seq ?_ | refine cj_region ?_ | refine cj_yes rfl ?_ | refine cj_no rfl ?_ | refine cj_block ?_ | refine cj_skip ?_ | refine cj_ret ?_ | refine cj_exit ?_ | refine lj_nil ?_ | refine nx_thn_cj ?_ | refine nx_ret_thn ?_ | refine nx_ret_inb ?_ | refine nx_exit_thn ?_ | refine nx_exit_same ?_ | refine nx_exit_other rfl ?_ | refine nx_inb ?_ | refine nx_end rfl ?_ | refine nx_end' rfl ?_ | refine lj_f rfl (fun R hR => opj_box rfl rfl rfl hR) (fun id hid => ?_) | refine lj_f rfl (fun R hR => opj_alloc rfl rfl hR) (fun id hid => ?_) | refine lj_v rfl (fun R hR => opj_load_ptr rfl rfl rfl (by first | exact St.set_same _ _ _ | assumption | exact St.set_keep (by assumption) (St.set_same _ _ _) | exact St.set_keep (by assumption) (by assumption) | exact St.set_keep (by assumption) (St.set_keep (by assumption) (St.set_same _ _ _)) | exact St.set_keep (by assumption) (St.set_keep (by assumption) (by assumption))) rfl rfl hR) ?_ | refine lj_s (fun R hR => opj_store rfl rfl rfl rfl (by first | exact St.set_same _ _ _ | assumption | exact St.set_keep (by assumption) (St.set_same _ _ _) | exact St.set_keep (by assumption) (by assumption) | exact St.set_keep (by assumption) (St.set_keep (by assumption) (St.set_same _ _ _)) | exact St.set_keep (by assumption) (St.set_keep (by assumption) (by assumption))) rfl rfl rfl (Nat.le_of_ble_eq_true rfl) hR) ?_) | ((fail_if_success refine lj_gt rfl rfl ?_); (fail_if_success refine lj_gf rfl rfl ?_); (refine lj_gcase rfl rfl (fun h => ?_) (fun h => ?_))) | refine cj_if rfl (fun h => ?_) (fun h => ?_))
  · have he : putE n w = 2 := by
      simp only [decide_eq_true_eq] at h
      rw [putE, if_pos (by omega)]
    rw [putB, he, if_neg (by decide)]
    exact gives (St.le_refl _) (fin_two (.wk (Wk.sl _ _ _ _)) (Fin.refl _ _ _))
  · have he : putE n w = 2 := by
      simp only [decide_eq_true_eq] at h
      rw [putE, if_pos (by omega)]
    rw [putB, he, if_neg (by decide)]
    exact gives (St.le_refl _) (fin_two (.wk (Wk.sl _ _ _ _)) (Fin.refl _ _ _))
  · rename_i h1 h2
    simp only [decide_eq_true_eq, decide_eq_false_iff_not] at h h1 h2
    have he : putE n w = 12 := by rw [putE, if_neg (by omega), if_pos (.inl h)]
    rw [putB, he, if_neg (by decide)]
    exact gives (St.le_refl _) (fin_two (.wk (Wk.sl _ _ _ _)) (Fin.refl _ _ _))
  · rename_i h1 h2
    simp only [decide_eq_false_iff_not] at h h1 h2
    obtain ⟨k, rfl⟩ := Int.eq_ofNat_of_zero_le (show 0 ≤ w by omega)
    obtain ⟨m, rfl⟩ := Int.eq_ofNat_of_zero_le (show 0 ≤ n by omega)
    refine lj_purey rfl rfl rfl rfl rfl (p_top _) ?_
    have ht : topN (k : Int) = 256 ^ k := by
      have : (min (k : Int) 6).toNat = k := by omega
      rw [topN, this]
    rw [ht]
    repeat' (first | (first | refine lj_auto rfl rfl ?_ | refine lj_autoy rfl rfl rfl rfl ?_ | refine lj_vn rfl rfl rfl rfl ?_ | refine lj_end ?_ | refine cj_seq ?_ | refine cj_region ?_ | refine cj_yes rfl ?_ | refine cj_no rfl ?_ | refine cj_block ?_ | refine cj_skip ?_ | refine cj_ret ?_ | refine cj_exit ?_ | refine lj_nil ?_ | refine nx_thn_cj ?_ | refine nx_ret_thn ?_ | refine nx_ret_inb ?_ | refine nx_exit_thn ?_ | refine nx_exit_same ?_ | refine nx_exit_other rfl ?_ | refine nx_inb ?_ | refine nx_end rfl ?_ | refine nx_end' rfl ?_ | refine lj_f rfl (fun R hR => opj_box rfl rfl rfl hR) (fun id hid => ?_) | refine lj_f rfl (fun R hR => opj_alloc rfl rfl hR) (fun id hid => ?_) | refine lj_v rfl (fun R hR => opj_load_ptr rfl rfl rfl (by first | exact St.set_same _ _ _ | assumption | exact St.set_keep (by assumption) (St.set_same _ _ _) | exact St.set_keep (by assumption) (by assumption) | exact St.set_keep (by assumption) (St.set_keep (by assumption) (St.set_same _ _ _)) | exact St.set_keep (by assumption) (St.set_keep (by assumption) (by assumption))) rfl rfl hR) ?_ | refine lj_s (fun R hR => opj_store rfl rfl rfl rfl (by first | exact St.set_same _ _ _ | assumption | exact St.set_keep (by assumption) (St.set_same _ _ _) | exact St.set_keep (by assumption) (by assumption) | exact St.set_keep (by assumption) (St.set_keep (by assumption) (St.set_same _ _ _)) | exact St.set_keep (by assumption) (St.set_keep (by assumption) (by assumption))) rfl rfl rfl (Nat.le_of_ble_eq_true rfl) hR) ?_) | ((fail_if_success refine lj_gt rfl rfl ?_); (fail_if_success refine lj_gf rfl rfl ?_); (refine lj_gcase rfl rfl (fun h => ?_) (fun h => ?_))) | refine cj_if rfl (fun h => ?_) (fun h => ?_))
    · simp only [decide_eq_true_eq] at h
      have he : putE (m : Int) (k : Int) = 12 := by
        rw [putE, if_neg (by omega), if_pos (.inr (by rw [Int.toNat_natCast]; simpa using h))]
      rw [putB, he, if_neg (by decide)]
      exact gives (St.le_refl _) (fin_two (.wk (Wk.sl _ _ _ _)) (Fin.refl _ _ _))
    · simp only [decide_eq_false_iff_not] at h
      have he : putE (m : Int) (k : Int) = 0 := by
        rw [putE, if_neg (by omega), if_neg (by rw [Int.toNat_natCast]; intro hh; apply h; rcases hh with hh | hh; omega; simpa using hh)]
      rw [putB, he, if_pos rfl, Int.toNat_natCast, Int.toNat_natCast]
      refine cj_headW (fun i : Nat => i ≤ k) (fun i => [(0, .v (.int .i64 ((m / 256 ^ i : Nat) : Int))), (6, .sl none false 1 (bys (be i m))), (7, .v (.int .i64 i)), (1, .v (.int .i64 k))]) (fun _ => σ) (fun i => k - i) 0 (Nat.zero_le _) ⟨⟨_, rfl, Wk.of_eq (by simp)⟩, ⟨_, rfl, Wk.sl _ _ _ _⟩, ⟨_, rfl, Wk.refl _⟩, ⟨_, rfl, Wk.refl _⟩, trivial⟩ (St.le_refl _) (fun i hi => ?_)
      have hbe : bys (be (i + 1) m) = [AV.v (.int .u8 (IntKind.u8.wrap (((m / 256 ^ i : Nat) : Int).tmod 256)))] :: bys (be i m) := by
        rw [be_cons, rem256, wrap8]
        show [AV.v (.int .u8 _)] :: _ = _
        have h9 : (UInt8.ofNat (m / 256 ^ i % 256)).toNat = m / 256 ^ i % 256 := by simp
        rw [h9]
        congr 4
        omega
      repeat' (first | (first | refine lj_auto rfl rfl ?_ | refine lj_autoy rfl rfl rfl rfl ?_ | refine lj_vn rfl rfl rfl rfl ?_ | refine lj_end ?_ | refine cj_seq ?_ | refine cj_region ?_ | refine cj_yes rfl ?_ | refine cj_no rfl ?_ | refine cj_block ?_ | refine cj_skip ?_ | refine cj_ret ?_ | refine cj_exit ?_ | refine lj_nil ?_ | refine nx_thn_cj ?_ | refine nx_ret_thn ?_ | refine nx_ret_inb ?_ | refine nx_exit_thn ?_ | refine nx_exit_same ?_ | refine nx_exit_other rfl ?_ | refine nx_inb ?_ | refine nx_end rfl ?_ | refine nx_end' rfl ?_ | refine lj_f rfl (fun R hR => opj_box rfl rfl rfl hR) (fun id hid => ?_) | refine lj_f rfl (fun R hR => opj_alloc rfl rfl hR) (fun id hid => ?_) | refine lj_v rfl (fun R hR => opj_load_ptr rfl rfl rfl (by first | exact St.set_same _ _ _ | assumption | exact St.set_keep (by assumption) (St.set_same _ _ _) | exact St.set_keep (by assumption) (by assumption) | exact St.set_keep (by assumption) (St.set_keep (by assumption) (St.set_same _ _ _)) | exact St.set_keep (by assumption) (St.set_keep (by assumption) (by assumption))) rfl rfl hR) ?_ | refine lj_s (fun R hR => opj_store rfl rfl rfl rfl (by first | exact St.set_same _ _ _ | assumption | exact St.set_keep (by assumption) (St.set_same _ _ _) | exact St.set_keep (by assumption) (by assumption) | exact St.set_keep (by assumption) (St.set_keep (by assumption) (St.set_same _ _ _)) | exact St.set_keep (by assumption) (St.set_keep (by assumption) (by assumption))) rfl rfl rfl (Nat.le_of_ble_eq_true rfl) hR) ?_) | ((fail_if_success refine lj_gt rfl rfl ?_); (fail_if_success refine lj_gf rfl rfl ?_); (refine lj_gcase rfl rfl (fun h => ?_) (fun h => ?_))) | refine cj_if rfl (fun h => ?_) (fun h => ?_))
      · simp only [decide_eq_true_eq] at h
        refine lj_v rfl (fun R hR => opj_lit (sz := 1) (zs := [.v (.int .u8 0)]) rfl rfl rfl rfl rfl (by decide) (by decide) rfl rfl rfl hR) ?_
        repeat (first | refine lj_auto rfl rfl ?_ | refine lj_autoy rfl rfl rfl rfl ?_ | refine lj_vn rfl rfl rfl rfl ?_ | refine lj_end ?_ | refine cj_seq ?_ | refine cj_region ?_ | refine cj_yes rfl ?_ | refine cj_no rfl ?_ | refine cj_block ?_ | refine cj_skip ?_ | refine cj_ret ?_ | refine cj_exit ?_ | refine lj_nil ?_ | refine nx_thn_cj ?_ | refine nx_ret_thn ?_ | refine nx_ret_inb ?_ | refine nx_exit_thn ?_ | refine nx_exit_same ?_ | refine nx_exit_other rfl ?_ | refine nx_inb ?_ | refine nx_end rfl ?_ | refine nx_end' rfl ?_ | refine lj_f rfl (fun R hR => opj_box rfl rfl rfl hR) (fun id hid => ?_) | refine lj_f rfl (fun R hR => opj_alloc rfl rfl hR) (fun id hid => ?_) | refine lj_v rfl (fun R hR => opj_load_ptr rfl rfl rfl (by first | exact St.set_same _ _ _ | assumption | exact St.set_keep (by assumption) (St.set_same _ _ _) | exact St.set_keep (by assumption) (by assumption) | exact St.set_keep (by assumption) (St.set_keep (by assumption) (St.set_same _ _ _)) | exact St.set_keep (by assumption) (St.set_keep (by assumption) (by assumption))) rfl rfl hR) ?_ | refine lj_s (fun R hR => opj_store rfl rfl rfl rfl (by first | exact St.set_same _ _ _ | assumption | exact St.set_keep (by assumption) (St.set_same _ _ _) | exact St.set_keep (by assumption) (by assumption) | exact St.set_keep (by assumption) (St.set_keep (by assumption) (St.set_same _ _ _)) | exact St.set_keep (by assumption) (St.set_keep (by assumption) (by assumption))) rfl rfl rfl (Nat.le_of_ble_eq_true rfl) hR) ?_)
        refine lj_ite rfl trivial (fun R hR0 hR1 => opj_append_sl (sz := 1) (by_ := 1) (news := bys (be i m)) rfl rfl ⟨rfl, rfl, rfl, by decide⟩ rfl rfl (.inl rfl) rfl rfl (by simp [length_bys, length_be, chunk]; omega) (by decide) hR0 hR1) (fun h0 => ?_) (fun h0 => ?_)
        · repeat (first | refine lj_auto rfl rfl ?_ | refine lj_autoy rfl rfl rfl rfl ?_ | refine lj_vn rfl rfl rfl rfl ?_ | refine lj_end ?_ | refine cj_seq ?_ | refine cj_region ?_ | refine cj_yes rfl ?_ | refine cj_no rfl ?_ | refine cj_block ?_ | refine cj_skip ?_ | refine cj_ret ?_ | refine cj_exit ?_ | refine lj_nil ?_ | refine nx_thn_cj ?_ | refine nx_ret_thn ?_ | refine nx_ret_inb ?_ | refine nx_exit_thn ?_ | refine nx_exit_same ?_ | refine nx_exit_other rfl ?_ | refine nx_inb ?_ | refine nx_end rfl ?_ | refine nx_end' rfl ?_ | refine lj_f rfl (fun R hR => opj_box rfl rfl rfl hR) (fun id hid => ?_) | refine lj_f rfl (fun R hR => opj_alloc rfl rfl hR) (fun id hid => ?_) | refine lj_v rfl (fun R hR => opj_load_ptr rfl rfl rfl (by first | exact St.set_same _ _ _ | assumption | exact St.set_keep (by assumption) (St.set_same _ _ _) | exact St.set_keep (by assumption) (by assumption) | exact St.set_keep (by assumption) (St.set_keep (by assumption) (St.set_same _ _ _)) | exact St.set_keep (by assumption) (St.set_keep (by assumption) (by assumption))) rfl rfl hR) ?_ | refine lj_s (fun R hR => opj_store rfl rfl rfl rfl (by first | exact St.set_same _ _ _ | assumption | exact St.set_keep (by assumption) (St.set_same _ _ _) | exact St.set_keep (by assumption) (by assumption) | exact St.set_keep (by assumption) (St.set_keep (by assumption) (St.set_same _ _ _)) | exact St.set_keep (by assumption) (St.set_keep (by assumption) (by assumption))) rfl rfl rfl (Nat.le_of_ble_eq_true rfl) hR) ?_)
          refine nx_thn ?_
          refine ⟨i + 1, by omega, by omega, ⟨⟨_, rfl, Wk.of_eq ?_⟩, ⟨_, rfl, ?_⟩, ⟨_, rfl, Wk.of_eq ?_⟩, ⟨_, rfl, Wk.refl _⟩, trivial⟩, St.le_refl _⟩
          · rw [← div_pow_succ, quo256, wrapNat _ (Nat.lt_of_le_of_lt (Nat.le_trans (Nat.div_le_self _ _) (Nat.div_le_self _ _)) (by omega : m < 9223372036854775808))]
          · rw [hbe, h0]; exact Wk.sl _ _ _ _
          · rw [wrap64_in (by omega) (by omega)]; rfl
        · repeat (first | refine lj_auto rfl rfl ?_ | refine lj_autoy rfl rfl rfl rfl ?_ | refine lj_vn rfl rfl rfl rfl ?_ | refine lj_end ?_ | refine cj_seq ?_ | refine cj_region ?_ | refine cj_yes rfl ?_ | refine cj_no rfl ?_ | refine cj_block ?_ | refine cj_skip ?_ | refine cj_ret ?_ | refine cj_exit ?_ | refine lj_nil ?_ | refine nx_thn_cj ?_ | refine nx_ret_thn ?_ | refine nx_ret_inb ?_ | refine nx_exit_thn ?_ | refine nx_exit_same ?_ | refine nx_exit_other rfl ?_ | refine nx_inb ?_ | refine nx_end rfl ?_ | refine nx_end' rfl ?_ | refine lj_f rfl (fun R hR => opj_box rfl rfl rfl hR) (fun id hid => ?_) | refine lj_f rfl (fun R hR => opj_alloc rfl rfl hR) (fun id hid => ?_) | refine lj_v rfl (fun R hR => opj_load_ptr rfl rfl rfl (by first | exact St.set_same _ _ _ | assumption | exact St.set_keep (by assumption) (St.set_same _ _ _) | exact St.set_keep (by assumption) (by assumption) | exact St.set_keep (by assumption) (St.set_keep (by assumption) (St.set_same _ _ _)) | exact St.set_keep (by assumption) (St.set_keep (by assumption) (by assumption))) rfl rfl hR) ?_ | refine lj_s (fun R hR => opj_store rfl rfl rfl rfl (by first | exact St.set_same _ _ _ | assumption | exact St.set_keep (by assumption) (St.set_same _ _ _) | exact St.set_keep (by assumption) (by assumption) | exact St.set_keep (by assumption) (St.set_keep (by assumption) (St.set_same _ _ _)) | exact St.set_keep (by assumption) (St.set_keep (by assumption) (by assumption))) rfl rfl rfl (Nat.le_of_ble_eq_true rfl) hR) ?_)
          refine nx_thn ?_
          refine ⟨i + 1, by omega, by omega, ⟨⟨_, rfl, Wk.of_eq ?_⟩, ⟨_, rfl, ?_⟩, ⟨_, rfl, Wk.of_eq ?_⟩, ⟨_, rfl, Wk.refl _⟩, trivial⟩, St.le_refl _⟩
          · rw [← div_pow_succ, quo256, wrapNat _ (Nat.lt_of_le_of_lt (Nat.le_trans (Nat.div_le_self _ _) (Nat.div_le_self _ _)) (by omega : m < 9223372036854775808))]
          · rw [hbe]; exact Wk.sl _ _ _ _
          · rw [wrap64_in (by omega) (by omega)]; rfl
      · simp only [decide_eq_false_iff_not] at h
        have : i = k := by omega
        subst this
        exact gives (St.le_refl _) (fin_two (Fin.refl _ _ _) (Fin.refl _ _ _))
theorem p_rget (nl : Option Bool) (full : Bool) (l : List UInt8) (w : Int) : Pure Try.prog 15 [.sl nl full 1 (bys l), .v (.int .i64 w)] (.tup [.v (.int .i64 (getN l w).1), .v (.int .i64 (getN l w).2)]) := by
  refine enterW Try.func15 rfl rfl rfl rfl (fun σ => ?_)
  repeat' (first | (first | refine lj_auto rfl rfl ?_ | refine lj_autoy rfl rfl rfl rfl ?_ | refine lj_vn rfl rfl rfl rfl ?_ | refine lj_end ?_ | refine cj_seq ?_ | refine cj_region ?_ | refine cj_yes rfl ?_ | refine cj_no rfl ?_ | refine cj_block ?_ | refine cj_skip ?_ | refine cj_ret ?_ | refine cj_exit ?_ | refine lj_nil ?_ | refine nx_thn_cj ?_ | refine nx_ret_thn ?_ | refine nx_ret_inb ?_ | refine nx_exit_thn ?_ | refine nx_exit_same ?_ | refine nx_exit_other rfl ?_ | refine nx_inb ?_ | refine nx_end rfl ?_ | refine nx_end' rfl ?_ | refine lj_f rfl (fun R hR => opj_box rfl rfl rfl hR) (fun id hid => ?_) | refine lj_f rfl (fun R hR => opj_alloc rfl rfl hR) (fun id hid => ?_) | refine lj_v rfl (fun R hR => opj_load_ptr rfl rfl rfl (by first | exact St.set_same _ _ _ | assumption | exact St.set_keep (by assumption) (St.set_same _ _ _) | exact St.set_keep (by assumption) (by assumption) | exact St.set_keep (by assumption) (St.set_keep (by assumption) (St.set_same _ _ _)) | exact St.set_keep (by assumption) (St.set_keep (by assumption) (by assumption))) rfl rfl hR) ?_ | refine lj_s (fun R hR => opj_store rfl rfl rfl rfl (by first | exact St.set_same _ _ _ | assumption | exact St.set_keep (by assumption) (St.set_same _ _ _) | exact St.set_keep (by assumption) (by assumption) | exact St.set_keep (by assumption) (St.set_keep (by assumption) (St.set_same _ _ _)) | exact St.set_keep (by assumption) (St.set_keep (by assumption) (by assumption))) rfl rfl rfl (Nat.le_of_ble_eq_true rfl) hR) ?_) | ((fail_if_success refine lj_gt rfl rfl ?_); (fail_if_success refine lj_gf rfl rfl ?_); (refine lj_gcase rfl rfl (fun h => ?_) (fun h => ?_))) | refine cj_if rfl (fun h => ?_) (fun h => ?_))
  · simp only [decide_eq_true_eq] at h
    rw [getN, if_pos (by omega)]
    exact gives (St.le_refl _) (Fin.refl _ _ _)
  · simp only [decide_eq_true_eq] at h
    rw [getN, if_pos (by omega)]
    exact gives (St.le_refl _) (Fin.refl _ _ _)
  · rename_i h1 h2
    simp only [decide_eq_true_eq, decide_eq_false_iff_not, length_bys] at h h1 h2
    rw [getN, if_neg (by omega), if_pos h]
    exact gives (St.le_refl _) (Fin.refl _ _ _)
  · rename_i h1 h2
    simp only [decide_eq_false_iff_not, length_bys] at h h1 h2
    have h0 := h; clear h
    obtain ⟨k, rfl⟩ := Int.eq_ofNat_of_zero_le (show 0 ≤ w by omega)
    refine cj_head (fun i : Nat => i ≤ k) (fun i => [(6, .v (.int .i64 (beNat (l.take i)))), (1, .v (.int .i64 k)), (7, .v (.int .i64 i)), (0, .sl nl full 1 (bys l))]) (fun _ => σ) (fun i => k - i) 0 (Nat.zero_le _) ⟨rfl, rfl, rfl, rfl, trivial⟩ (St.le_refl _) (fun i hi => ?_)
    have hlt := beNat_lt (l.take i)
    have hp : 256 ^ (l.take i).length ≤ 256 ^ 6 := Nat.pow_le_pow_right (by omega) (by rw [List.length_take]; omega)
    repeat' (first | (first | refine lj_auto rfl rfl ?_ | refine lj_autoy rfl rfl rfl rfl ?_ | refine lj_vn rfl rfl rfl rfl ?_ | refine lj_end ?_ | refine cj_seq ?_ | refine cj_region ?_ | refine cj_yes rfl ?_ | refine cj_no rfl ?_ | refine cj_block ?_ | refine cj_skip ?_ | refine cj_ret ?_ | refine cj_exit ?_ | refine lj_nil ?_ | refine nx_thn_cj ?_ | refine nx_ret_thn ?_ | refine nx_ret_inb ?_ | refine nx_exit_thn ?_ | refine nx_exit_same ?_ | refine nx_exit_other rfl ?_ | refine nx_inb ?_ | refine nx_end rfl ?_ | refine nx_end' rfl ?_ | refine lj_f rfl (fun R hR => opj_box rfl rfl rfl hR) (fun id hid => ?_) | refine lj_f rfl (fun R hR => opj_alloc rfl rfl hR) (fun id hid => ?_) | refine lj_v rfl (fun R hR => opj_load_ptr rfl rfl rfl (by first | exact St.set_same _ _ _ | assumption | exact St.set_keep (by assumption) (St.set_same _ _ _) | exact St.set_keep (by assumption) (by assumption) | exact St.set_keep (by assumption) (St.set_keep (by assumption) (St.set_same _ _ _)) | exact St.set_keep (by assumption) (St.set_keep (by assumption) (by assumption))) rfl rfl hR) ?_ | refine lj_s (fun R hR => opj_store rfl rfl rfl rfl (by first | exact St.set_same _ _ _ | assumption | exact St.set_keep (by assumption) (St.set_same _ _ _) | exact St.set_keep (by assumption) (by assumption) | exact St.set_keep (by assumption) (St.set_keep (by assumption) (St.set_same _ _ _)) | exact St.set_keep (by assumption) (St.set_keep (by assumption) (by assumption))) rfl rfl rfl (Nat.le_of_ble_eq_true rfl) hR) ?_) | ((fail_if_success refine lj_gt rfl rfl ?_); (fail_if_success refine lj_gf rfl rfl ?_); (refine lj_gcase rfl rfl (fun h => ?_) (fun h => ?_))) | refine cj_if rfl (fun h => ?_) (fun h => ?_))
    · have h3 := h
      simp only [decide_eq_true_eq] at h3
      have hil : i < l.length := by omega
      refine lj_v rfl (fun R hR => opj_indexAddr_sl rfl rfl rfl rfl rfl (by omega) (bys_get l i hil) hR) ?_
      repeat (first | refine lj_auto rfl rfl ?_ | refine lj_autoy rfl rfl rfl rfl ?_ | refine lj_vn rfl rfl rfl rfl ?_ | refine lj_end ?_ | refine cj_seq ?_ | refine cj_region ?_ | refine cj_yes rfl ?_ | refine cj_no rfl ?_ | refine cj_block ?_ | refine cj_skip ?_ | refine cj_ret ?_ | refine cj_exit ?_ | refine lj_nil ?_ | refine nx_thn_cj ?_ | refine nx_ret_thn ?_ | refine nx_ret_inb ?_ | refine nx_exit_thn ?_ | refine nx_exit_same ?_ | refine nx_exit_other rfl ?_ | refine nx_inb ?_ | refine nx_end rfl ?_ | refine nx_end' rfl ?_ | refine lj_f rfl (fun R hR => opj_box rfl rfl rfl hR) (fun id hid => ?_) | refine lj_f rfl (fun R hR => opj_alloc rfl rfl hR) (fun id hid => ?_) | refine lj_v rfl (fun R hR => opj_load_ptr rfl rfl rfl (by first | exact St.set_same _ _ _ | assumption | exact St.set_keep (by assumption) (St.set_same _ _ _) | exact St.set_keep (by assumption) (by assumption) | exact St.set_keep (by assumption) (St.set_keep (by assumption) (St.set_same _ _ _)) | exact St.set_keep (by assumption) (St.set_keep (by assumption) (by assumption))) rfl rfl hR) ?_ | refine lj_s (fun R hR => opj_store rfl rfl rfl rfl (by first | exact St.set_same _ _ _ | assumption | exact St.set_keep (by assumption) (St.set_same _ _ _) | exact St.set_keep (by assumption) (by assumption) | exact St.set_keep (by assumption) (St.set_keep (by assumption) (St.set_same _ _ _)) | exact St.set_keep (by assumption) (St.set_keep (by assumption) (by assumption))) rfl rfl rfl (Nat.le_of_ble_eq_true rfl) hR) ?_)
      refine nx_thn ?_
      refine ⟨i + 1, by omega, by omega, ⟨?_, rfl, ?_, rfl, trivial⟩, St.le_refl _⟩
      · have hs : l.take (i + 1) = l.take i ++ [l[i]] := by rw [List.take_succ_eq_append_getElem hil]
        have hb := (l[i]).toNat_lt
        show some (AV.v (.int .i64 (IntKind.i64.wrap (IntKind.i64.wrap (256 * (beNat (l.take i) : Int)) + IntKind.i64.wrap (l[i].toNat : Int))))) = _
        rw [hs, beNat_snoc, wrap64_in (n := (l[i].toNat : Int)) (by omega) (by omega), wrap64_in (n := 256 * (beNat (l.take i) : Int)) (by omega) (by omega), wrap64_in (by omega) (by omega)]
        congr 3
        omega
      · show some (AV.v (.int .i64 (IntKind.i64.wrap ((i : Int) + 1)))) = _
        rw [wrap64_in (by omega) (by omega)]
        rfl
    · have h3 := h
      simp only [decide_eq_false_iff_not] at h3
      have : i = k := by omega
      subst this
      rw [getN, if_neg (by omega), if_neg (by omega)]
      exact gives (St.le_refl _) (Fin.refl _ _ _)
end Go.Proofs.Ytgchdhdblkbkiaa.Ab
