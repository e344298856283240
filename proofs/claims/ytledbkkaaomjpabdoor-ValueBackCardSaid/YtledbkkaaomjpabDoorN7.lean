/- Numbers of a set width, 7: the program's reader of texts, and its making. -/
import Derived.Test.YtledbkkaaomjpabDoorN6
set_option linter.unusedVariables false
set_option linter.unusedSimpArgs false
namespace Go.Proofs.YtledbkkaaomjpabDoor.Ab
open Go
attribute [local irreducible] thn inb endR CJ LJ OpJ DJ

def rtextOk : List UInt8 → ByteArray × List UInt8 × Int
  | [] => (⟨#[]⟩, [], 3)
  | b :: r => if r.length < b.toNat then (⟨#[]⟩, b :: r, 3) else (⟨(r.take b.toNat).toArray⟩, r.drop b.toNat, 0)
def rtext (l : List UInt8) (e : Int) : ByteArray × List UInt8 × Int := if e ≠ 0 then (⟨#[]⟩, l, e) else rtextOk l
theorem wrap8in (b : UInt8) : IntKind.i64.wrap ((b.toNat : Int)) = b.toNat := wrapNat _ (by have := b.toNat_lt; omega)
theorem p_rdtext {σ : St} {id : Nat} {l : List UInt8} {e : Int} (hl : l.length < 9223372036854775807) (hid : σ id = some (rd l e)) : ACalls Tryd.prog 39 [.ptr id 2 0 0] σ (Leaves (σ.set id (rd (rtext l e).2.1 (rtext l e).2.2)) (.v (.string (rtext l e).1))) := by
  refine enterS Tryd.func39 rfl rfl rfl rfl ?_
  repeat (first|(refine jl ?_;first|refine j1 ?_|refine j2 ?_|refine j3 ?_|refine j3f ?_|refine j4 ?_|refine j5 ?_|refine j6 ?_|refine j12 (fun id hid=>?_)|refine j13 (fun id hid=>?_)|refine j14 ?_|refine j15 ?_|refine j17 ?_)|(refine jc ?_;first|refine c1 ?_|refine c2 ?_|refine c3 ?_|refine c4 ?_|refine cj_yes rfl ?_|refine cj_no rfl ?_|refine c5 ?_|refine c6 ?_|refine c7 ?_|refine c8 ?_)|refine n1 ?_|refine n2 ?_|refine n3 ?_|refine n4 ?_|refine n5 ?_|refine n6 ?_|refine n7 ?_|refine n8 ?_|refine n9 ?_|refine n10 ?_|refine n13 ?_|refine n11 ?_|refine n12 ?_|refine n14 ?_|refine n15 ?_|refine n16 ?_)
  refine lj_to rfl rfl rfl (p_err hid) ?_
  repeat' (first | (first|(refine jl ?_;first|refine j1 ?_|refine j2 ?_|refine j3 ?_|refine j3f ?_|refine j4 ?_|refine j5 ?_|refine j6 ?_|refine j12 (fun id hid=>?_)|refine j13 (fun id hid=>?_)|refine j14 ?_|refine j15 ?_|refine j17 ?_)|(refine jc ?_;first|refine c1 ?_|refine c2 ?_|refine c3 ?_|refine c4 ?_|refine cj_yes rfl ?_|refine cj_no rfl ?_|refine c5 ?_|refine c6 ?_|refine c7 ?_|refine c8 ?_)|refine n1 ?_|refine n2 ?_|refine n3 ?_|refine n4 ?_|refine n5 ?_|refine n6 ?_|refine n7 ?_|refine n8 ?_|refine n9 ?_|refine n10 ?_|refine n13 ?_|refine n11 ?_|refine n12 ?_|refine n14 ?_|refine n15 ?_|refine n16 ?_) | ((fail_if_success refine lj_gt rfl rfl ?_); (fail_if_success refine lj_gf rfl rfl ?_); ((refine lj_gcase rfl rfl (fun h => ?_) (fun h => ?_)) <;> (try (exfalso; simp at h; done)))) | (refine c9 (fun h=>?_) (fun h=>?_) <;> (try (exfalso; simp at h; done))))
  · have he : e ≠ 0 := by simpa using h
    rw [rtext, if_pos he, St.set_id hid]
    exact gives (St.le_refl _) (Fin.refl _ _ _)
  · have he : e = 0 := by simpa using h
    subst he
    clear h
    rw [rtext, if_neg (by decide)]
    refine cj_drawn (by kernel_rfl) 999 _ rfl (by kernel_rfl) (.inr rfl) ?_
    repeat' (first | (first | refine dj_auto rfl rfl ?_ | refine dj_autoy rfl rfl rfl rfl ?_ | refine dj_n rfl rfl rfl rfl ?_ | refine dj_nil rfl ?_ | refine dj_v rfl (fun R hR => opj_load_ptr rfl rfl rfl (by first | exact St.set_same _ _ _ | assumption | exact St.set_keep (by assumption) (St.set_same _ _ _) | exact St.set_keep (by assumption) (by assumption) | exact St.set_keep (by assumption) (St.set_keep (by assumption) (St.set_same _ _ _)) | exact St.set_keep (by assumption) (St.set_keep (by assumption) (by assumption))) rfl rfl hR) (fun R hR => opj_load_ptr rfl rfl rfl (by first | exact St.set_same _ _ _ | assumption | exact St.set_keep (by assumption) (St.set_same _ _ _) | exact St.set_keep (by assumption) (by assumption) | exact St.set_keep (by assumption) (St.set_keep (by assumption) (St.set_same _ _ _)) | exact St.set_keep (by assumption) (St.set_keep (by assumption) (by assumption))) rfl rfl hR) ?_ | refine dj_vy rfl rfl rfl (fun R hR => opj_load_ptr rfl rfl rfl (by first | exact St.set_same _ _ _ | assumption | exact St.set_keep (by assumption) (St.set_same _ _ _) | exact St.set_keep (by assumption) (by assumption) | exact St.set_keep (by assumption) (St.set_keep (by assumption) (St.set_same _ _ _)) | exact St.set_keep (by assumption) (St.set_keep (by assumption) (by assumption))) rfl rfl hR) (fun R hR => opj_load_ptr rfl rfl rfl (by first | exact St.set_same _ _ _ | assumption | exact St.set_keep (by assumption) (St.set_same _ _ _) | exact St.set_keep (by assumption) (by assumption) | exact St.set_keep (by assumption) (St.set_keep (by assumption) (St.set_same _ _ _)) | exact St.set_keep (by assumption) (St.set_keep (by assumption) (by assumption))) rfl rfl hR) ?_) | ((fail_if_success refine dj_gt rfl rfl ?_); (fail_if_success refine dj_gf rfl rfl ?_); ((refine dj_gcase rfl rfl (fun h => ?_) (fun h => ?_)) <;> (try (exfalso; simp at h; done)))))
    · have h0 : l = [] := by simpa [length_bys] using h
      subst h0
      repeat (first|(refine jl ?_;first|refine j1 ?_|refine j2 ?_|refine j3 ?_|refine j3f ?_|refine j4 ?_|refine j5 ?_|refine j6 ?_|refine j12 (fun id hid=>?_)|refine j13 (fun id hid=>?_)|refine j14 ?_|refine j15 ?_|refine j17 ?_)|(refine jc ?_;first|refine c1 ?_|refine c2 ?_|refine c3 ?_|refine c4 ?_|refine cj_yes rfl ?_|refine cj_no rfl ?_|refine c5 ?_|refine c6 ?_|refine c7 ?_|refine c8 ?_)|refine n1 ?_|refine n2 ?_|refine n3 ?_|refine n4 ?_|refine n5 ?_|refine n6 ?_|refine n7 ?_|refine n8 ?_|refine n9 ?_|refine n10 ?_|refine n13 ?_|refine n11 ?_|refine n12 ?_|refine n14 ?_|refine n15 ?_|refine n16 ?_)
      exact gives (St.le_refl _) (Fin.refl _ _ _)
    · cases l with
      | nil => simp [bys] at h
      | cons b r =>
        have hb := b.toNat_lt
        simp only [List.length_cons] at hl
        refine dj_vy rfl rfl rfl (fun R hR => opj_indexAddr_sl rfl rfl rfl rfl rfl (by decide) (el := [.v (.int .u8 b.toNat)]) rfl hR) (fun R hR => opj_indexAddr_sl rfl rfl rfl rfl rfl (by decide) (el := [.v (.int .u8 b.toNat)]) rfl hR) ?_
        repeat (first | refine dj_auto rfl rfl ?_ | refine dj_autoy rfl rfl rfl rfl ?_ | refine dj_n rfl rfl rfl rfl ?_ | refine dj_nil rfl ?_ | refine dj_v rfl (fun R hR => opj_load_ptr rfl rfl rfl (by first | exact St.set_same _ _ _ | assumption | exact St.set_keep (by assumption) (St.set_same _ _ _) | exact St.set_keep (by assumption) (by assumption) | exact St.set_keep (by assumption) (St.set_keep (by assumption) (St.set_same _ _ _)) | exact St.set_keep (by assumption) (St.set_keep (by assumption) (by assumption))) rfl rfl hR) (fun R hR => opj_load_ptr rfl rfl rfl (by first | exact St.set_same _ _ _ | assumption | exact St.set_keep (by assumption) (St.set_same _ _ _) | exact St.set_keep (by assumption) (by assumption) | exact St.set_keep (by assumption) (St.set_keep (by assumption) (St.set_same _ _ _)) | exact St.set_keep (by assumption) (St.set_keep (by assumption) (by assumption))) rfl rfl hR) ?_ | refine dj_vy rfl rfl rfl (fun R hR => opj_load_ptr rfl rfl rfl (by first | exact St.set_same _ _ _ | assumption | exact St.set_keep (by assumption) (St.set_same _ _ _) | exact St.set_keep (by assumption) (by assumption) | exact St.set_keep (by assumption) (St.set_keep (by assumption) (St.set_same _ _ _)) | exact St.set_keep (by assumption) (St.set_keep (by assumption) (by assumption))) rfl rfl hR) (fun R hR => opj_load_ptr rfl rfl rfl (by first | exact St.set_same _ _ _ | assumption | exact St.set_keep (by assumption) (St.set_same _ _ _) | exact St.set_keep (by assumption) (by assumption) | exact St.set_keep (by assumption) (St.set_keep (by assumption) (St.set_same _ _ _)) | exact St.set_keep (by assumption) (St.set_keep (by assumption) (by assumption))) rfl rfl hR) ?_)
        have hlen : IntKind.i64.wrap (((bys (b :: r)).length : Int) - 1) = r.length := by
          rw [length_bys, List.length_cons]
          have e1 : ((r.length + 1 : Nat) : Int) - 1 = r.length := by omega
          rw [e1, wrapNat _ (by omega)]
        rw [hlen, wrap8in]
        repeat' (first | (first|(refine jl ?_;first|refine j1 ?_|refine j2 ?_|refine j3 ?_|refine j3f ?_|refine j4 ?_|refine j5 ?_|refine j6 ?_|refine j12 (fun id hid=>?_)|refine j13 (fun id hid=>?_)|refine j14 ?_|refine j15 ?_|refine j17 ?_)|(refine jc ?_;first|refine c1 ?_|refine c2 ?_|refine c3 ?_|refine c4 ?_|refine cj_yes rfl ?_|refine cj_no rfl ?_|refine c5 ?_|refine c6 ?_|refine c7 ?_|refine c8 ?_)|refine n1 ?_|refine n2 ?_|refine n3 ?_|refine n4 ?_|refine n5 ?_|refine n6 ?_|refine n7 ?_|refine n8 ?_|refine n9 ?_|refine n10 ?_|refine n13 ?_|refine n11 ?_|refine n12 ?_|refine n14 ?_|refine n15 ?_|refine n16 ?_) | ((fail_if_success refine lj_gt rfl rfl ?_); (fail_if_success refine lj_gf rfl rfl ?_); ((refine lj_gcase rfl rfl (fun h => ?_) (fun h => ?_)) <;> (try (exfalso; simp at h; done)))) | (refine c9 (fun h=>?_) (fun h=>?_) <;> (try (exfalso; simp at h; done))))
        · have hlt : r.length < b.toNat := by simpa using h
          simp only [rtextOk, if_pos hlt]
          exact gives (St.le_refl _) (Fin.refl _ _ _)
        · have hlt : ¬ r.length < b.toNat := by simpa using h
          simp only [rtextOk, if_neg hlt]
          refine lj_v rfl (fun R hR => opj_indexAddr_sl rfl rfl rfl rfl rfl (by decide) (el := [.v (.int .u8 b.toNat)]) rfl hR) ?_
          repeat (first|(refine jl ?_;first|refine j1 ?_|refine j2 ?_|refine j3 ?_|refine j3f ?_|refine j4 ?_|refine j5 ?_|refine j6 ?_|refine j12 (fun id hid=>?_)|refine j13 (fun id hid=>?_)|refine j14 ?_|refine j15 ?_|refine j17 ?_)|(refine jc ?_;first|refine c1 ?_|refine c2 ?_|refine c3 ?_|refine c4 ?_|refine cj_yes rfl ?_|refine cj_no rfl ?_|refine c5 ?_|refine c6 ?_|refine c7 ?_|refine c8 ?_)|refine n1 ?_|refine n2 ?_|refine n3 ?_|refine n4 ?_|refine n5 ?_|refine n6 ?_|refine n7 ?_|refine n8 ?_|refine n9 ?_|refine n10 ?_|refine n13 ?_|refine n11 ?_|refine n12 ?_|refine n14 ?_|refine n15 ?_|refine n16 ?_)
          rw [wrap8in, show (1 : Int) + (b.toNat : Int) = ((1 + b.toNat : Nat) : Int) from by omega, wrapNat (1 + b.toNat) (by omega)]
          refine lj_v rfl (fun R hR => opj_cut_sl rfl rfl rfl rfl rfl rfl (by omega) (by omega) (by rw [length_bys, List.length_cons]; omega) hR) ?_
          rw [show (((1 + b.toNat : Nat) : Int)).toNat = 1 + b.toNat from rfl, bys_take, show (Int.toNat 1) = 1 from rfl, bys_drop]
          repeat (first|(refine jl ?_;first|refine j1 ?_|refine j2 ?_|refine j3 ?_|refine j3f ?_|refine j4 ?_|refine j5 ?_|refine j6 ?_|refine j12 (fun id hid=>?_)|refine j13 (fun id hid=>?_)|refine j14 ?_|refine j15 ?_|refine j17 ?_)|(refine jc ?_;first|refine c1 ?_|refine c2 ?_|refine c3 ?_|refine c4 ?_|refine cj_yes rfl ?_|refine cj_no rfl ?_|refine c5 ?_|refine c6 ?_|refine c7 ?_|refine c8 ?_)|refine n1 ?_|refine n2 ?_|refine n3 ?_|refine n4 ?_|refine n5 ?_|refine n6 ?_|refine n7 ?_|refine n8 ?_|refine n9 ?_|refine n10 ?_|refine n13 ?_|refine n11 ?_|refine n12 ?_|refine n14 ?_|refine n15 ?_|refine n16 ?_)
          refine lj_v rfl (fun R hR => opj_conv_bytes rfl rfl rfl rfl rfl rfl hR) ?_
          repeat (first|(refine jl ?_;first|refine j1 ?_|refine j2 ?_|refine j3 ?_|refine j3f ?_|refine j4 ?_|refine j5 ?_|refine j6 ?_|refine j12 (fun id hid=>?_)|refine j13 (fun id hid=>?_)|refine j14 ?_|refine j15 ?_|refine j17 ?_)|(refine jc ?_;first|refine c1 ?_|refine c2 ?_|refine c3 ?_|refine c4 ?_|refine cj_yes rfl ?_|refine cj_no rfl ?_|refine c5 ?_|refine c6 ?_|refine c7 ?_|refine c8 ?_)|refine n1 ?_|refine n2 ?_|refine n3 ?_|refine n4 ?_|refine n5 ?_|refine n6 ?_|refine n7 ?_|refine n8 ?_|refine n9 ?_|refine n10 ?_|refine n13 ?_|refine n11 ?_|refine n12 ?_|refine n14 ?_|refine n15 ?_|refine n16 ?_)
          refine lj_v rfl (fun R hR => opj_cut_sl rfl rfl rfl rfl rfl rfl (by omega) (by rw [length_bys, List.length_cons]; omega) (by omega) hR) ?_
          rw [show (((bys (b :: r)).length : Int)).toNat = (bys (b :: r)).length from rfl, List.take_length, show (((1 + b.toNat : Nat) : Int)).toNat = 1 + b.toNat from rfl, bys_drop]
          repeat (first|(refine jl ?_;first|refine j1 ?_|refine j2 ?_|refine j3 ?_|refine j3f ?_|refine j4 ?_|refine j5 ?_|refine j6 ?_|refine j12 (fun id hid=>?_)|refine j13 (fun id hid=>?_)|refine j14 ?_|refine j15 ?_|refine j17 ?_)|(refine jc ?_;first|refine c1 ?_|refine c2 ?_|refine c3 ?_|refine c4 ?_|refine cj_yes rfl ?_|refine cj_no rfl ?_|refine c5 ?_|refine c6 ?_|refine c7 ?_|refine c8 ?_)|refine n1 ?_|refine n2 ?_|refine n3 ?_|refine n4 ?_|refine n5 ?_|refine n6 ?_|refine n7 ?_|refine n8 ?_|refine n9 ?_|refine n10 ?_|refine n13 ?_|refine n11 ?_|refine n12 ?_|refine n14 ?_|refine n15 ?_|refine n16 ?_)
          have e1 : (b :: r).drop (1 + b.toNat) = r.drop b.toNat := by rw [Nat.add_comm]; rfl
          have e2 : ((b :: r).take (1 + b.toNat)).drop 1 = r.take b.toNat := by rw [Nat.add_comm]; rfl
          rw [e1, e2]
          exact gives (St.le_refl _) (Fin.refl _ _ _)
theorem p_rdtext0 : Pure Tryd.prog 39 [.v (.pointer none)] (.v (.string ⟨#[]⟩)) := by
  refine enterW Tryd.func39 rfl rfl rfl rfl (fun σ => ?_)
  repeat (first|(refine jl ?_;first|refine j1 ?_|refine j2 ?_|refine j3 ?_|refine j3f ?_|refine j4 ?_|refine j5 ?_|refine j6 ?_|refine j12 (fun id hid=>?_)|refine j13 (fun id hid=>?_)|refine j14 ?_|refine j15 ?_|refine j17 ?_)|(refine jc ?_;first|refine c1 ?_|refine c2 ?_|refine c3 ?_|refine c4 ?_|refine cj_yes rfl ?_|refine cj_no rfl ?_|refine c5 ?_|refine c6 ?_|refine c7 ?_|refine c8 ?_)|refine n1 ?_|refine n2 ?_|refine n3 ?_|refine n4 ?_|refine n5 ?_|refine n6 ?_|refine n7 ?_|refine n8 ?_|refine n9 ?_|refine n10 ?_|refine n13 ?_|refine n11 ?_|refine n12 ?_|refine n14 ?_|refine n15 ?_|refine n16 ?_)
  refine lj_pure rfl rfl rfl p_err0 ?_
  repeat (first|(refine jl ?_;first|refine j1 ?_|refine j2 ?_|refine j3 ?_|refine j3f ?_|refine j4 ?_|refine j5 ?_|refine j6 ?_|refine j12 (fun id hid=>?_)|refine j13 (fun id hid=>?_)|refine j14 ?_|refine j15 ?_|refine j17 ?_)|(refine jc ?_;first|refine c1 ?_|refine c2 ?_|refine c3 ?_|refine c4 ?_|refine cj_yes rfl ?_|refine cj_no rfl ?_|refine c5 ?_|refine c6 ?_|refine c7 ?_|refine c8 ?_)|refine n1 ?_|refine n2 ?_|refine n3 ?_|refine n4 ?_|refine n5 ?_|refine n6 ?_|refine n7 ?_|refine n8 ?_|refine n9 ?_|refine n10 ?_|refine n13 ?_|refine n11 ?_|refine n12 ?_|refine n14 ?_|refine n15 ?_|refine n16 ?_)
  exact gives (St.le_refl _) (Fin.refl _ _ _)
theorem p_new (nl : Option Bool) (full : Bool) (l : List UInt8) (hl : l.length ≤ 140737488355328) (σ : St) : ACalls Tryd.prog 36 [.sl nl full 1 (bys l)] σ (fun e σ' => ∃ id, σ id = none ∧ e = .ret (.ptr id 2 0 0) ∧ σ' = σ.set id (rd l 0)) := by
  refine enter Tryd.func36 rfl rfl rfl rfl ?_
  repeat (first|(refine jl ?_;first|refine j1 ?_|refine j2 ?_|refine j3 ?_|refine j3f ?_|refine j4 ?_|refine j5 ?_|refine j6 ?_|refine j12 (fun id hid=>?_)|refine j13 (fun id hid=>?_)|refine j14 ?_|refine j15 ?_|refine j17 ?_)|(refine jc ?_;first|refine c1 ?_|refine c2 ?_|refine c3 ?_|refine c4 ?_|refine cj_yes rfl ?_|refine cj_no rfl ?_|refine c5 ?_|refine c6 ?_|refine c7 ?_|refine c8 ?_)|refine n1 ?_|refine n2 ?_|refine n3 ?_|refine n4 ?_|refine n5 ?_|refine n6 ?_|refine n7 ?_|refine n8 ?_|refine n9 ?_|refine n10 ?_|refine n13 ?_|refine n11 ?_|refine n12 ?_|refine n14 ?_|refine n15 ?_|refine n16 ?_)
  refine lj_pure rfl rfl rfl (p_clone _ _ l hl) ?_
  repeat (first|(refine jl ?_;first|refine j1 ?_|refine j2 ?_|refine j3 ?_|refine j3f ?_|refine j4 ?_|refine j5 ?_|refine j6 ?_|refine j12 (fun id hid=>?_)|refine j13 (fun id hid=>?_)|refine j14 ?_|refine j15 ?_|refine j17 ?_)|(refine jc ?_;first|refine c1 ?_|refine c2 ?_|refine c3 ?_|refine c4 ?_|refine cj_yes rfl ?_|refine cj_no rfl ?_|refine c5 ?_|refine c6 ?_|refine c7 ?_|refine c8 ?_)|refine n1 ?_|refine n2 ?_|refine n3 ?_|refine n4 ?_|refine n5 ?_|refine n6 ?_|refine n7 ?_|refine n8 ?_|refine n9 ?_|refine n10 ?_|refine n13 ?_|refine n11 ?_|refine n12 ?_|refine n14 ?_|refine n15 ?_|refine n16 ?_)
  exact ⟨_, by assumption, rfl, rfl⟩
theorem rnum_le (l : List UInt8) (e w : Int) : (rnum l e w).2.1.length ≤ l.length := by
  unfold rnum
  split
  · exact Nat.le_refl _
  · split
    · exact Nat.le_refl _
    · simp
theorem rsigned_le (l : List UInt8) (e : Int) : (rsigned l e).2.1.length ≤ l.length := by
  unfold rsigned
  split
  · exact Nat.le_refl _
  · split
    · exact Nat.le_refl _
    · simp
theorem rtext_le (l : List UInt8) (e : Int) : (rtext l e).2.1.length ≤ l.length := by
  unfold rtext
  split
  · exact Nat.le_refl _
  · unfold rtextOk
    split
    · exact Nat.le_refl _
    · split
      · exact Nat.le_refl _
      · simp; omega
end Go.Proofs.YtledbkkaaomjpabDoor.Ab
