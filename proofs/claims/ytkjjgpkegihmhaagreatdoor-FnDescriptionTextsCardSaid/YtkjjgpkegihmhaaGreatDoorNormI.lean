/-
  NormalizeText of the program.
-/
import Derived.Test.YtkjjgpkegihmhaaGreatDoorPDescI
import Derived.Test.YtkjjgpkegihmhaaGreatDoorLines
namespace Go.Proofs.YtkjjgpkegihmhaaGreatDoor
open Go.RowKit
set_option linter.unusedVariables false

set_option maxRecDepth 100000 in
set_option maxHeartbeats 4000000 in
theorem i_NormalizeText (s : ByteArray) (hs : s.size ≤ 1048576) (w : World) (ht : Tab w) :
    Calls Tryz.prog 23 #[.string s] w fun e w' => e = .returned (.string (mkS (normT s.data.toList))) ∧ Below w.heap.size w w' := by
  have pd := i_ParseDescription s hs w ht
  obtain ⟨T, hT⟩ : ∃ T, T = normT s.data.toList := ⟨_, rfl⟩
  rw [← hT]
  have hTF : T = if (descP s.data.toList).2 = 0 then descT (descP s.data.toList).1 else [] := by rw [hT]; rfl
  have hvd := fun h => descP_valid (t := s.data.toList) h
  obtain ⟨F, hF⟩ : ∃ F, F = descP s.data.toList := ⟨_, rfl⟩
  rw [← hF] at pd hTF hvd
  have HTF := Lib.hid hTF
  have HVD := Lib.hid hvd
  have PD := Lib.hid pd
  have HT := Lib.hid ht
  clear pd hTF hvd hF hT ht hs
  go_enter Tryz.func23, Tryz.ntmps23
  go_wp2_with fail
  refine PD.out.mono ?_
  rintro e w1 ⟨v, rfl, hor, hb1⟩
  obtain ⟨Ao, co, rfl⟩ := hor.slice
  have B1 := Lib.hid hb1
  have O1 := Lib.hid hor
  clear hor hb1
  by_cases h0 : F.2 = 0
  · have hfin : Hid (T = descT F.1) := by show _ = _; rw [HTF.out, if_pos h0]
    obtain ⟨hg, hl1, hl2⟩ := validD_good (HVD.out h0)
    obtain ⟨l, hl⟩ : ∃ l, l = F.1 := ⟨_, rfl⟩
    rw [← hl] at hg hl1 hl2 hfin O1 ⊢
    have FD := Lib.hid (fun w ht hd => i_FormatDescription (.agg #[.slice Ao l.length co]) l (by omega) (good_fits (by omega) hg) (good_small (by omega) hg) (good_names (by omega) hg) w ht hd)
    rw [h0]
    clear h0 hg hl1 hl2 hl
    go_wp2_with fail
    refine (FD.out _ (HT.out.below (B1.out.alloc B1.out.size _)) ⟨_, rfl, (O1.out.rd).below ((Below.refl _ _).alloc (Nat.le_refl _) _)⟩).mono ?_
    rintro e w2 ⟨rfl, hb2⟩
    have B2 := Lib.hid (Below.then_ (B1.out.alloc B1.out.size _) hb2 (Nat.le_refl _))
    clear hb2
    go_wp2_with fail
    go_ret
    exact ⟨by rw [hfin.out]; rfl, B2.out⟩
  · have hfin : Hid (T = []) := by show _ = _; rw [HTF.out, if_neg h0]
    have e0 : ((F.2 : Int) != 0) = true := by simp; omega
    have e1 : ((F.2 : Int) == 0) = false := by rw [beq_eq_false_iff_ne]; omega
    clear h0
    go_wp2_with fail
    go_ret
    exact ⟨by rw [hfin.out]; rfl, B1.out.alloc B1.out.size _⟩

end Go.Proofs.YtkjjgpkegihmhaaGreatDoor
