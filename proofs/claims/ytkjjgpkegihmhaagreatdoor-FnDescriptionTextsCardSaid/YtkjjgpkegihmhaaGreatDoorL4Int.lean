/-
  l4Integer of the draws: the number of an integer rule.
-/
import Derived.Test.YtkjjgpkegihmhaaGreatDoorDrawR
namespace Go.Proofs.YtkjjgpkegihmhaaGreatDoor
open Go.RowKit
set_option linter.unusedVariables false

def DrewK (l : List RuleD) (g : Nat) (w : World) (e : Ending) (w' : World) : Prop := Draws (IntAt l) g w e w'

set_option maxRecDepth 100000 in
set_option maxHeartbeats 4000000 in
theorem s_l4Integer (g : Nat) (v : Value) (l : List RuleD) (h1 : 0 < l.length) (h10 : l.length ≤ 250) (hf : (ruleAt l 0).kind = 1) (w : World) (hc : Cur w g) (hd : RdRules w v l) :
    Calls Tryz.prog 126 #[.pointer (some ⟨g, 0, none⟩), .agg #[v]] w (DrewK l g w) := by
  have hglt := hc.lt
  obtain ⟨A, c, rfl, hnc, hcm, hcell⟩ := hd.all
  unfold maxLen at hcm
  have HC := Lib.hid hcell
  have HCU := Lib.hid hc
  have HF := Lib.hid hf
  obtain ⟨n, hn⟩ : ∃ n, n = l.length := ⟨_, rfl⟩
  have HN := Lib.hid hn
  rw [← hn] at hnc h1 h10 ⊢
  obtain ⟨w0, hw0⟩ : ∃ w0, w0 = w.alloc (.cells #[.slice A n c] 35) := ⟨_, rfl⟩
  have x0 : Box w0 w.heap.size 35 #[.slice A n c] := by rw [hw0]; exact Box.new w _ _
  have b0 : Below w.heap.size w w0 := by rw [hw0]; exact below_box
  have own0 := World.ownsRow_lit (base := w.heap.size) (e := 3) (size := 1) w0 #[] 0 b0.size (Nat.zero_le _) rfl
  have X0 := Lib.hid ((x0.alloc (.cells #[] 3)))
  have B0 := Lib.hid (b0.alloc b0.size (.cells #[] 3))
  rw [show w0.heap.size = w.heap.size + 1 from by rw [hw0]; simp] at own0
  have O0 := Lib.hid own0
  have W0 := Lib.hid hw0
  obtain ⟨i0, hif, hz0, hz1, hz2⟩ := info_parts info_Int
  clear hcell hd hc x0 b0 own0 hw0 hn hf
  go_enter Tryz.func126, Tryz.ntmps126
  go_wp2_with fail
  rw [← W0.out]
  go_loopw [5, 6] (fun o i wr => ∃ (q : Nat) (ks : List Int), q ≤ n ∧ i = .int .i64 q ∧ ks.length ≤ q ∧ (∀ k ∈ ks, IntAt l k) ∧ (0 < q → 0 < ks.length) ∧ wr.ownsRow w.heap.size 3 1 o ks.length (cI ks) ∧ Box wr w.heap.size 35 #[.slice A n c] ∧ Below w.heap.size w wr) (fun _ i _ => n - (intOf i).toNat)
  case atStart => exact ⟨0, [], Nat.zero_le _, rfl, by simp, by simp, by simp, by simpa [cI] using O0.out, X0.out, B0.out⟩
  case round =>
    obtain ⟨q, ks, hq, rfl, hks, hall, hpos, hown, hbx, hbr⟩ := hrel
    have x1 : wr.cell? ⟨w.heap.size, 0, none⟩ = some (.slice A n c) := hbx.cell 0
    have HA := Lib.hid hall
    have HO := Lib.hid hown
    have X1 := Lib.hid hbx
    have B1 := Lib.hid hbr
    have HP := Lib.hid hpos
    obtain ⟨m, hm⟩ : ∃ m, m = ks.length := ⟨_, rfl⟩
    rw [← hm] at HO hks HP
    have HM := Lib.hid hm
    clear hall hown hbx hbr hpos hm
    by_cases hlt : q < n
    · have hkl : q < l.length := by rw [← HN.out]; exact hlt
      obtain ⟨b, off, rfl, hcs⟩ := HC.out (by omega)
      obtain ⟨vb, vn, vt, vk, hr⟩ := hcs q hkl
      obtain ⟨r, hr0⟩ : ∃ r, r = l[q] := ⟨_, rfl⟩
      rw [← hr0] at hr
      have hrr := hr.below B1.out
      obtain ⟨D0, D1, D2, D3, D4, D5, D6, D7⟩ := hrr.eight
      have hkn : (q : Int) < (n : Int) := by omega
      have hk0 : (0 : Int) ≤ (q : Int) := by omega
      have HR := Lib.hid (show ruleAt l (q : Int) = r by rw [ruleAt_eq hkl, hr0])
      clear hcs hr hrr hr0 D0 D2 D3 D4 D5 D6 D7
      by_cases hk1 : r.kind = 1
      · have e1 : (r.kind == 1) = true := by simpa using hk1
        have HI := Lib.hid (show IntAt l (q : Int) from ⟨hk0, by omega, by rw [HR.out]; exact hk1⟩)
        clear hk1
        go_wp2_with (at_builtin; refine wpList_append_rd _ rfl (.tmp 22) (.tmp 24) 28 rfl w.heap.size 3 i0 (.int .i64 0) 1 8 Tryz.underlying28 hif hz0 hz1 hz2 rfl (by decide) _ m (cI ks) rfl (HO.out.alloc _) _ 1 (cI [(q : Int)]) rfl ?c1 (cI_one _) (by unfold maxLen; omega) (by omega) (by have := B1.out.size; simp; omega) ?_)
        case c1 => exact Rd.lit _ (cI [(q : Int)]) 3 1 rfl (by unfold maxLen; omega)
        intro v' w6 hown' hgrow' hpos'
        have X6 := Lib.hid (Box.grown_own (X1.out.alloc (.cells #[.int .i64 (q : Int)] 3)) (HO.out.alloc _) (by decide) hgrow')
        have B6 := Lib.hid (own_grown_below (B1.out.alloc B1.out.size (.cells #[.int .i64 (q : Int)] 3)) (HO.out.alloc _) hgrow' (by have := B1.out.size; simp; omega) (Nat.le_refl _))
        have O6 := Lib.hid hown'
        clear hown' hgrow' hpos' x1
        go_wp2_with fail
        go_roundw
        case rel =>
          refine ⟨q + 1, ks ++ [(q : Int)], by omega, by go_num, by simp; rw [← HM.out]; omega, ?_, by simp, ?_, X6.out, B6.out⟩
          · intro k hk
            rcases List.mem_append.1 hk with hk | hk
            · exact HA.out k hk
            · have : k = (q : Int) := by simpa using hk
              rw [this]; exact HI.out
          · have h := O6.out
            rw [← cI_append] at h
            simpa [HM.out] using h
        case measure => simp [intOf]; omega
      · have e1 : (r.kind == 1) = false := by simpa using hk1
        have hq0 : Hid (0 < q) := by
          show 0 < q
          rcases Nat.eq_zero_or_pos q with h | h
          · subst h
            exact absurd (by have h := HF.out; rw [show (0 : Int) = ((0 : Nat) : Int) from rfl, HR.out] at h; exact h) hk1
          · exact h
        clear hk1
        go_wp2_with fail
        go_roundw
        case rel => exact ⟨q + 1, ks, by omega, by go_num, by rw [← HM.out]; omega, HA.out, fun _ => by rw [← HM.out]; exact HP.out hq0.out, by rw [← HM.out]; exact HO.out, X1.out, B1.out⟩
        case measure => simp [intOf]; omega
    · obtain rfl : q = n := by omega
      have hmp : 0 < m := HP.out h1
      have hc1 := HCU.out.below ((Below.refl w.heap.size w))
      have hcr := Cur.grown HCU.out (grown_of_below B1.out : w.grownBy wr none) (by simp) (by simp)
      clear hc1
      go_wp2_with fail
      refine (s_l1Int g _ ks (by rw [← HM.out]; exact hmp) (by rw [← HM.out]; omega) _ hcr (by have h := Rd.of_own HO.out; rw [HM.out] at h; exact h) (fun e => by have := (HO.out.lt g e).1; omega)).mono ?_
      rintro e w2 ⟨y, rfl, hy, hc2, hg2⟩
      have HY := Lib.hid (HA.out y hy)
      clear hy
      go_wp2_with fail
      go_ret
      exact ⟨y, rfl, HY.out, hc2, grown_trans (grown_of_below B1.out) hg2⟩

end Go.Proofs.YtkjjgpkegihmhaaGreatDoor
