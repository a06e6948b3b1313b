/-
  Marks in the rows of one rule, and the look at them.
-/
import Derived.Test.YtkjjgpkegihmhaaGreatDoorGK
import Derived.Test.YtkjjgpkegihmhaaGreatDoorGE
namespace Go.Proofs.YtkjjgpkegihmhaaGreatDoor
open Go.RowKit
set_option linter.unusedVariables false

/-- The four rows of a rule, marked from k on. -/
structure Marked4 (w : World) (lo nb nn nt nk k : Nat) (vb vn vt vk : Value) : Prop where
  b : w.ownsRow lo 5 1 vb nb (mkByte k nb)
  n : w.ownsRow lo 9 1 vn nn (mkString (k + nb) nn)
  t : w.ownsRow lo 3 1 vt nt (mkInt (k + nb + nn) nt)
  k : w.ownsRow lo 3 1 vk nk (mkInt (k + nb + nn + nt) nk)
theorem Marked4.below {w w' : World} {lo nb nn nt nk k : Nat} {vb vn vt vk : Value} (h : Marked4 w lo nb nn nt nk k vb vn vt vk) (hb : Below w.heap.size w w') : Marked4 w' lo nb nn nt nk k vb vn vt vk := ⟨own_below h.b hb, own_below h.n hb, own_below h.t hb, own_below h.k hb⟩
/-- The blocks of a rule's rows lie below hi. -/
def Under (hi : Nat) (vb vn vt vk : Value) : Prop := ∀ v ∈ [vb, vn, vt, vk], ∀ b, v.ownBlock = some b → b < hi
theorem Rows4.under {w : World} {lo : Nat} {r : RuleD} {vb vn vt vk : Value} (h : Rows4 w lo r vb vn vt vk) : Under w.heap.size vb vn vt vk := by
  intro v hv b hb
  simp only [List.mem_cons, List.not_mem_nil, or_false] at hv
  rcases hv with rfl | rfl | rfl | rfl
  · exact (h.b.lt b hb).2
  · exact (h.n.lt b hb).2
  · exact (h.t.lt b hb).2
  · exact (h.k.lt b hb).2
/-- What is marked lies apart. -/
theorem Rows4.within {w w' : World} {lo hi lo' hi' : Nat} {r : RuleD} {vb vn vt vk : Value} (h : Rows4 w lo' r vb vn vt vk) (hu : Under hi' vb vn vt vk) (hw : Within lo hi w w') (ha : hi ≤ lo' ∨ hi' ≤ lo) : Rows4 w' lo' r vb vn vt vk := by
  have far : ∀ {e : TypeId} {n : Nat} {v : Value} {xs : List Value}, w.ownsRow lo' e 1 v n xs → v ∈ [vb, vn, vt, vk] → ∀ b, v.ownBlock = some b → b < lo ∨ hi ≤ b := by
    intro e n v xs ho hv b hb
    have h1 := (ho.lt b hb).1
    have h2 := hu v hv b hb
    omega
  exact ⟨own_within h.b hw (far h.b (by simp)), own_within h.n hw (far h.n (by simp)), own_within h.t hw (far h.t (by simp)), own_within h.k hw (far h.k (by simp)), h.tk⟩

set_option maxRecDepth 100000 in
set_option maxHeartbeats 4000000 in
theorem l_markRule (r : RuleD) (vb vn vt vk : Value) (lo hi k : Nat) (hk : k + r.bytes.length + r.names.length + r.tags.length + r.kids.length ≤ 1099511627776) (w : World) (h : Rows4 w lo r vb vn vt vk) (hu : Under hi vb vn vt vk) :
    Calls Tryz.prog 15 #[.agg (rCells r vb vn vt vk), .int .i64 (k : Int)] w
      fun e w' => e = .returned (.int .i64 ((k + r.bytes.length + r.names.length + r.tags.length + r.kids.length : Nat) : Int)) ∧ Marked4 w' lo r.bytes.length r.names.length r.tags.length r.kids.length k vb vn vt vk ∧ Within lo hi w w' := by
  obtain ⟨Ab, cb, An, cn, At, ct, Ak, ck, rfl, rfl, rfl, rfl⟩ := (show ∃ Ab cb An cn At ct Ak ck, vb = .slice Ab r.bytes.length cb ∧ vn = .slice An r.names.length cn ∧ vt = .slice At r.tags.length ct ∧ vk = .slice Ak r.kids.length ck from by
    obtain ⟨_, Ab, cb, e1, _, _, _⟩ := Rd.of_own h.b
    obtain ⟨_, An, cn, e2, _, _, _⟩ := Rd.of_own h.n
    obtain ⟨_, At, ct, e3, _, _, _⟩ := Rd.of_own h.t
    obtain ⟨_, Ak, ck, e4, _, _, _⟩ := Rd.of_own h.k
    exact ⟨Ab, cb, An, cn, At, ct, Ak, ck, e1, e2, e3, e4⟩)
  unfold rCells
  have tk := h.tk
  have kt : (Value.slice Ak r.kids.length ck).ownBlock = none ∨ (Value.slice Ak r.kids.length ck).ownBlock ≠ (Value.slice At r.tags.length ct).ownBlock := by
    rcases tk with e | e
    · rw [e]
      cases hv : (Value.slice Ak r.kids.length ck).ownBlock with
      | none => exact .inl rfl
      | some g => exact .inr (by simp)
    · exact .inr (Ne.symm e)
  obtain ⟨w0, hw0⟩ : ∃ w0, w0 = w.alloc (.cells #[.string r.name, .int .i64 r.kind, .int .i64 r.size, .bool r.little, .slice Ab r.bytes.length cb, .slice An r.names.length cn, .slice At r.tags.length ct, .slice Ak r.kids.length ck] 30) := ⟨_, rfl⟩
  have b0 : Below w.heap.size w w0 := by rw [hw0]; exact (Below.refl _ _).alloc (Nat.le_refl _) _
  have X0 := Lib.hid (show Box w0 w.heap.size 30 #[.string r.name, .int .i64 r.kind, .int .i64 r.size, .bool r.little, .slice Ab r.bytes.length cb, .slice An r.names.length cn, .slice At r.tags.length ct, .slice Ak r.kids.length ck] by rw [hw0]; exact Box.new _ _ _)
  have H0 := Lib.hid (h.below b0)
  have I0 := Lib.hid (show Within lo hi w w0 from Within.of_below b0)
  have UB := Lib.hid (hu (.slice Ab r.bytes.length cb) (by simp))
  have UN := Lib.hid (hu (.slice An r.names.length cn) (by simp))
  have UT := Lib.hid (hu (.slice At r.tags.length ct) (by simp))
  have UK := Lib.hid (hu (.slice Ak r.kids.length ck) (by simp))
  obtain ⟨nb, hnb⟩ : ∃ nb, nb = r.bytes.length := ⟨_, rfl⟩
  obtain ⟨nn, hnn⟩ : ∃ nn, nn = r.names.length := ⟨_, rfl⟩
  obtain ⟨nt, hnt⟩ : ∃ nt, nt = r.tags.length := ⟨_, rfl⟩
  obtain ⟨nk, hnk⟩ : ∃ nk, nk = r.kids.length := ⟨_, rfl⟩
  obtain ⟨hb0, hn0, ht0, hk0, _⟩ := H0.out
  rw [← hnb] at hb0 hk X0 UB ⊢
  rw [← hnn] at hn0 hk X0 UN ⊢
  rw [← hnt] at ht0 hk X0 UT tk kt ⊢
  rw [← hnk] at hk0 hk X0 UK tk kt ⊢
  have W0 := Lib.hid hw0
  rw [← hnb, ← hnn, ← hnt, ← hnk] at hw0
  have W0' := Lib.hid hw0
  have m1 := fun w h => l_markByteS (.slice Ab nb cb) lo k nb (cB r.bytes) (by omega) w h
  have m2 := fun w h => l_markStringS (.slice An nn cn) lo (k + nb) nn (cS r.names) (by omega) w h
  have m3 := fun w h => l_markIntS (.slice At nt ct) lo (k + nb + nn) nt (cI r.tags) (by omega) w h
  have m4 := fun w h => l_markIntS (.slice Ak nk ck) lo (k + nb + nn + nt) nk (cI r.kids) (by omega) w h
  simp only [Int.natCast_add] at m2 m3 m4 ⊢
  have M1 := Lib.hid m1
  have M2 := Lib.hid m2
  have M3 := Lib.hid m3
  have M4 := Lib.hid m4
  have HB0 := Lib.hid hb0
  have HN0 := Lib.hid hn0
  have HT0 := Lib.hid ht0
  have HK0 := Lib.hid hk0
  have TK := Lib.hid tk
  have KT := Lib.hid kt
  clear h hu hw0 b0 hb0 hn0 ht0 hk0 hnb hnn hnt hnk m1 m2 m3 m4 tk kt
  go_enter Tryz.func15, Tryz.ntmps15
  go_wp2_with fail
  rw [← W0'.out]
  refine (M1.out _ HB0.out).mono ?_
  rintro e w1 ⟨rfl, hm1, hg1⟩
  have N1 := Lib.hid (HN0.out.kept hg1 (own_ne_type HN0.out HB0.out (by decide)))
  have T1 := Lib.hid (HT0.out.kept hg1 (own_ne_type HT0.out HB0.out (by decide)))
  have K1 := Lib.hid (HK0.out.kept hg1 (own_ne_type HK0.out HB0.out (by decide)))
  have X1 := Lib.hid (X0.out.grown hg1 (fun e => own_type HB0.out X0.out (by decide) e.symm))
  have A1 := Lib.hid hm1
  have I1 := Lib.hid (I0.out.trans (Within.of_grown hg1 (fun b hb => ⟨(HB0.out.lt b hb).1, UB.out b hb⟩)))
  have x1 : w1.cell? ⟨w.heap.size, 5, none⟩ = some (.slice An nn cn) := X1.out.cell 5
  clear hm1 hg1
  go_wp2_with fail
  refine (M2.out _ N1.out).mono ?_
  rintro e w2 ⟨rfl, hm2, hg2⟩
  have B2 := Lib.hid (A1.out.kept hg2 (own_ne_type A1.out N1.out (by decide)))
  have T2 := Lib.hid (T1.out.kept hg2 (own_ne_type T1.out N1.out (by decide)))
  have K2 := Lib.hid (K1.out.kept hg2 (own_ne_type K1.out N1.out (by decide)))
  have X2 := Lib.hid (X1.out.grown hg2 (fun e => own_type N1.out X1.out (by decide) e.symm))
  have A2 := Lib.hid hm2
  have I2 := Lib.hid (I1.out.trans (Within.of_grown hg2 (fun b hb => ⟨(N1.out.lt b hb).1, UN.out b hb⟩)))
  have x2 : w2.cell? ⟨w.heap.size, 6, none⟩ = some (.slice At nt ct) := X2.out.cell 6
  clear hm2 hg2 x1
  go_wp2_with fail
  refine (M3.out _ T2.out).mono ?_
  rintro e w3 ⟨rfl, hm3, hg3⟩
  have B3 := Lib.hid (B2.out.kept hg3 (own_ne_type B2.out T2.out (by decide)))
  have N3 := Lib.hid (A2.out.kept hg3 (own_ne_type A2.out T2.out (by decide)))
  have K3 := Lib.hid (K2.out.kept hg3 KT.out)
  have X3 := Lib.hid (X2.out.grown hg3 (fun e => own_type T2.out X2.out (by decide) e.symm))
  have A3 := Lib.hid hm3
  have I3 := Lib.hid (I2.out.trans (Within.of_grown hg3 (fun b hb => ⟨(T2.out.lt b hb).1, UT.out b hb⟩)))
  have x3 : w3.cell? ⟨w.heap.size, 7, none⟩ = some (.slice Ak nk ck) := X3.out.cell 7
  clear hm3 hg3 x2
  go_wp2_with fail
  refine (M4.out _ K3.out).mono ?_
  rintro e w4 ⟨rfl, hm4, hg4⟩
  have B4 := Lib.hid (B3.out.kept hg4 (own_ne_type B3.out K3.out (by decide)))
  have N4 := Lib.hid (N3.out.kept hg4 (own_ne_type N3.out K3.out (by decide)))
  have T4 := Lib.hid (A3.out.kept hg4 TK.out)
  have A4 := Lib.hid hm4
  have I4 := Lib.hid (I3.out.trans (Within.of_grown hg4 (fun b hb => ⟨(K3.out.lt b hb).1, UK.out b hb⟩)))
  clear hm4 hg4 x3
  go_wp2_with fail
  go_ret
  exact ⟨rfl, ⟨B4.out, N4.out, T4.out, A4.out⟩, I4.out⟩

set_option maxRecDepth 100000 in
set_option maxHeartbeats 4000000 in
theorem l_heldRule (r : RuleD) (vb vn vt vk : Value) (lo k : Nat) (hk : k + r.bytes.length + r.names.length + r.tags.length + r.kids.length ≤ 1099511627776) (w : World) (h : Marked4 w lo r.bytes.length r.names.length r.tags.length r.kids.length k vb vn vt vk) :
    Calls Tryz.prog 16 #[.agg (rCells r vb vn vt vk), .int .i64 (k : Int)] w
      fun e w' => e = .returned (.int .i64 ((k + r.bytes.length + r.names.length + r.tags.length + r.kids.length : Nat) : Int)) ∧ Below w.heap.size w w' := by
  obtain ⟨Ab, cb, An, cn, At, ct, Ak, ck, rfl, rfl, rfl, rfl⟩ := (show ∃ Ab cb An cn At ct Ak ck, vb = .slice Ab r.bytes.length cb ∧ vn = .slice An r.names.length cn ∧ vt = .slice At r.tags.length ct ∧ vk = .slice Ak r.kids.length ck from by
    obtain ⟨_, Ab, cb, e1, _, _, _⟩ := Rd.of_own h.b
    obtain ⟨_, An, cn, e2, _, _, _⟩ := Rd.of_own h.n
    obtain ⟨_, At, ct, e3, _, _, _⟩ := Rd.of_own h.t
    obtain ⟨_, Ak, ck, e4, _, _, _⟩ := Rd.of_own h.k
    exact ⟨Ab, cb, An, cn, At, ct, Ak, ck, e1, e2, e3, e4⟩)
  unfold rCells
  obtain ⟨w0, hw0⟩ : ∃ w0, w0 = w.alloc (.cells #[.string r.name, .int .i64 r.kind, .int .i64 r.size, .bool r.little, .slice Ab r.bytes.length cb, .slice An r.names.length cn, .slice At r.tags.length ct, .slice Ak r.kids.length ck] 30) := ⟨_, rfl⟩
  have b0 : Below w.heap.size w w0 := by rw [hw0]; exact (Below.refl _ _).alloc (Nat.le_refl _) _
  have X0 := Lib.hid (show Box w0 w.heap.size 30 #[.string r.name, .int .i64 r.kind, .int .i64 r.size, .bool r.little, .slice Ab r.bytes.length cb, .slice An r.names.length cn, .slice At r.tags.length ct, .slice Ak r.kids.length ck] by rw [hw0]; exact Box.new _ _ _)
  have H0 := Lib.hid (h.below b0)
  have B0 := Lib.hid b0
  obtain ⟨nb, hnb⟩ : ∃ nb, nb = r.bytes.length := ⟨_, rfl⟩
  obtain ⟨nn, hnn⟩ : ∃ nn, nn = r.names.length := ⟨_, rfl⟩
  obtain ⟨nt, hnt⟩ : ∃ nt, nt = r.tags.length := ⟨_, rfl⟩
  obtain ⟨nk, hnk⟩ : ∃ nk, nk = r.kids.length := ⟨_, rfl⟩
  rw [← hnb, ← hnn, ← hnt, ← hnk] at hk X0 H0 hw0 ⊢
  have W0' := Lib.hid hw0
  have m1 := fun w h => l_heldByteS (.slice Ab nb cb) k nb (by omega) w h
  have m2 := fun w h => l_heldStringS (.slice An nn cn) (k + nb) nn (by omega) w h
  have m3 := fun w h => l_heldIntS (.slice At nt ct) (k + nb + nn) nt (by omega) w h
  have m4 := fun w h => l_heldIntS (.slice Ak nk ck) (k + nb + nn + nt) nk (by omega) w h
  simp only [Int.natCast_add] at m2 m3 m4 ⊢
  have M1 := Lib.hid m1
  have M2 := Lib.hid m2
  have M3 := Lib.hid m3
  have M4 := Lib.hid m4
  have g1 : (0 : Int) ≤ (k : Int) + (nb : Int) := by omega
  have g2 : (0 : Int) ≤ (k : Int) + (nb : Int) + (nn : Int) := by omega
  have g3 : (0 : Int) ≤ (k : Int) + (nb : Int) + (nn : Int) + (nt : Int) := by omega
  have g4 : (0 : Int) ≤ (k : Int) + (nb : Int) + (nn : Int) + (nt : Int) + (nk : Int) := by omega
  have d1 : decide ((k : Int) + (nb : Int) < 0) = false := by simp; omega
  have d2 : decide ((k : Int) + (nb : Int) + (nn : Int) < 0) = false := by simp; omega
  have d3 : decide ((k : Int) + (nb : Int) + (nn : Int) + (nt : Int) < 0) = false := by simp; omega
  have d4 : decide ((k : Int) + (nb : Int) + (nn : Int) + (nt : Int) + (nk : Int) < 0) = false := by simp; omega
  clear h hw0 b0 hnb hnn hnt hnk m1 m2 m3 m4
  go_enter Tryz.func16, Tryz.ntmps16
  go_wp2_with fail
  rw [← W0'.out]
  have x0 : w0.cell? ⟨w.heap.size, 5, none⟩ = some (.slice An nn cn) := X0.out.cell 5
  refine (M1.out _ (Rd.of_own H0.out.b)).mono ?_
  rintro e w1 ⟨rfl, hww⟩
  subst hww
  go_wp2_with fail
  refine (M2.out _ (Rd.of_own H0.out.n)).mono ?_
  rintro e w2 ⟨rfl, hb2⟩
  have H2 := Lib.hid (H0.out.below hb2)
  have X2 := Lib.hid (X0.out.below hb2)
  have B2 := Lib.hid (Below.then_ B0.out hb2 (Nat.le_refl _))
  have x2 : w2.cell? ⟨w.heap.size, 6, none⟩ = some (.slice At nt ct) := X2.out.cell 6
  have x3 : w2.cell? ⟨w.heap.size, 7, none⟩ = some (.slice Ak nk ck) := X2.out.cell 7
  clear hb2 x0
  go_wp2_with fail
  refine (M3.out _ (Rd.of_own H2.out.t)).mono ?_
  rintro e w3 ⟨rfl, hww⟩
  subst hww
  go_wp2_with fail
  refine (M4.out _ (Rd.of_own H2.out.k)).mono ?_
  rintro e w4 ⟨rfl, hww⟩
  subst hww
  go_wp2_with fail
  go_ret
  exact ⟨rfl, B2.out⟩

end Go.Proofs.YtkjjgpkegihmhaaGreatDoor
