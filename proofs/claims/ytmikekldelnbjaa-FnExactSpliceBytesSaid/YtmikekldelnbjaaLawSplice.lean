/-
  The law of SpliceBytes, from the contracts.
-/
import Derived.Test.YtmikekldelnbjaaSpliceS
import Derived.Test.YtmikekldelnbjaaEqByte
import Derived.Test.YtmikekldelnbjaaMarkByte
namespace Go.Proofs.Ytmikekldelnbjaa
open Go.RowKit
set_option linter.unusedVariables false

/-- A row from B on is kept while a row below B is written. -/
theorem own_over {w w' : World} {base B : Nat} {e : TypeId} {size n : Nat} {v : Value} {xs : List Value} {row : Option Nat} (h : w.ownsRow base e size v n xs) (hg : w.grownBy w' row)
    (hge : ∀ k, v.ownBlock = some k → B ≤ k) (hlt : ∀ k, row = some k → k < B) : w'.ownsRow base e size v n xs := by
  refine h.kept hg ?_
  cases hv : v.ownBlock with
  | none => exact .inl rfl
  | some k =>
    right
    intro e'
    have h1 := hge k hv
    have h2 := hlt k e'.symm
    omega

theorem splice_len (l ins : List UInt8) (a r : Int) (hn : l.length ≤ 1048576) (hm : ins.length ≤ 1048576) : (spliceL l a r ins).length ≤ 2097152 := by
  unfold spliceL
  split
  · simp; omega
  · omega

set_option maxHeartbeats 4000000 in
theorem law_FnExactSpliceBytes (v : Value) (l : List UInt8) (a r : Int) (u : Value) (m : List UInt8) (w : World) (hr : Rd w v 1 l.length (cB l)) (ha : (Lit.int .i64 a).wf = true) (hre : (Lit.int .i64 r).wf = true) (hq : Rd w u 1 m.length (cB m)) :
    Calls Try.prog 7 #[v, .int .i64 a, .int .i64 r, u] w fun e w' => e = .returned (.bool true) ∧ Below w.heap.size w w' := by
  have ha' := wf_int ha
  have hr' := wf_int hre
  clear ha hre
  obtain ⟨A, c, rfl⟩ : ∃ A c, v = .slice A l.length c := by
    obtain ⟨_, A, c, rfl, _⟩ := hr
    exact ⟨A, c, rfl⟩
  obtain ⟨A', c', rfl⟩ : ∃ A c, u = .slice A m.length c := by
    obtain ⟨_, A, c, rfl, _⟩ := hq
    exact ⟨A, c, rfl⟩
  by_cases hb : (1048576 : Int) < (l.length : Int)
  · clear hr hq
    go_enter Try.func7, Try.ntmps7
    go_wp2_with fail
    go_ret
    exact ⟨rfl, Below.refl _ _⟩
  · by_cases hb' : (1048576 : Int) < (m.length : Int)
    · clear hr hq
      go_enter Try.func7, Try.ntmps7
      go_wp2_with fail
      go_ret
      exact ⟨rfl, Below.refl _ _⟩
    · have hn : l.length ≤ 1048576 := by omega
      have hm : m.length ≤ 1048576 := by omega
      have hsl := splice_len l m a r hn hm
      obtain ⟨P, hP⟩ : ∃ P, spliceL l a r m = P := ⟨_, rfl⟩
      obtain ⟨ok, hok⟩ : ∃ ok, spliceOk l a r = ok := ⟨_, rfl⟩
      rw [hP] at hsl
      have S := fun (v u : Value) (w : World) (hv : Rd w v 1 l.length (cB l)) (hu : Rd w u 1 m.length (cB m)) => s_SpliceBytes v u l m a r ha' hr' (by omega) (by omega) w hv hu
      have I := fun (v u : Value) (w : World) (hv : Rd w v 1 l.length (cB l)) (hu : Rd w u 1 m.length (cB m)) => i_SpliceBytes v u l m a r ha' hr' (by omega) (by omega) w hv hu
      rw [hP, hok] at S I
      clear hP hok ha' hr'
      go_enter Try.func7, Try.ntmps7
      go_wp2_with fail
      refine (l_toByteS _ l hn _ hr).mono ?_
      rintro e w1 ⟨v1, rfl, ho1, hb1⟩
      go_wp2_with fail
      refine (l_toByteS _ m hm _ (hq.below hb1)).mono ?_
      rintro e w2 ⟨u1, rfl, hp1, hb12⟩
      have hb2 := Below.then_ hb1 hb12 (Nat.le_refl _)
      go_wp2_with fail
      refine (S v1 u1 _ ((Rd.of_own ho1).below hb12) (Rd.of_own hp1)).mono ?_
      rintro e w3 ⟨v0, rfl, hw0, hb23⟩
      have hb3 := Below.then_ hb2 hb23 (Nat.le_refl _)
      have hL0 : ∀ k, v0.ownBlock = some k → k < w3.heap.size := fun k hk => (hw0.lt k hk).2
      go_wp2_with fail
      refine (l_toByteS _ l hn _ (hr.below hb3)).mono ?_
      rintro e w4 ⟨x0, rfl, hx0, hb34⟩
      have hb4 := Below.then_ hb3 hb34 (Nat.le_refl _)
      have hx0g : ∀ k, x0.ownBlock = some k → w3.heap.size ≤ k := fun k hk => (hx0.lt k hk).1
      have hx0l : ∀ k, x0.ownBlock = some k → k < w4.heap.size := fun k hk => (hx0.lt k hk).2
      have hw0_4 := own_below hw0 hb34
      go_wp2_with fail
      refine (l_toByteS _ m hm _ (hq.below hb4)).mono ?_
      rintro e w5 ⟨x3, rfl, hx3, hb45⟩
      have hb5 := Below.then_ hb4 hb45 (Nat.le_refl _)
      have hx3g : ∀ k, x3.ownBlock = some k → w4.heap.size ≤ k := fun k hk => (hx3.lt k hk).1
      have hx3l : ∀ k, x3.ownBlock = some k → k < w5.heap.size := fun k hk => (hx3.lt k hk).2
      have hw0_5 := own_below hw0_4 hb45
      have hx0_5 := own_below hx0 hb45
      go_wp2_with fail
      refine (I x0 x3 _ (Rd.of_own hx0_5) (Rd.of_own hx3)).mono ?_
      rintro e w6 ⟨g0, rfl, hg0, hb56⟩
      have hb6 := Below.then_ hb5 hb56 (Nat.le_refl _)
      have hg0g : ∀ k, g0.ownBlock = some k → w5.heap.size ≤ k := fun k hk => (hg0.lt k hk).1
      have hw0_6 := own_below hw0_5 hb56
      have hx0_6 := own_below hx0_5 hb56
      have hx3_6 := own_below hx3 hb56
      go_wp2_with fail
      refine (l_eqByteS g0 v0 P P _ (Rd.of_own hg0) (Rd.of_own hw0_6)).mono ?_
      rintro e w7 ⟨rfl, hb67⟩
      have hb7 := Below.then_ hb6 hb67 (Nat.le_refl _)
      have hg0_7 := own_below hg0 hb67
      have hw0_7 := own_below hw0_6 hb67
      have hx0_7 := own_below hx0_6 hb67
      have hx3_7 := own_below hx3_6 hb67
      go_wp2_with fail
      refine (l_toByteS _ l hn _ (hr.below hb7)).mono ?_
      rintro e w8 ⟨t0, rfl, ht0, hb78⟩
      have hb8 := Below.then_ hb7 hb78 (Nat.le_refl _)
      have hg0_8 := own_below hg0_7 hb78
      have hw0_8 := own_below hw0_7 hb78
      have hx0_8 := own_below hx0_7 hb78
      have hx3_8 := own_below hx3_7 hb78
      go_wp2_with fail
      refine (l_eqByteS x0 t0 l l _ (Rd.of_own hx0_8) (Rd.of_own ht0)).mono ?_
      rintro e w9 ⟨rfl, hb89⟩
      have hb9 := Below.then_ hb8 hb89 (Nat.le_refl _)
      have hg0_9 := own_below hg0_8 hb89
      have hw0_9 := own_below hw0_8 hb89
      have hx0_9 := own_below hx0_8 hb89
      have hx3_9 := own_below hx3_8 hb89
      go_wp2_with fail
      refine (l_toByteS _ m hm _ (hq.below hb9)).mono ?_
      rintro e w10 ⟨t3, rfl, ht3, hb9a⟩
      have hb10 := Below.then_ hb9 hb9a (Nat.le_refl _)
      have hg0_10 := own_below hg0_9 hb9a
      have hw0_10 := own_below hw0_9 hb9a
      have hx0_10 := own_below hx0_9 hb9a
      have hx3_10 := own_below hx3_9 hb9a
      go_wp2_with fail
      refine (l_eqByteS x3 t3 m m _ (Rd.of_own hx3_10) (Rd.of_own ht3)).mono ?_
      rintro e w11 ⟨rfl, hbab⟩
      have hb11 := Below.then_ hb10 hbab (Nat.le_refl _)
      have hg0_11 := own_below hg0_10 hbab
      have hw0_11 := own_below hw0_10 hbab
      have hx0_11 := own_below hx0_10 hbab
      have hx3_11 := own_below hx3_10 hbab
      go_wp2_with fail
      refine (l_markByteS x0 _ 1 _ _ (by omega) _ hx0_11).mono ?_
      rintro e w12 ⟨rfl, hm0, hk0⟩
      have hb12' := own_grown_below hb11 hx0_11 hk0 hb11.size hb3.size
      have hg0_12 := own_over hg0_11 hk0 hg0g (fun k hk => Nat.lt_of_lt_of_le (hx0l k hk) hb45.size)
      have hw0_12 := own_apart hw0_11 hk0 hL0 hx0g
      have hx3_12 := own_over hx3_11 hk0 hx3g hx0l
      go_wp2_with fail
      refine (l_markByteS x3 _ (1 + l.length) _ _ (by omega) _ hx3_12).mono ?_
      rintro e w13 ⟨rfl, hm3, hk3⟩
      have hb13 := own_grown_below hb12' hx3_12 hk3 hb12'.size hb4.size
      have hg0_13 := own_over hg0_12 hk3 hg0g hx3l
      have hw0_13 := own_apart hw0_12 hk3 hL0 (fun k hk => Nat.le_trans hb34.size (hx3g k hk))
      go_wp2_with fail
      refine (l_eqByteS g0 v0 P P _ (Rd.of_own hg0_13) (Rd.of_own hw0_13)).mono ?_
      rintro e w14 ⟨rfl, hbde⟩
      have hb14 := Below.then_ hb13 hbde (Nat.le_refl _)
      have hg0_14 := own_below hg0_13 hbde
      have hw0_14 := own_below hw0_13 hbde
      go_wp2_with fail
      refine (l_markByteS g0 _ 1 _ _ (by omega) _ hg0_14).mono ?_
      rintro e w15 ⟨rfl, hmg, hkg⟩
      have hb15 := own_grown_below hb14 hg0_14 hkg hb14.size hb5.size
      have hw0_15 := own_apart hw0_14 hkg hL0 (fun k hk => Nat.le_trans hb34.size (Nat.le_trans hb45.size (hg0g k hk)))
      go_wp2_with fail
      refine (l_heldByteS g0 1 _ (by omega) _ (Rd.of_own hmg)).mono ?_
      rintro e w16 ⟨rfl, rfl⟩
      go_wp2_with fail
      refine (l_toByteS _ l hn _ (hr.below hb15)).mono ?_
      rintro e w16 ⟨y0, rfl, hy0, hbfg⟩
      have hb16 := Below.then_ hb15 hbfg (Nat.le_refl _)
      have hmg_16 := own_below hmg hbfg
      have hw0_16 := own_below hw0_15 hbfg
      go_wp2_with fail
      refine (l_toByteS _ m hm _ (hq.below hb16)).mono ?_
      rintro e w17 ⟨y3, rfl, hy3, hbgh⟩
      have hb17 := Below.then_ hb16 hbgh (Nat.le_refl _)
      have hmg_17 := own_below hmg_16 hbgh
      have hw0_17 := own_below hw0_16 hbgh
      go_wp2_with fail
      refine (I y0 y3 _ (Rd.of_own (own_below hy0 hbgh)) (Rd.of_own hy3)).mono ?_
      rintro e w18 ⟨h0, rfl, hh0, hbhi⟩
      have hb18 := Below.then_ hb17 hbhi (Nat.le_refl _)
      have hmg_18 := own_below hmg_17 hbhi
      have hw0_18 := own_below hw0_17 hbhi
      go_wp2_with fail
      refine (l_eqByteS h0 v0 P P _ (Rd.of_own hh0) (Rd.of_own hw0_18)).mono ?_
      rintro e w19 ⟨rfl, hbij⟩
      have hb19 := Below.then_ hb18 hbij (Nat.le_refl _)
      have hmg_19 := own_below hmg_18 hbij
      go_wp2_with fail
      refine (l_heldByteS g0 1 _ (by omega) _ (Rd.of_own hmg_19)).mono ?_
      rintro e w20 ⟨rfl, rfl⟩
      go_wp2_with fail
      go_ret
      exact ⟨rfl, hb19⟩

end Go.Proofs.Ytmikekldelnbjaa
