/-
  ParseKid, of the program (by indexFunc and a closure) and of the reference.
-/
import Derived.Test.YtcegbilfcblhfaaDescRead
import Derived.Test.YtcegbilfcblhfaaMaxs
namespace Go.Proofs.Ytcegbilfcblhfaa
open Go.RowKit

theorem results_two {fn : Func} {t u : Tmp} (h : fn.results = #[.tmp t, .tmp u]) (tmps : Array Value) (P : Program) (w : World) :
    (results fn tmps).run P w = .ok (.tuple #[tmps.getD t undef, tmps.getD u undef]) w := by
  simp [results, h]
theorem ret_two {a b : Int} {x y : Bool} (h : a = b) (h' : x = y) : Ending.returned (.tuple #[.int .i64 a, .bool x]) = .returned (.tuple #[.int .i64 b, .bool y]) := by rw [h, h']

set_option maxHeartbeats 2000000 in
theorem s_ParseKid (d : Value) (l : List RuleD) (s : ByteArray) (w : World) (hd : RdDesc w d l) :
    Calls Try.prog 28 #[d, .string s] w fun e w' => e = .returned (.tuple #[.int .i64 (max 0 (findL l s)), .bool (decide (0 ≤ findL l s))]) ∧ Below w.heap.size w w' := by
  obtain ⟨v, rfl, hv⟩ := hd
  have HV := Lib.hid hv
  obtain ⟨hf1, hf2⟩ := findL_range l s
  have FR := Lib.hid (fun d w h => s_FindRule d l s w h)
  go_enter Try.func28, Try.ntmps28
  go_wp2_with fail
  refine (FR.out _ _ ⟨_, rfl, HV.out.below below_box⟩).mono ?_
  rintro e w1 ⟨rfl, hb1⟩
  have HB1 := Lib.hid (Below.then_ below_box hb1 (Nat.le_refl _))
  clear hb1
  go_wp2_with fail
  refine (s_Max2 0 (findL l s) _).mono ?_
  rintro e w2 ⟨rfl, rfl⟩
  go_wp2_with fail
  go_ret2
  exact ⟨rfl, HB1.out⟩

set_option maxHeartbeats 2000000 in
theorem i_accept (s : ByteArray) (r : RuleD) (g : Nat) (vb vn vt vk : Value) (w : World) (hs : w.cell? ⟨g, 0, none⟩ = some (.string s)) :
    Calls Try.prog 56 #[.agg #[.string r.name, .int .i64 r.kind, .int .i64 r.size, .bool r.little, vb, vn, vt, vk], .pointer (some ⟨g, 0, none⟩)] w
      fun e w' => e = .returned (.bool (decide (r.name = s))) ∧ Below w.heap.size w w' := by
  have hlt := World.block_lt_of_cell? w _ hs
  have hs1 : (w.alloc (.cells #[.string r.name, .int .i64 r.kind, .int .i64 r.size, .bool r.little, vb, vn, vt, vk] 56)).cell? ⟨g, 0, none⟩ = some (.string s) := by rw [World.cell?_alloc_lt _ _ _ hlt]; exact hs
  by_cases he : r.name = s
  · have hq := str_eq he
    rw [decide_eq_true he]
    clear he
    go_enter Try.func56, Try.ntmps56
    go_wp2_with fail
    go_ret
    exact ⟨rfl, (Below.refl _ _).alloc (Nat.le_refl _) _⟩
  · have hq := str_ne he
    rw [decide_eq_false he]
    clear he
    go_enter Try.func56, Try.ntmps56
    go_wp2_with fail
    go_ret
    exact ⟨rfl, (Below.refl _ _).alloc (Nat.le_refl _) _⟩

set_option maxHeartbeats 4000000 in
theorem i_indexFunc (A : Option Addr) (c : Nat) (l : List RuleD) (s : ByteArray) (g : Nat) (w : World) (hv : RdRules w (.slice A l.length c) l) (hs : w.cell? ⟨g, 0, none⟩ = some (.string s)) :
    Calls Try.prog 55 #[.slice A l.length c, .func (.func 56) #[] #[.pointer (some ⟨g, 0, none⟩)]] w fun e w' => e = .returned (.int .i64 (findL l s)) ∧ Below w.heap.size w w' := by
  obtain ⟨A', c', e, hnc, hcm, hcell⟩ := hv.all
  injection e with e1 _ e2
  subst e1; subst e2
  unfold maxLen at hcm
  have HC := Lib.hid hcell
  have HS := Lib.hid hs
  clear hcell hv hs
  obtain ⟨F, hF⟩ : ∃ F, F = findL l s := ⟨_, rfl⟩
  have HF := Lib.hid hF
  rw [← hF]
  clear hF
  obtain ⟨n, hn⟩ : ∃ n, n = l.length := ⟨_, rfl⟩
  have HN := Lib.hid hn
  rw [← hn] at hnc ⊢
  clear hn
  go_enter Try.func55, Try.ntmps55
  go_wp2_with fail
  go_loopw [9] (fun i wr => ∃ k : Nat, k ≤ n ∧ i = .int .i64 k ∧ (∀ j (h : j < l.length), j < k → l[j].name ≠ s) ∧ Below w.heap.size w wr) (fun i _ => n - (intOf i).toNat)
  case atStart => exact ⟨0, Nat.zero_le _, rfl, fun j _ h => absurd h (by omega), Below.refl _ _⟩
  case round =>
    obtain ⟨k, hk, rfl, hno, hbr⟩ := hrel
    have HO := Lib.hid hno
    clear hno
    by_cases hlt : k < n
    · have hkl : k < l.length := by rw [← HN.out]; exact hlt
      obtain ⟨b, off, rfl, hc⟩ := HC.out (by omega)
      obtain ⟨vb, vn, vt, vk, hr⟩ := hc k hkl
      obtain ⟨⟨Ab, cb, rfl⟩, ⟨An, cn, rfl⟩, ⟨At, ct, rfl⟩, ⟨Ak, ck, rfl⟩⟩ := hr.slices
      obtain ⟨D0, D1, D2, D3, D4, D5, D6, D7⟩ := (hr.below hbr).eight
      have hsr : wr.cell? ⟨g, 0, none⟩ = some (.string s) := by rw [hbr.cell (World.block_lt_of_cell? w _ HS.out)]; exact HS.out
      have HSR := Lib.hid hsr
      have HBR := Lib.hid hbr
      obtain ⟨r, hr0⟩ : ∃ r, r = l[k] := ⟨_, rfl⟩
      rw [← hr0] at D0 D1 D2 D3 D4 D5 D6 D7
      have HR := Lib.hid hr0
      clear hr hc hbr hr0 hsr
      go_wp2_with fail
      refine (i_accept s r g _ _ _ _ _ (by rw [World.cell?_alloc_lt _ _ _ (World.block_lt_of_cell? wr _ HSR.out)]; exact HSR.out)).mono ?_
      by_cases he : r.name = s
      · have hfin : Hid (F = k) := by show _ = _; rw [HF.out]; exact findL_at hkl HO.out (by rw [← HR.out]; exact he)
        rw [decide_eq_true he]
        rintro e w1 ⟨rfl, hb1⟩
        have hbz := Below.then_ (HBR.out.alloc HBR.out.size _) hb1 (Nat.le_refl _)
        clear he hb1
        go_wp2_with fail
        go_ret
        exact ⟨ret_int hfin.out.symm, hbz⟩
      · have hall : Hid (∀ j (h : j < l.length), j < k + 1 → l[j].name ≠ s) := by
          intro j hj hjk
          rcases Nat.lt_or_ge j k with h1 | h1
          · exact HO.out j hj h1
          · obtain rfl : j = k := by omega
            rw [← HR.out]; exact he
        rw [decide_eq_false he]
        rintro e w1 ⟨rfl, hb1⟩
        have HBZ := Lib.hid (Below.then_ (HBR.out.alloc HBR.out.size _) hb1 (Nat.le_refl _))
        clear he hb1
        go_wp2_with fail
        go_roundw
        case rel => exact ⟨k + 1, by omega, by go_num, hall.out, HBZ.out⟩
        case measure => simp [intOf]; omega
    · obtain rfl : k = n := by omega
      have hfin : Hid (F = -1) := by show _ = _; rw [HF.out]; exact findL_none fun j hj => HO.out j hj (by have := HN.out; omega)
      go_wp2_with fail
      go_ret
      exact ⟨ret_int hfin.out.symm, hbr⟩

set_option maxHeartbeats 4000000 in
theorem i_ParseKid (d : Value) (l : List RuleD) (s : ByteArray) (w : World) (hd : RdDesc w d l) :
    Calls Try.prog 29 #[d, .string s] w fun e w' => e = .returned (.tuple #[.int .i64 (max 0 (findL l s)), .bool (decide (0 ≤ findL l s))]) ∧ Below w.heap.size w w' := by
  obtain ⟨v, rfl, hv⟩ := hd
  obtain ⟨A, c, rfl, _⟩ := hv.all
  have h0 : Below w.heap.size w ((w.alloc (.cells #[.slice A l.length c] 29)).alloc (.cells #[.string s] 9)) := below_box.alloc (by simp) _
  have HV := Lib.hid (hv.below h0)
  have hsx : ((w.alloc (.cells #[.slice A l.length c] 29)).alloc (.cells #[.string s] 9)).cell? ⟨w.heap.size + 1, 0, none⟩ = some (.string s) := by
    simp
  have HSX := Lib.hid hsx
  have HB0 := Lib.hid h0
  obtain ⟨hf1, hf2⟩ := findL_range l s
  obtain ⟨F, hF⟩ : ∃ F, F = findL l s := ⟨_, rfl⟩
  have ix := fun g w h h' => i_indexFunc A c l s g w h h'
  rw [← hF] at ix hf1 hf2 ⊢
  have IX := Lib.hid ix
  clear ix hF hv h0 hsx
  go_enter Try.func29, Try.ntmps29
  go_wp2_with fail
  refine (IX.out _ _ HV.out HSX.out).mono ?_
  rintro e w1 ⟨rfl, hb1⟩
  have HB1 := Lib.hid (Below.then_ HB0.out hb1 (Nat.le_refl _))
  clear hb1
  by_cases h0 : F < 0
  · have e1 : Hid (max 0 F = 0) := by show _ = _; omega
    have e2 : Hid (decide (0 ≤ F) = false) := by show _ = _; simp; omega
    go_wp2_with fail
    refine bodyPost_ret (results_two rfl _ _ _) rfl ?_
    exact ⟨ret_two e1.out.symm e2.out.symm, HB1.out⟩
  · have e1 : Hid (max 0 F = F) := by show _ = _; omega
    have e2 : Hid (decide (0 ≤ F) = true) := by show _ = _; simp; omega
    go_wp2_with fail
    refine bodyPost_ret (results_two rfl _ _ _) rfl ?_
    exact ⟨ret_two e1.out.symm e2.out.symm, HB1.out⟩

end Go.Proofs.Ytcegbilfcblhfaa
