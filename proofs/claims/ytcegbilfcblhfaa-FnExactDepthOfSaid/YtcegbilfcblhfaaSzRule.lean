/-
  szByteS, szIntS, szRule, szRuleS, szDescription: what is left of a bound behind a description.
-/
import Derived.Test.YtcegbilfcblhfaaProg
import Derived.Test.YtcegbilfcblhfaaRule
import Derived.Test.YtcegbilfcblhfaaSzString
import Derived.WalkKit
import Derived.WalkSpells
import Derived.WalkLawsBesides
import Derived.Lib.Hide
namespace Go.Proofs.Ytcegbilfcblhfaa
open Go.RowKit

def szN (n : Nat) (left : Int) : Int := if (n : Int) ≤ left then left - n else -1
theorem szN_pos {n : Nat} {left : Int} (h : (n : Int) ≤ left) : szN n left = left - n := by unfold szN; rw [if_pos h]
theorem szN_neg {n : Nat} {left : Int} (h : ¬ (n : Int) ≤ left) : szN n left = -1 := by unfold szN; rw [if_neg h]
theorem szS_pos {l : List ByteArray} {left : Int} (h : (l.length : Int) + total l ≤ left) : szS l left = left - l.length - total l := by unfold szS; rw [if_pos h]
theorem szS_no {l : List ByteArray} {left : Int} (h : ¬ (l.length : Int) + total l ≤ left) : szS l left = -1 := by unfold szS; rw [if_neg h]

set_option maxHeartbeats 400000 in
theorem l_szByteS (v : Value) (l : List UInt8) (left : Int) (h0 : 0 ≤ left) (h1 : left ≤ 1048576) (w : World) (h : Rd w v 1 l.length (cB l)) :
    Calls Try.prog 92 #[v, .int .i64 left] w fun e w' => e = .returned (.int .i64 (szN l.length left)) ∧ w = w' := by
  obtain ⟨hl, A, c, rfl, hnc, hcm, hcell⟩ := h
  unfold maxLen at hcm
  clear hl hcell
  by_cases hle : (l.length : Int) ≤ left
  · have hf := Lib.hid (szN_pos hle)
    go_enter Try.func92, Try.ntmps92
    go_wp2_with fail
    go_ret
    exact ⟨ret_int (by rw [hf.out]), rfl⟩
  · have hf := Lib.hid (szN_neg hle)
    go_enter Try.func92, Try.ntmps92
    go_wp2_with fail
    go_ret
    exact ⟨ret_int (by rw [hf.out]), rfl⟩

set_option maxHeartbeats 400000 in
theorem l_szIntS (v : Value) (l : List Int) (left : Int) (h0 : 0 ≤ left) (h1 : left ≤ 1048576) (w : World) (h : Rd w v 1 l.length (cI l)) :
    Calls Try.prog 94 #[v, .int .i64 left] w fun e w' => e = .returned (.int .i64 (szN l.length left)) ∧ w = w' := by
  obtain ⟨hl, A, c, rfl, hnc, hcm, hcell⟩ := h
  unfold maxLen at hcm
  clear hl hcell
  by_cases hle : (l.length : Int) ≤ left
  · have hf := Lib.hid (szN_pos hle)
    go_enter Try.func94, Try.ntmps94
    go_wp2_with fail
    go_ret
    exact ⟨ret_int (by rw [hf.out]), rfl⟩
  · have hf := Lib.hid (szN_neg hle)
    go_enter Try.func94, Try.ntmps94
    go_wp2_with fail
    go_ret
    exact ⟨ret_int (by rw [hf.out]), rfl⟩

def ruleSize (r : RuleD) : Nat := r.name.size + r.bytes.length + r.names.length + total r.names + r.tags.length + r.kids.length
theorem szR_go {r : RuleD} {left : Int} (h : (ruleSize r : Int) ≤ left) : szN (ruleSize r) left = left - r.name.size - r.bytes.length - r.names.length - total r.names - r.tags.length - r.kids.length := by
  rw [szN_pos h]; unfold ruleSize; omega

set_option maxHeartbeats 2000000 in
theorem l_szRule (r : RuleD) (vb vn vt vk : Value) (left : Int) (h0 : 0 ≤ left) (h1 : left ≤ 1048576) (hf : RuleFits r) (w : World) (h : RdRule w (ruleCells r vb vn vt vk) r) :
    Calls Try.prog 71 #[.agg #[.string r.name, .int .i64 r.kind, .int .i64 r.size, .bool r.little, vb, vn, vt, vk], .int .i64 left] w fun e w' => e = .returned (.int .i64 (szN (ruleSize r) left)) ∧ Below w.heap.size w w' := by
  obtain ⟨vb', vn', vt', vk', e, hb, hn, ht, hk⟩ := h
  unfold ruleCells at e
  injection e with _ e; injection e with _ e; injection e with _ e; injection e with _ e; injection e with e1 e; injection e with e2 e; injection e with e3 e; injection e with e4 _
  subst e1; subst e2; subst e3; subst e4
  obtain ⟨hf1, hf2, _⟩ := hf
  unfold maxLen at hf1
  have HA := (Below.refl w.heap.size w).alloc (Nat.le_refl _) (.cells #[.string r.name, .int .i64 r.kind, .int .i64 r.size, .bool r.little, vb, vn, vt, vk] 70)
  have HB := Lib.hid (hb.below HA)
  have HN := Lib.hid (hn.below HA)
  have HT := Lib.hid (ht.below HA)
  have HK := Lib.hid (hk.below HA)
  have HA' := Lib.hid HA
  clear HA hb hn ht hk
  have no : ¬ ((ruleSize r : Nat) : Int) ≤ left → Hid (szN (ruleSize r) left = -1) := fun h => szN_neg h
  have yes : ((ruleSize r : Nat) : Int) ≤ left → Hid (szN (ruleSize r) left = left - r.name.size - r.bytes.length - r.names.length - total r.names - r.tags.length - r.kids.length) := fun h => szR_go h
  have hrs : ruleSize r = r.name.size + r.bytes.length + r.names.length + total r.names + r.tags.length + r.kids.length := rfl
  have HRS := Lib.hid hrs
  have HNO := Lib.hid no
  have HYES := Lib.hid yes
  clear no yes hrs
  by_cases c1 : (r.name.size : Int) ≤ left
  · go_enter Try.func71, Try.ntmps71
    go_wp2_with fail
    refine (l_szByteS vb r.bytes (left - r.name.size) (by omega) (by omega) _ HB.out).mono ?_
    by_cases c2 : (r.bytes.length : Int) ≤ left - r.name.size
    · rw [szN_pos c2]
      rintro e w' ⟨rfl, rfl⟩
      go_wp2_with fail
      refine (l_szStringS vn r.names _ (by omega) (by omega) hf2 _ HN.out).mono ?_
      by_cases c3 : (r.names.length : Int) + total r.names ≤ left - r.name.size - r.bytes.length
      · rw [szS_pos c3]
        rintro e w' ⟨rfl, rfl⟩
        go_wp2_with fail
        refine (l_szIntS vt r.tags _ (by omega) (by omega) _ HT.out).mono ?_
        by_cases c4 : (r.tags.length : Int) ≤ left - r.name.size - r.bytes.length - r.names.length - total r.names
        · rw [szN_pos c4]
          rintro e w' ⟨rfl, rfl⟩
          go_wp2_with fail
          refine (l_szIntS vk r.kids _ (by omega) (by omega) _ HK.out).mono ?_
          by_cases c5 : (r.kids.length : Int) ≤ left - r.name.size - r.bytes.length - r.names.length - total r.names - r.tags.length
          · have hy := HYES.out (by rw [HRS.out]; omega)
            rw [szN_pos c5]
            rintro e w' ⟨rfl, rfl⟩
            go_wp2_with fail
            go_ret
            exact ⟨ret_int (by rw [hy.out]), HA'.out⟩
          · have hy := HNO.out (by rw [HRS.out]; omega)
            rw [szN_neg c5]
            rintro e w' ⟨rfl, rfl⟩
            go_wp2_with fail
            go_ret
            exact ⟨ret_int (by rw [hy.out]), HA'.out⟩
        · have hy := HNO.out (by rw [HRS.out]; omega)
          rw [szN_neg c4]
          rintro e w' ⟨rfl, rfl⟩
          go_wp2_with fail
          go_ret
          exact ⟨ret_int (by rw [hy.out]), HA'.out⟩
      · have hy := HNO.out (by rw [HRS.out]; omega)
        rw [szS_no c3]
        rintro e w' ⟨rfl, rfl⟩
        go_wp2_with fail
        go_ret
        exact ⟨ret_int (by rw [hy.out]), HA'.out⟩
    · have hy := HNO.out (by rw [HRS.out]; omega)
      rw [szN_neg c2]
      rintro e w' ⟨rfl, rfl⟩
      go_wp2_with fail
      go_ret
      exact ⟨ret_int (by rw [hy.out]), HA'.out⟩
  · have hy := HNO.out (by rw [HRS.out]; omega)
    go_enter Try.func71, Try.ntmps71
    go_wp2_with fail
    go_ret
    exact ⟨ret_int (by rw [hy.out]), HA'.out⟩

def rulesSize (l : List RuleD) : Nat := (l.map ruleSize).sum
theorem rulesSize_step (l : List RuleD) (k : Nat) (h : k < l.length) : rulesSize (l.take (k + 1)) = rulesSize (l.take k) + ruleSize l[k] := by
  unfold rulesSize
  rw [List.take_succ_eq_append_getElem h, List.map_append, List.sum_append]
  simp
theorem rulesSize_take (l : List RuleD) (k : Nat) : rulesSize (l.take k) ≤ rulesSize l := by
  unfold rulesSize
  induction l generalizing k with
  | nil => simp
  | cons s r ih =>
    cases k with
    | zero => simp
    | succ k => have := ih k; simp at this ⊢; omega
theorem rulesSize_at (l : List RuleD) (k : Nat) (h : k < l.length) : rulesSize (l.take k) + ruleSize l[k] ≤ rulesSize l := by
  rw [← rulesSize_step l k h]; exact rulesSize_take l _
theorem rulesSize_mem {l : List RuleD} {r : RuleD} (h : r ∈ l) : ruleSize r ≤ rulesSize l := by
  obtain ⟨k, hk, rfl⟩ := List.getElem_of_mem h
  have := rulesSize_at l k hk
  omega
/-- The whole of a description. -/
def descSize (l : List RuleD) : Nat := l.length + rulesSize l

set_option maxHeartbeats 2000000 in
theorem l_szRuleS (v : Value) (l : List RuleD) (left : Int) (h0 : 0 ≤ left) (h1 : left ≤ 1048576) (hf : ∀ r ∈ l, RuleFits r) (w : World) (h : RdRules w v l) :
    Calls Try.prog 47 #[v, .int .i64 left] w fun e w' => e = .returned (.int .i64 (szN (descSize l) left)) ∧ Below w.heap.size w w' := by
  obtain ⟨A, c, rfl, hnc, hcm, hcell⟩ := h
  unfold maxLen at hcm
  have HC := Lib.hid hcell; clear hcell
  have hdl : descSize l = l.length + rulesSize l := rfl
  have HD := Lib.hid hdl
  clear hdl
  by_cases hlen : (l.length : Int) ≤ left
  · go_enter Try.func47, Try.ntmps47
    go_wp2_with fail
    go_loopw [1, 5] (fun r i wr => ∃ k : Nat, k ≤ l.length ∧ i = .int .i64 k ∧ r = .int .i64 (left - l.length - rulesSize (l.take k)) ∧ (l.length : Int) + rulesSize (l.take k) ≤ left ∧ Below w.heap.size w wr) (fun _ i _ => l.length - (intOf i).toNat)
    case atStart => exact ⟨0, Nat.zero_le _, rfl, by simp [rulesSize], by simpa [rulesSize] using hlen, Below.refl _ _⟩
    case round =>
      obtain ⟨k, hk, rfl, rfl, hle, hbr⟩ := hrel
      by_cases hlt : k < l.length
      · obtain ⟨b, off, rfl, hc⟩ := HC.out (by omega)
        obtain ⟨cs, hr, hat⟩ := hc k hlt
        have hr' := hr.keep (w' := wr) fun _ hp => hbr.cell hp
        have hat' : wr.rangeAt b (off + k * 8) cs := fun j u hu => by rw [hbr.cell (World.block_lt_of_cell? w _ (hat j u hu))]; exact hat j u hu
        have h8 := hr.len
        obtain ⟨vb, vn, vt, vk, rfl, _⟩ := hr
        have HR := Lib.hid hr'
        have HAT := Lib.hid hat'
        have HST := Lib.hid (rulesSize_step l k hlt)
        have HFT := hf l[k] (List.getElem_mem hlt)
        have hat2 := rulesSize_at l k hlt
        obtain ⟨r, hr0⟩ : ∃ r, r = l[k] := ⟨_, rfl⟩
        rw [← hr0] at HR HAT HST HFT hat2
        obtain ⟨S, hS⟩ : ∃ S, S = rulesSize (l.take k) := ⟨_, rfl⟩
        rw [← hS] at hle HST hat2 ⊢
        have HBR := Lib.hid hbr
        have HS := Lib.hid hS
        clear hc hat hat' hr' h8 hr0 hbr hS
        go_wp2_with (refine wpList_load_mid rfl 70 (.tmp 20) rfl b (off + k * 8) rfl _ _ HAT.out Try.underlying70 rfl (by kernel_rfl) ?_)
        refine (l_szRule r vb vn vt vk _ (by omega) (by omega) HFT _ HR.out).mono ?_
        by_cases hgo : ((ruleSize r : Nat) : Int) ≤ left - l.length - S
        · rw [szN_pos hgo]
          rintro e w2 ⟨rfl, hb2⟩
          have HB2 := Lib.hid (Below.then_ HBR.out hb2 (by have := HBR.out.size; omega))
          clear hb2
          go_wp2_with fail
          go_roundw
          case rel => exact ⟨k + 1, by omega, by go_num, by rw [HST.out]; go_num, by rw [HST.out]; omega, HB2.out⟩
          case measure => simp [intOf]; omega
        · have hfin : Hid (szN (descSize l) left = -1) := szN_neg (by rw [HD.out]; omega)
          rw [szN_neg hgo]
          rintro e w2 ⟨rfl, hb2⟩
          have HB2 := Lib.hid (Below.then_ HBR.out hb2 (by have := HBR.out.size; omega))
          clear hb2
          go_wp2_with fail
          go_ret
          exact ⟨ret_int hfin.out.symm, HB2.out⟩
      · obtain rfl : k = l.length := by omega
        rw [List.take_length] at hle ⊢
        have hfin : Hid (szN (descSize l) left = left - l.length - rulesSize l) := by show _ = _; rw [szN_pos (by rw [HD.out]; omega), HD.out]; omega
        go_wp2_with fail
        go_ret
        exact ⟨ret_int hfin.out.symm, hbr⟩
  · have hfin : Hid (szN (descSize l) left = -1) := szN_neg (by rw [HD.out]; omega)
    go_enter Try.func47, Try.ntmps47
    go_wp2_with fail
    go_ret
    exact ⟨ret_int hfin.out.symm, Below.refl _ _⟩

set_option maxHeartbeats 1000000 in
theorem l_szDescription (d : Value) (l : List RuleD) (left : Int) (h0 : 0 ≤ left) (h1 : left ≤ 1048576) (hf : ∀ r ∈ l, RuleFits r) (w : World) (h : RdDesc w d l) :
    Calls Try.prog 15 #[d, .int .i64 left] w fun e w' => e = .returned (.int .i64 (szN (descSize l) left)) ∧ Below w.heap.size w w' := by
  obtain ⟨v, rfl, hv⟩ := h
  have HA := (Below.refl w.heap.size w).alloc (Nat.le_refl _) (.cells #[v] 24)
  have HV := Lib.hid (hv.below HA)
  have HA' := Lib.hid HA
  clear hv HA
  by_cases hc : ((descSize l : Nat) : Int) ≤ left
  · have hy := Lib.hid (szN_pos hc)
    go_enter Try.func15, Try.ntmps15
    go_wp2_with fail
    refine (l_szRuleS v l left h0 h1 hf _ HV.out).mono ?_
    rw [hy.out]
    rintro e w2 ⟨rfl, hb2⟩
    go_wp2_with fail
    go_ret
    exact ⟨ret_int (by rw [hy.out]), Below.then_ HA'.out hb2 (by simp)⟩
  · have hy := Lib.hid (szN_neg hc)
    go_enter Try.func15, Try.ntmps15
    go_wp2_with fail
    refine (l_szRuleS v l left h0 h1 hf _ HV.out).mono ?_
    rw [hy.out]
    rintro e w2 ⟨rfl, hb2⟩
    go_wp2_with fail
    go_ret
    exact ⟨ret_int (by rw [hy.out]), Below.then_ HA'.out hb2 (by simp)⟩

end Go.Proofs.Ytcegbilfcblhfaa
