/-
  The rules that a rule uses, of the program.
-/
import Derived.Test.YtabdcngkdgadfaaUsedPlain
import Derived.Test.YtabdcngkdgadfaaDepthI
import Derived.Test.YtabdcngkdgadfaaLonger
import Derived.Test.YtabdcngkdgadfaaGB
import Derived.Test.YtabdcngkdgadfaaTextPlain
import Derived.Test.YtabdcngkdgadfaaGoodPlain
import Derived.Deep.MidRow
import Derived.Deep.RegionWith
import Derived.Deep.RegionHeld3
import Derived.Deep.DeepCutAuto
namespace Go.Proofs.Ytabdcngkdgadfaa
open Go.RowKit
set_option linter.unusedVariables false

/-- The row of 24 marks. -/
def bRow (B : List Bool) : Array Value := ((List.range 24).map fun j => Value.bool (B.getD j false)).toArray
theorem bRow_size (B : List Bool) : (bRow B).size = 24 := by simp [bRow]
theorem bRow_at (B : List Bool) {j : Nat} (h : j < 24) : (bRow B)[j]? = some (.bool (B.getD j false)) := by simp [bRow, h]
theorem bRow_set {B : List Bool} {k : Nat} (hk : k < B.length) (hB : B.length = 24) : (bRow B).setIfInBounds k (.bool true) = bRow (B.set k true) := by
  apply Array.ext
  · simp [bRow_size]
  · intro j h1 h2
    have hj : j < 24 := by rw [bRow_size] at h2; exact h2
    have e1 := bRow_at B hj
    have e2 := bRow_at (B.set k true) hj
    rw [getD_set j hk] at e2
    rw [Array.getElem?_eq_getElem (by rw [bRow_size]; exact hj)] at e1 e2
    injection e1 with e1
    injection e2 with e2
    rw [Array.getElem_setIfInBounds (by rw [bRow_size]; exact hj), e1, e2]
    by_cases h : k = j
    · rw [if_pos h, if_pos h.symm]
    · rw [if_neg h, if_neg (Ne.symm h)]
theorem bRow_new : bRow (List.replicate 24 false) = #[.bool false, .bool false, .bool false, .bool false, .bool false, .bool false, .bool false, .bool false, .bool false, .bool false, .bool false, .bool false, .bool false, .bool false, .bool false, .bool false, .bool false, .bool false, .bool false, .bool false, .bool false, .bool false, .bool false, .bool false] := by rfl
theorem bRow_one (B : List Bool) : (bRow B).all (·.oneCell') = true := by
  rw [Array.all_eq_true_iff_forall_mem]
  intro v hv
  simp only [bRow, List.mem_toArray, List.mem_map] at hv
  obtain ⟨j, _, rfl⟩ := hv
  rfl
theorem grown_cells (w : World) (g : Nat) : ∀ (vs : List Value) (o : Nat), w.grownBy (w.setCells g o vs) (some g) := by
  intro vs
  induction vs generalizing w with
  | nil => intro o; exact World.grownBy.refl w _
  | cons v vs ih =>
    intro o
    have h1 : w.grownBy (w.setCell ⟨g, o, none⟩ v) (some g) := ⟨rfl, rfl, rfl, by simp [World.setCell], fun i hi hne => heap_setCell_other w ⟨g, o, none⟩ i v (fun e => hne (by rw [e]))⟩
    have h2 := ih (w.setCell ⟨g, o, none⟩ v) (o + 1)
    exact grown_trans' h1 h2
theorem below_cells {w0 w : World} {B g : Nat} (h : Below B w0 w) (hB : B ≤ w.heap.size) (hg : B ≤ g) (o : Nat) (vs : List Value) : Below B w0 (w.setCells g o vs) :=
  h.grown (grown_cells w g vs o) hB (fun k hk => by injection hk with hk; omega)
theorem results_cell {fn : Func} {t : Tmp} {ty : TypeId} {p : Addr} {v : Value} {P : Program} {w : World} (h : fn.results = #[.cell t ty]) (tmps : Array Value) (ht : tmps.getD t undef = .pointer (some p)) (hl : (loadVar ty p).run P w = .ok v w) :
    (results fn tmps).run P w = .ok v w := by
  have ht' : tmps[t]?.getD undef = .pointer (some p) := by rw [← ht]; simp
  simp [results, h, ht', asAddr, hl]
def putAll (cs : Array Value) : Nat → List Value → Array Value
  | _, [] => cs
  | o, v :: r => putAll (cs.setIfInBounds o v) (o + 1) r
theorem Box.puts {w : World} {g : Nat} {t : TypeId} {cs : Array Value} (h : Box w g t cs) : ∀ (vs : List Value) (o : Nat), Box (w.setCells g o vs) g t (putAll cs o vs) := by
  intro vs
  induction vs generalizing w cs with
  | nil => intro o; exact h
  | cons v r ih => intro o; exact ih (h.set o v) (o + 1)
theorem putAll_at : ∀ (vs : List Value) (cs : Array Value) (o j : Nat), o + vs.length ≤ cs.size → (putAll cs o vs)[j]? = if o ≤ j ∧ j < o + vs.length then vs[j - o]? else cs[j]? := by
  intro vs
  induction vs with
  | nil => intro cs o j _; rw [if_neg (by simp <;> omega)]; rfl
  | cons v r ih =>
    intro cs o j h
    simp only [List.length_cons] at h ⊢
    show (putAll (cs.setIfInBounds o v) (o + 1) r)[j]? = _
    rw [ih _ _ _ (by simp; omega)]
    by_cases hj : j = o
    · subst hj
      rw [if_neg (by omega), if_pos (by omega), Array.getElem?_setIfInBounds_self_of_lt (by omega)]
      simp
    · by_cases h2 : o + 1 ≤ j ∧ j < o + 1 + r.length
      · rw [if_pos h2, if_pos (by omega), show j - o = (j - (o + 1)) + 1 by omega, List.getElem?_cons_succ]
      · rw [if_neg h2, if_neg (by omega), Array.getElem?_setIfInBounds_ne (by omega)]
theorem Box.putRow {w : World} {g : Nat} {t : TypeId} {cs ds : Array Value} (h : Box w g t cs) (hs : ds.size = cs.size) : Box (w.setCells g 0 ds.toList) g t ds := by
  have h1 := h.puts ds.toList 0
  have e : putAll cs 0 ds.toList = ds := by
    apply Array.ext_getElem?
    intro j
    rw [putAll_at _ _ _ _ (by simp; omega)]
    by_cases hj : j < ds.size
    · rw [if_pos (by simpa using hj)]; simp
    · rw [if_neg (by simpa using hj), Array.getElem?_eq_none (by omega), Array.getElem?_eq_none (by omega)]
  rwa [e] at h1

set_option maxRecDepth 100000 in
set_option maxHeartbeats 8000000 in
theorem i_usedRules (d : Value) (l : List RuleD) (m : Nat) (hval : validD l = true) (hm : m < l.length) (w : World) (hd : RdDesc w d l) :
    Calls Try.prog 27 #[d, .int .i64 m] w fun e w' => e = .returned (.agg (bRow (usedB l m))) ∧ Below w.heap.size w w' := by
  obtain ⟨v, rfl, hv⟩ := hd
  obtain ⟨A, c, rfl, hnc, hcm, hcell⟩ := hv.all
  unfold maxLen at hcm
  have hl24 := (valid_len hval).2
  have HKA := Lib.hid (kidsAhead_of hval)
  have HSM := Lib.hid (good_small (by omega) (validD_good hval).1)
  obtain ⟨F, hF⟩ : ∃ F, F = usedB l m := ⟨_, rfl⟩
  rw [← hF]
  have HF := Lib.hid (show usedGo l (m + 1) ((List.replicate 24 false).set m true) = F by rw [hF]; rfl)
  obtain ⟨n, hn⟩ : ∃ n, n = l.length := ⟨_, rfl⟩
  have HN := Lib.hid hn
  have HC := Lib.hid hcell
  rw [← hn] at hnc hm hl24 ⊢
  obtain ⟨w2, hw2⟩ : ∃ w2, w2 = (((w.alloc (.cells #[.slice A n c] 26)).alloc (.cells #[.bool false, .bool false, .bool false, .bool false, .bool false, .bool false, .bool false, .bool false, .bool false, .bool false, .bool false, .bool false, .bool false, .bool false, .bool false, .bool false, .bool false, .bool false, .bool false, .bool false, .bool false, .bool false, .bool false, .bool false] 50)).alloc (.cells ([.bool false, .bool false, .bool false, .bool false, .bool false, .bool false, .bool false, .bool false, .bool false, .bool false, .bool false, .bool false, .bool false, .bool false, .bool false, .bool false, .bool false, .bool false, .bool false, .bool false, .bool false, .bool false, .bool false, .bool false].set m (.bool true)).toArray 50)) := ⟨_, rfl⟩
  have hm24 : (m : Int) < 24 := by omega
  have hm0 : (0 : Int) ≤ (m : Int) := by omega
  have hcs : ([.bool false, .bool false, .bool false, .bool false, .bool false, .bool false, .bool false, .bool false, .bool false, .bool false, .bool false, .bool false, .bool false, .bool false, .bool false, .bool false, .bool false, .bool false, .bool false, .bool false, .bool false, .bool false, .bool false, .bool false].set m (.bool true) : List Value).toArray = bRow ((List.replicate 24 false).set m true) := by
    rw [← bRow_set (by simp; omega) (by simp), bRow_new, List.setIfInBounds_toArray]
  have Y3 := Lib.hid (show Box w2 (w.heap.size + 1 + 1) 50 (bRow ((List.replicate 24 false).set m true)) by rw [hw2, hcs]; exact box_new2 _ _ _ _ _)
  have R3 := Lib.hid (show Box w2 (w.heap.size + 1) 50 (bRow (List.replicate 24 false)) by rw [hw2, bRow_new]; exact (box_new1 w (.cells #[.slice A n c] 26) _ _).alloc _)
  have X3 := Lib.hid (show Box w2 w.heap.size 26 #[.slice A n c] by rw [hw2]; exact ((Box.new w _ _).alloc _).alloc _)
  have B3 := Lib.hid (show Below w.heap.size w w2 by rw [hw2]; exact (below_box.alloc (by simp) _).alloc (by simp; omega) _)
  have cm : (((w.alloc (.cells #[.slice A n c] 26)).alloc (.cells #[.bool false, .bool false, .bool false, .bool false, .bool false, .bool false, .bool false, .bool false, .bool false, .bool false, .bool false, .bool false, .bool false, .bool false, .bool false, .bool false, .bool false, .bool false, .bool false, .bool false, .bool false, .bool false, .bool false, .bool false] 50)).alloc (.cells #[.bool false, .bool false, .bool false, .bool false, .bool false, .bool false, .bool false, .bool false, .bool false, .bool false, .bool false, .bool false, .bool false, .bool false, .bool false, .bool false, .bool false, .bool false, .bool false, .bool false, .bool false, .bool false, .bool false, .bool false] 50)).cell? ⟨w.heap.size + 1 + 1, m, none⟩ = some (.bool ((List.replicate 24 false).getD m false)) := by
    rw [(box_new2 w (.cells #[.slice A n c] 26) (.cells #[.bool false, .bool false, .bool false, .bool false, .bool false, .bool false, .bool false, .bool false, .bool false, .bool false, .bool false, .bool false, .bool false, .bool false, .bool false, .bool false, .bool false, .bool false, .bool false, .bool false, .bool false, .bool false, .bool false, .bool false] 50) 50 #[.bool false, .bool false, .bool false, .bool false, .bool false, .bool false, .bool false, .bool false, .bool false, .bool false, .bool false, .bool false, .bool false, .bool false, .bool false, .bool false, .bool false, .bool false, .bool false, .bool false, .bool false, .bool false, .bool false, .bool false]).cell m, ← bRow_new]; exact bRow_at _ (by omega)
  have fm : (((w.alloc (.cells #[.slice A n c] 26)).alloc (.cells #[.bool false, .bool false, .bool false, .bool false, .bool false, .bool false, .bool false, .bool false, .bool false, .bool false, .bool false, .bool false, .bool false, .bool false, .bool false, .bool false, .bool false, .bool false, .bool false, .bool false, .bool false, .bool false, .bool false, .bool false] 50)).alloc (.cells #[.bool false, .bool false, .bool false, .bool false, .bool false, .bool false, .bool false, .bool false, .bool false, .bool false, .bool false, .bool false, .bool false, .bool false, .bool false, .bool false, .bool false, .bool false, .bool false, .bool false, .bool false, .bool false, .bool false, .bool false] 50)).frozen? ⟨w.heap.size + 1 + 1, m, none⟩ = false := (box_new2 w (.cells #[.slice A n c] 26) (.cells #[.bool false, .bool false, .bool false, .bool false, .bool false, .bool false, .bool false, .bool false, .bool false, .bool false, .bool false, .bool false, .bool false, .bool false, .bool false, .bool false, .bool false, .bool false, .bool false, .bool false, .bool false, .bool false, .bool false, .bool false] 50) 50 #[.bool false, .bool false, .bool false, .bool false, .bool false, .bool false, .bool false, .bool false, .bool false, .bool false, .bool false, .bool false, .bool false, .bool false, .bool false, .bool false, .bool false, .bool false, .bool false, .bool false, .bool false, .bool false, .bool false, .bool false]).frozen m
  have W2 := Lib.hid hw2
  have HV := Lib.hid hval
  clear hcell hv hn hF hw2 hval hcs
  go_enter Try.func27, Try.ntmps27
  go_wp2_with fail
  rw [← W2.out]
  clear cm fm
  go_loopw [6] (fun i wr => ∃ (q : Nat) (B : List Bool), q ≤ m + 1 ∧ i = .int .i64 ((q : Int) - 1) ∧ B.length = 24 ∧ usedGo l q B = F ∧ Box wr (w.heap.size + 1 + 1) 50 (bRow B) ∧ Box wr (w.heap.size + 1) 50 (bRow (List.replicate 24 false)) ∧ Box wr w.heap.size 26 #[.slice A n c] ∧ Below w.heap.size w wr) (fun i _ => (intOf i + 1).toNat)
  case atStart => exact ⟨m + 1, _, Nat.le_refl _, by congr 1; omega, by simp, HF.out, Y3.out, R3.out, X3.out, B3.out⟩
  case round =>
    obtain ⟨q, B, hq, rfl, hBl, hgo, hyr, hrr, hxr, hbr⟩ := hrel
    have HYR := Lib.hid hyr
    have HRR := Lib.hid hrr
    have HXR := Lib.hid hxr
    have HBR := Lib.hid hbr
    have HGO := Lib.hid hgo
    have HBL := Lib.hid hBl
    have x0 : wr.cell? ⟨w.heap.size, 0, none⟩ = some (.slice A n c) := hxr.cell 0
    clear hyr hrr hxr hbr hgo hBl
    rcases Nat.eq_zero_or_pos q with rfl | hpos
    · rw [show ((0 : Nat) : Int) - 1 = -1 by rfl]
      obtain rfl : B = F := HGO.out
      have t24 := HRR.out.there 24 (by rw [bRow_size]; omega)
      have hst : Box (wr.setCells (w.heap.size + 1) 0 (bRow B).toList) (w.heap.size + 1) 50 (bRow B) := HRR.out.putRow (by rw [bRow_size, bRow_size])
      have ST := Lib.hid hst
      have BT := Lib.hid (below_cells HBR.out HBR.out.size (by omega : w.heap.size ≤ w.heap.size + 1) 0 (bRow B).toList)
      have RNG := Lib.hid HYR.out.range
      have T24 := Lib.hid t24
      clear t24 hst
      have hl := run_loadVar_mid (P := Try.prog) (wr.setCells (w.heap.size + 1) 0 (bRow B).toList) (w.heap.size + 1) 0 50 _ _ ST.out.range Try.underlying50 rfl (by rw [show (bRow B).toList.length = 24 from by simp [bRow]]; kernel_rfl)
      go_wp2_with (first
        | (refine wpList_load_mid rfl 50 (.tmp 5) rfl (w.heap.size + 1 + 1) 0 rfl _ _ RNG.out Try.underlying50 rfl (by rw [show (bRow B).toList.length = 24 from by simp [bRow]]; kernel_rfl) ?_)
        | (refine wpList_store_mid rfl 50 (.tmp 4) (.tmp 34) rfl (w.heap.size + 1) 0 (bRow B) rfl rfl (by rw [bRow_size]; exact T24.out) (by rw [bRow_size]; kernel_rfl) (bRow_one B) ?_))
      refine bodyPost_ret (v := .agg (bRow B)) (results_cell Try.results27 _ rfl hl) rfl ?_
      exact ⟨rfl, BT.out⟩
    · obtain ⟨k, rfl⟩ : ∃ k, q = k + 1 := ⟨q - 1, by omega⟩
      rw [show (((k + 1 : Nat) : Int)) - 1 = (k : Int) by omega]
      have hkn : (k : Int) < (n : Int) := by omega
      have hk0 : (0 : Int) ≤ (k : Int) := by omega
      have hk24 : (k : Int) < 24 := by omega
      have hkl : k < l.length := by rw [← HN.out]; omega
      have cb : wr.cell? ⟨w.heap.size + 1 + 1, k, none⟩ = some (.bool (B.getD k false)) := by rw [HYR.out.cell k]; exact bRow_at _ (by omega)
      obtain ⟨u, hu⟩ : ∃ u, u = B.getD k false := ⟨_, rfl⟩
      rw [← hu] at cb
      have HU := Lib.hid hu
      clear hu
      cases u
      · go_wp2_with fail
        go_roundw
        case rel =>
          refine ⟨k, B, by omega, by go_num, HBL.out, ?_, HYR.out, HRR.out, HXR.out, HBR.out⟩
          have h := HGO.out
          unfold usedGo at h
          rwa [if_neg (by rw [← HU.out]; simp)] at h
        case measure => simp [intOf] <;> omega
      · obtain ⟨b, off, rfl, hcs⟩ := HC.out (by omega)
        obtain ⟨vb, vn, vt, vk, hr⟩ := hcs k hkl
        obtain ⟨r, hr0⟩ : ∃ r, r = l[k] := ⟨_, rfl⟩
        rw [← hr0] at hr
        have hps : r.kids.length ≤ 1048576 := by rw [hr0]; exact (HSM.out _ (List.getElem_mem hkl)).2.2.2
        have HRA := Lib.hid (show ruleAt l (k : Int) = r by rw [hr0]; exact ruleAt_eq hkl)
        obtain ⟨⟨Ab, cb', rfl⟩, ⟨An, cn, rfl⟩, ⟨At, ct, rfl⟩, ⟨Ak, ck, rfl⟩⟩ := hr.slices
        have hrr := hr.below HBR.out
        obtain ⟨D0, D1, D2, D3, D4, D5, D6, D7⟩ := hrr.eight
        have HRK := Lib.hid hr.rk
        have hkids : Hid (∀ j (h : j < r.kids.length), ∃ t : Nat, r.kids[j] = (t : Int) ∧ t < k) := by
          intro j hj
          subst hr0
          exact valid_kids HV.out hkl hj
        have HST : Hid (usedGo l k (markKids B r.kids) = F) := by
          have h := HGO.out
          unfold usedGo at h
          rwa [if_pos HU.out.symm, HRA.out] at h
        obtain ⟨p, hp⟩ : ∃ p, p = r.kids.length := ⟨_, rfl⟩
        have HP := Lib.hid hp
        rw [← hp] at hps D7
        clear hcs hr hrr hr0 hp D0 D1 D2 D3 D4 D5 D6
        go_wp2_with fail
        clear D7 x0 cb
        go_loopw [27] (fun j wi => ∃ q : Nat, q ≤ p ∧ j = .int .i64 q ∧ Below w.heap.size w wi ∧ Box wi (w.heap.size + 1 + 1) 50 (bRow (markKids B (r.kids.take q))) ∧ Box wi (w.heap.size + 1) 50 (bRow (List.replicate 24 false)) ∧ Box wi w.heap.size 26 #[.slice (some ⟨b, off, none⟩) n c]) (fun j _ => p - (intOf j).toNat)
        case atStart => exact ⟨0, Nat.zero_le _, rfl, HBR.out, by rw [List.take_zero]; exact HYR.out, HRR.out, HXR.out⟩
        case round =>
          obtain ⟨wi, hwi⟩ : ∃ wi : World, wi = wr := ⟨_, rfl⟩
          subst hwi
          obtain ⟨q, hq, rfl, hbi, hyi, hri, hxi⟩ := hrel
          have HBI := Lib.hid hbi
          have HYI := Lib.hid hyi
          have HRI := Lib.hid hri
          have HXI := Lib.hid hxi
          clear hbi hyi hri hxi
          by_cases hlt2 : q < p
          · have hqr : q < r.kids.length := by rw [← HP.out]; exact hlt2
            obtain ⟨bk, ok, rfl, hkc⟩ := kids_at (HRK.out.below HBI.out) (by omega)
            have hx := hkc q hqr
            obtain ⟨t, ht, htk⟩ := hkids.out q hqr
            rw [ht] at hx
            have ht24 : (t : Int) < 24 := by omega
            have ht0 : (0 : Int) ≤ (t : Int) := by omega
            have cy := HYI.out.cell t
            rw [bRow_at _ (by omega)] at cy
            have fy := HYI.out.frozen t
            have HROW : Hid ((bRow (markKids B (r.kids.take q))).setIfInBounds t (.bool true) = bRow (markKids B (r.kids.take (q + 1)))) := by
              show _ = _
              rw [markKids_step hqr, ht, Int.toNat_natCast, bRow_set (by rw [markKids_len, HBL.out]; omega) (by rw [markKids_len, HBL.out])]
            clear hkc ht
            go_wp2_with fail
            go_roundw
            case rel => exact ⟨q + 1, by omega, by go_num, below_set HBI.out (by omega) _, by rw [← HROW.out]; exact HYI.out.set t _, HRI.out.setOther _ (by show w.heap.size + 1 ≠ w.heap.size + 1 + 1; omega) _, HXI.out.setOther _ (by show w.heap.size ≠ w.heap.size + 1 + 1; omega) _⟩
            case measure => simp [intOf]; omega
          · obtain rfl : q = p := by omega
            have hfull : r.kids.take q = r.kids := List.take_of_length_le (by rw [HP.out]; exact Nat.le_refl _)
            rw [hfull] at HYI
            clear hfull
            go_wp2_with fail
            go_roundw
            case rel => exact ⟨k, markKids B r.kids, by omega, by go_num, by rw [markKids_len]; exact HBL.out, HST.out, HYI.out, HRI.out, HXI.out, HBI.out⟩
            case measure => simp [intOf] <;> omega

set_option maxRecDepth 100000 in
set_option maxHeartbeats 8000000 in
theorem i_UsedRules (d : Value) (l : List RuleD) (m : Nat) (hval : validD l = true) (hm : m < l.length) (w : World) (hd : RdDesc w d l) :
    Calls Try.prog 14 #[d, .int .i64 m] w (Made 3 1 (usedL l m).length (cI (usedL l m)) w) := by
  obtain ⟨v, rfl, hv⟩ := hd
  obtain ⟨A, c, rfl, hnc, hcm, _⟩ := hv.all
  unfold maxLen at hcm
  have hl24 := (valid_len hval).2
  have hg := (validD_good hval).1
  have KN := Lib.hid (fun w h => show Calls Try.prog 26 #[.agg #[.slice A l.length c], .int .i64 m] w fun e w' => e = .returned (.bool true) ∧ Below w.heap.size w w' from by
    have := i_known (.agg #[.slice A l.length c]) l m (by omega) (good_fits (by omega) hg) (good_small (by omega) hg) w h
    rwa [hval, hasL_yes (by omega) (by omega)] at this)
  have US := Lib.hid (fun w h => i_usedRules (.agg #[.slice A l.length c]) l m hval hm w h)
  obtain ⟨F, hF⟩ : ∃ F, F = usedB l m := ⟨_, rfl⟩
  have hR : usedL l m = pickL F true l.length := by rw [hF]; rfl
  rw [hR]
  rw [← hF] at US
  obtain ⟨n, hn⟩ : ∃ n, n = l.length := ⟨_, rfl⟩
  have HV := Lib.hid (show ∀ w, RdRules w (.slice A l.length c) l → RdDesc w (.agg #[.slice A l.length c]) l from fun w h => ⟨_, rfl, h⟩)
  have HR := Lib.hid hv
  rw [← hn] at hnc hm hl24 KN US HV HR ⊢
  obtain ⟨w1, hw1⟩ : ∃ w1, w1 = (w.alloc (.cells #[.slice A n c] 26)).alloc (.cells #[] 3) := ⟨_, rfl⟩
  have x1 : Box w1 w.heap.size 26 #[.slice A n c] := by rw [hw1]; exact (Box.new w _ _).alloc _
  have e1 : Box w1 (w.heap.size + 1) 3 #[] := by rw [hw1]; exact box_new1 _ _ _ _
  have b1 : Below w.heap.size w w1 := by rw [hw1]; exact below_box.alloc (by simp) _
  have X1 := Lib.hid x1
  have O1 := Lib.hid (show w1.ownsRow w.heap.size 3 1 (.slice (some ⟨w.heap.size + 1, 0, none⟩) 0 0) 0 [] from own_empty e1 (by omega))
  have B1 := Lib.hid b1
  have c1 : ((w.alloc (.cells #[.slice A n c] 26)).alloc (.cells #[] 3)).cell? ⟨w.heap.size, 0, none⟩ = some (.slice A n c) := by rw [← hw1]; exact x1.cell 0
  have W1 := Lib.hid hw1
  obtain ⟨i0, hif, hz0, hz1, hz2⟩ := info_parts info_Int
  clear hF hR hn hv x1 e1 b1 hw1 hg hval
  go_enter Try.func14, Try.ntmps14
  go_wp2_with fail
  rw [← W1.out]
  refine (KN.out _ (HV.out _ (HR.out.below B1.out))).mono ?_
  rintro e w2 ⟨rfl, hb2⟩
  have B2 := Lib.hid (Below.then_ B1.out hb2 (Nat.le_refl _))
  have X2 := Lib.hid (X1.out.below hb2)
  have O2 := Lib.hid (own_below O1.out hb2)
  have c2 : w2.cell? ⟨w.heap.size, 0, none⟩ = some (.slice A n c) := X2.out.cell 0
  clear hb2 c1
  go_wp2_with fail
  refine (US.out _ (HV.out _ (HR.out.below B2.out))).mono ?_
  rintro e w3 ⟨rfl, hb3⟩
  have B3 := Lib.hid (Below.then_ B2.out hb3 (Nat.le_refl _))
  have X3 := Lib.hid (X2.out.below hb3)
  have O3 := Lib.hid (own_below O2.out hb3)
  have Y3 := Lib.hid (Box.new w3 50 #[.bool false, .bool false, .bool false, .bool false, .bool false, .bool false, .bool false, .bool false, .bool false, .bool false, .bool false, .bool false, .bool false, .bool false, .bool false, .bool false, .bool false, .bool false, .bool false, .bool false, .bool false, .bool false, .bool false, .bool false])
  have T3 := Lib.hid (Y3.out.there 24 (by simp))
  obtain ⟨w4, hw4⟩ : ∃ w4, w4 = (w3.alloc (.cells #[.bool false, .bool false, .bool false, .bool false, .bool false, .bool false, .bool false, .bool false, .bool false, .bool false, .bool false, .bool false, .bool false, .bool false, .bool false, .bool false, .bool false, .bool false, .bool false, .bool false, .bool false, .bool false, .bool false, .bool false] 50)).setCells w3.heap.size 0 (bRow F).toList := ⟨_, rfl⟩
  have Y4 := Lib.hid (show Box w4 w3.heap.size 50 (bRow F) by rw [hw4]; exact Y3.out.putRow (by rw [bRow_size]; rfl))
  have hb4 : Below w3.heap.size w3 w4 := by rw [hw4]; exact below_cells ((Below.refl _ _).alloc (Nat.le_refl _) _) (by simp) (Nat.le_refl _) _ _
  have B4 := Lib.hid (Below.then_ B3.out hb4 (Nat.le_refl _))
  have O4 := Lib.hid (own_below O3.out hb4)
  have X4 := Lib.hid (X3.out.below hb4)
  have c4 : w4.cell? ⟨w.heap.size, 0, none⟩ = some (.slice A n c) := X4.out.cell 0
  have W4 := Lib.hid hw4
  obtain ⟨g, hg⟩ : ∃ g, g = w3.heap.size := ⟨_, rfl⟩
  have HG := Lib.hid hg
  clear hb3 c2 hb4 hw4 hg
  go_wp2_with (refine wpList_store_mid rfl 50 (.tmp 6) (.tmp 16) rfl w3.heap.size 0 (bRow F) rfl rfl (by rw [bRow_size]; exact T3.out) (by rw [bRow_size]; kernel_rfl) (bRow_one F) ?_; rw [← W4.out, ← HG.out])
  rw [← HG.out] at Y4
  go_loopw [5, 20] (fun o i wr => ∃ q : Nat, q ≤ n ∧ i = .int .i64 q ∧ wr.ownsRow w.heap.size 3 1 o (pickL F true q).length (cI (pickL F true q)) ∧ Box wr g 50 (bRow F) ∧ Below w.heap.size w wr) (fun _ i _ => n - (intOf i).toNat)
  case atStart => exact ⟨0, Nat.zero_le _, rfl, by rw [pickL_zero]; exact O4.out, Y4.out, B4.out⟩
  case round =>
    obtain ⟨q, hq, rfl, hown, hyr, hbr⟩ := hrel
    have HO := Lib.hid hown
    have HY := Lib.hid hyr
    have HB := Lib.hid hbr
    have hple := pickL_le F true q
    obtain ⟨ks, hks⟩ : ∃ ks, ks = pickL F true q := ⟨_, rfl⟩
    rw [← hks] at HO hple
    have HKS := Lib.hid hks
    obtain ⟨p, hp⟩ : ∃ p, p = ks.length := ⟨_, rfl⟩
    rw [← hp] at HO hple
    have HP := Lib.hid hp
    clear hown hyr hbr hks hp
    by_cases hlt : q < n
    · have hqn : (q : Int) < (n : Int) := by omega
      have hq0 : (0 : Int) ≤ (q : Int) := by omega
      have hq24 : (q : Int) < 24 := by omega
      have cb : wr.cell? ⟨g, q, none⟩ = some (.bool (F.getD q false)) := by rw [HY.out.cell q]; exact bRow_at _ (by omega)
      obtain ⟨u, hu⟩ : ∃ u, u = F.getD q false := ⟨_, rfl⟩
      rw [← hu] at cb
      have HU := Lib.hid hu
      clear hu
      cases u
      · go_wp2_with fail
        go_roundw
        case rel => exact ⟨q + 1, by omega, by go_num, by rw [pickL_no (by rw [← HU.out]; simp), ← HKS.out, ← HP.out]; exact HO.out, HY.out, HB.out⟩
        case measure => simp [intOf]; omega
      · go_wp2_with (at_builtin; refine wpList_append_rd _ rfl (.tmp 26) (.tmp 28) 33 rfl w.heap.size 3 i0 (.int .i64 0) 1 8 Try.underlying33 hif hz0 hz1 hz2 rfl (by decide) _ p (cI ks) rfl (HO.out.alloc _) _ 1 (cI [(q : Int)]) rfl ?c1 (cI_one _) (by unfold maxLen; omega) (by omega) (by have := HB.out.size; simp; omega) ?_)
        case c1 => exact Rd.lit _ (cI [(q : Int)]) 3 1 rfl (by unfold maxLen; omega)
        intro v' w6 hown' hgrow' hpos'
        have Y6 := Lib.hid (Box.grown_own (HY.out.alloc (.cells #[.int .i64 (q : Int)] 3)) (HO.out.alloc _) (by decide) hgrow')
        have B6 := Lib.hid (own_grown_below (HB.out.alloc HB.out.size (.cells #[.int .i64 (q : Int)] 3)) (HO.out.alloc _) hgrow' (by have := HB.out.size; simp; omega) (Nat.le_refl _))
        have O6 := Lib.hid hown'
        clear hown' hgrow' hpos' cb
        go_wp2_with fail
        go_roundw
        case rel =>
          refine ⟨q + 1, by omega, by go_num, ?_, Y6.out, B6.out⟩
          rw [pickL_yes HU.out.symm, ← HKS.out]
          have h := O6.out
          rw [← cI_append] at h
          simpa [HP.out] using h
        case measure => simp [intOf]; omega
    · obtain rfl : q = n := by omega
      go_wp2_with fail
      go_ret
      exact ⟨_, rfl, by rw [← HKS.out, ← HP.out]; exact HO.out, HB.out⟩

theorem bRow_list (B : List Bool) : bRow B = ((List.range 24).map fun j => Value.bool (B.getD j false)).toArray := rfl

set_option maxRecDepth 100000 in
set_option maxHeartbeats 8000000 in
theorem i_UnusedRules (d : Value) (l : List RuleD) (m : Nat) (hval : validD l = true) (hm : l.length = m + 1) (w : World) (hd : RdDesc w d l) :
    Calls Try.prog 15 #[d] w (Made 3 1 (restL l m).length (cI (restL l m)) w) := by
  obtain ⟨v, rfl, hv⟩ := hd
  obtain ⟨A, c, rfl, hnc, hcm, _⟩ := hv.all
  unfold maxLen at hcm
  have hl24 := (valid_len hval).2
  have hg := (validD_good hval).1
  have IV := Lib.hid (fun w h => show Calls Try.prog 7 #[.agg #[.slice A l.length c]] w fun e w' => e = .returned (.bool true) ∧ Below w.heap.size w w' from by
    have := i_IsValidDescription (.agg #[.slice A l.length c]) l (good_fits (by omega) hg) (good_small (by omega) hg) w h
    rwa [hval] at this)
  have RO := Lib.hid (fun w h => show Calls Try.prog 8 #[.agg #[.slice A l.length c]] w fun e w' => e = .returned (.int .i64 (m : Int)) ∧ Below w.heap.size w w' from by
    have := i_RootOf (.agg #[.slice A l.length c]) l w h
    rwa [show (l.length : Int) - 1 = (m : Int) by omega] at this)
  have us := fun w h => i_usedRules (.agg #[.slice A l.length c]) l m hval (by omega) w h
  obtain ⟨F, hF⟩ : ∃ F, F = usedB l m := ⟨_, rfl⟩
  have hR : restL l m = pickL F false l.length := by rw [hF]; rfl
  rw [hR]
  rw [← hF] at us
  have hone : ∀ v ∈ (bRow F).toList, v.oneCell' = true := by
    intro v hv
    exact (Array.all_eq_true_iff_forall_mem.1 (bRow_one F)) v (by simpa using hv)
  obtain ⟨cs, hcs⟩ : ∃ cs, cs = (bRow F).toList := ⟨_, rfl⟩
  have hrow : bRow F = cs.toArray := by rw [hcs]
  rw [hrow] at us
  rw [← hcs] at hone
  have hlen : cs.length = 24 := by rw [hcs]; simp [bRow]
  have hinf : (Try.prog.info? 50).map (·.size) = some cs.length := by rw [hlen]; kernel_rfl
  have US := Lib.hid us
  obtain ⟨n, hn⟩ : ∃ n, n = l.length := ⟨_, rfl⟩
  have HV := Lib.hid (show ∀ w, RdRules w (.slice A l.length c) l → RdDesc w (.agg #[.slice A l.length c]) l from fun w h => ⟨_, rfl, h⟩)
  have HR := Lib.hid hv
  have HROW := Lib.hid hrow
  rw [← hn] at hnc hm hl24 IV RO US HV HR ⊢
  obtain ⟨w1, hw1⟩ : ∃ w1, w1 = (w.alloc (.cells #[.slice A n c] 26)).alloc (.cells #[] 3) := ⟨_, rfl⟩
  have x1 : Box w1 w.heap.size 26 #[.slice A n c] := by rw [hw1]; exact (Box.new w _ _).alloc _
  have e1 : Box w1 (w.heap.size + 1) 3 #[] := by rw [hw1]; exact box_new1 _ _ _ _
  have b1 : Below w.heap.size w w1 := by rw [hw1]; exact below_box.alloc (by simp) _
  have X1 := Lib.hid x1
  have O1 := Lib.hid (show w1.ownsRow w.heap.size 3 1 (.slice (some ⟨w.heap.size + 1, 0, none⟩) 0 0) 0 [] from own_empty e1 (by omega))
  have B1 := Lib.hid b1
  have c1 : ((w.alloc (.cells #[.slice A n c] 26)).alloc (.cells #[] 3)).cell? ⟨w.heap.size, 0, none⟩ = some (.slice A n c) := by rw [← hw1]; exact x1.cell 0
  have W1 := Lib.hid hw1
  obtain ⟨i0, hif, hz0, hz1, hz2⟩ := info_parts info_Int
  have HM := Lib.hid hm
  clear hF hR hn hv x1 e1 b1 hw1 hg hval us hcs hrow hm
  go_enter Try.func15, Try.ntmps15
  go_wp2_with fail
  rw [← W1.out]
  refine (IV.out _ (HV.out _ (HR.out.below B1.out))).mono ?_
  rintro e w2 ⟨rfl, hb2⟩
  have B2 := Lib.hid (Below.then_ B1.out hb2 (Nat.le_refl _))
  have X2 := Lib.hid (X1.out.below hb2)
  have O2 := Lib.hid (own_below O1.out hb2)
  have c2 : w2.cell? ⟨w.heap.size, 0, none⟩ = some (.slice A n c) := X2.out.cell 0
  clear hb2 c1
  go_wp2_with fail
  have th0 : ∀ W : World, (W.alloc (.cells #[.bool false, .bool false, .bool false, .bool false, .bool false, .bool false, .bool false, .bool false, .bool false, .bool false, .bool false, .bool false, .bool false, .bool false, .bool false, .bool false, .bool false, .bool false, .bool false, .bool false, .bool false, .bool false, .bool false, .bool false] 50)).there W.heap.size 0 24 := fun W => (Box.new W 50 #[.bool false, .bool false, .bool false, .bool false, .bool false, .bool false, .bool false, .bool false, .bool false, .bool false, .bool false, .bool false, .bool false, .bool false, .bool false, .bool false, .bool false, .bool false, .bool false, .bool false, .bool false, .bool false, .bool false, .bool false]).there 24 (by simp)
  have TH0 := Lib.hid th0
  have th1 : (w2.drew.alloc (.cells #[.bool false, .bool false, .bool false, .bool false, .bool false, .bool false, .bool false, .bool false, .bool false, .bool false, .bool false, .bool false, .bool false, .bool false, .bool false, .bool false, .bool false, .bool false, .bool false, .bool false, .bool false, .bool false, .bool false, .bool false] 50)).there w2.heap.size 0 24 := th0 w2.drew
  clear th0
  have lt2 : w.heap.size < w2.heap.size := X2.out.lt
  go_cut [4] (fun s4 wx => ∃ g, s4 = .pointer (some ⟨g, 0, none⟩) ∧ w2.heap.size ≤ g ∧ Box wx g 50 cs.toArray ∧ Below w2.heap.size w2 wx)
  case first =>
    go_region_held3 (fun W => W.cell? ⟨w.heap.size, 0, none⟩ = some (.slice A n c))
      (first | go_keep | (exact XK.out.cell 0) | (exact (XK.out.alloc _).cell 0) | (exact (X2.out.drewN 1).cell 0) | (exact ((X2.out.drewN 1).alloc _).cell 0) | (exact ((XK.out.alloc _).grown (grown_cells _ _ _ _) (by intro e; injection e with e; omega)).cell 0) | (exact (XK.out.grown (grown_cells _ _ _ _) (by intro e; injection e with e; omega)).cell 0))
      (first
        | (go_at_call 8; refine (RO.out _ (HV.out _ (HR.out.below (Below.then_ B2.out (show Below w2.heap.size w2 _ from (by first | exact (Below.refl _ _).drew | exact ((Below.refl _ _).drew).alloc (Nat.le_refl _) _)) (Nat.le_refl _))))).mono ?_; rintro e wR ⟨rfl, hbR⟩; have BK := Lib.hid (Below.then_ (show Below w2.heap.size w2 _ from (by first | exact (Below.refl _ _).drew | exact ((Below.refl _ _).drew).alloc (Nat.le_refl _) _)) hbR (by simp)); have XK := Lib.hid (X2.out.below BK.out); have ltR : w.heap.size < wR.heap.size := XK.out.lt; (try (have YK := Lib.hid (show Box wR w2.heap.size 50 #[.bool false, .bool false, .bool false, .bool false, .bool false, .bool false, .bool false, .bool false, .bool false, .bool false, .bool false, .bool false, .bool false, .bool false, .bool false, .bool false, .bool false, .bool false, .bool false, .bool false, .bool false, .bool false, .bool false, .bool false] from (Box.new w2.drew 50 #[.bool false, .bool false, .bool false, .bool false, .bool false, .bool false, .bool false, .bool false, .bool false, .bool false, .bool false, .bool false, .bool false, .bool false, .bool false, .bool false, .bool false, .bool false, .bool false, .bool false, .bool false, .bool false, .bool false, .bool false]).below hbR))); clear hbR)
        | (go_at_call 27; refine (US.out _ (HV.out _ (HR.out.below (Below.then_ B2.out (show Below w2.heap.size w2 _ from (by first | exact BK.out | exact BK.out.alloc BK.out.size _)) (Nat.le_refl _))))).mono ?_; rintro e wU ⟨rfl, hbU⟩; have BU := Lib.hid (Below.then_ (show Below w2.heap.size w2 _ from (by first | exact BK.out | exact BK.out.alloc BK.out.size _)) hbU (by first | exact BK.out.size | (have := BK.out.size; simp <;> omega))); (first | (have YU := Lib.hid (YK.out.below hbU); have tU := YU.out.there 24 (by simp)) | (have YU := Lib.hid ((Box.new wR 50 #[.bool false, .bool false, .bool false, .bool false, .bool false, .bool false, .bool false, .bool false, .bool false, .bool false, .bool false, .bool false, .bool false, .bool false, .bool false, .bool false, .bool false, .bool false, .bool false, .bool false, .bool false, .bool false, .bool false, .bool false]).below hbU); have tU := YU.out.there 24 (by simp)) | (have tU := TH0.out wU; have YU := Lib.hid (Box.new wU 50 #[.bool false, .bool false, .bool false, .bool false, .bool false, .bool false, .bool false, .bool false, .bool false, .bool false, .bool false, .bool false, .bool false, .bool false, .bool false, .bool false, .bool false, .bool false, .bool false, .bool false, .bool false, .bool false, .bool false, .bool false]))); have XK := Lib.hid (X2.out.below BU.out); have ltU : w.heap.size < wU.heap.size := XK.out.lt; clear hbU))
    all_goals
      go_wp2_with fail
      go_meet
      first
        | exact ⟨_, rfl, BU.out.size, YU.out.putRow (by rw [List.size_toArray, hlen]; rfl), below_cells (BU.out.alloc BU.out.size _) (by have := BU.out.size; simp <;> omega) BU.out.size 0 _⟩
        | exact ⟨_, rfl, BK.out.size, YU.out.putRow (by rw [List.size_toArray, hlen]; rfl), below_cells BU.out BU.out.size BK.out.size 0 _⟩
        | exact ⟨_, rfl, Nat.le_refl _, YU.out.putRow (by rw [List.size_toArray, hlen]; rfl), below_cells BU.out BU.out.size (Nat.le_refl _) 0 _⟩
  case rest =>
    obtain ⟨g, rfl, hg2, hy4, hb4⟩ := hcut
    rename World => w4
    have Y4 := Lib.hid (show Box w4 g 50 (bRow F) by rw [HROW.out]; exact hy4)
    have B4 := Lib.hid (Below.then_ B2.out hb4 (Nat.le_refl _))
    have O4 := Lib.hid (own_below O2.out hb4)
    have X4 := Lib.hid (X2.out.below hb4)
    have c4 : w4.cell? ⟨w.heap.size, 0, none⟩ = some (.slice A n c) := X4.out.cell 0
    clear hg2 hy4 hb4 c2
    go_wp2_with fail
    go_loopw [3, 18] (fun o i wr => ∃ q : Nat, q ≤ n ∧ i = .int .i64 q ∧ wr.ownsRow w.heap.size 3 1 o (pickL F false q).length (cI (pickL F false q)) ∧ Box wr g 50 (bRow F) ∧ Below w.heap.size w wr) (fun _ i _ => n - (intOf i).toNat)
    case atStart => exact ⟨0, Nat.zero_le _, rfl, by rw [pickL_zero]; exact O4.out, Y4.out, B4.out⟩
    case round =>
      obtain ⟨q, hq, rfl, hown, hyr, hbr⟩ := hrel
      have HO := Lib.hid hown
      have HY := Lib.hid hyr
      have HB := Lib.hid hbr
      have hple := pickL_le F false q
      obtain ⟨ks, hks⟩ : ∃ ks, ks = pickL F false q := ⟨_, rfl⟩
      rw [← hks] at HO hple
      have HKS := Lib.hid hks
      obtain ⟨p, hp⟩ : ∃ p, p = ks.length := ⟨_, rfl⟩
      rw [← hp] at HO hple
      have HP := Lib.hid hp
      clear hown hyr hbr hks hp
      by_cases hlt : q < n
      · have hqn : (q : Int) < (n : Int) := by omega
        have hq0 : (0 : Int) ≤ (q : Int) := by omega
        have hq24 : (q : Int) < 24 := by omega
        have cb : wr.cell? ⟨g, q, none⟩ = some (.bool (F.getD q false)) := by rw [HY.out.cell q]; exact bRow_at _ (by omega)
        obtain ⟨u, hu⟩ : ∃ u, u = F.getD q false := ⟨_, rfl⟩
        rw [← hu] at cb
        have HU := Lib.hid hu
        clear hu
        cases u
        · go_wp2_with (at_builtin; refine wpList_append_rd _ rfl (.tmp 25) (.tmp 27) 33 rfl w.heap.size 3 i0 (.int .i64 0) 1 8 Try.underlying33 hif hz0 hz1 hz2 rfl (by decide) _ p (cI ks) rfl (HO.out.alloc _) _ 1 (cI [(q : Int)]) rfl ?c1 (cI_one _) (by unfold maxLen; omega) (by omega) (by have := HB.out.size; simp; omega) ?_)
          case c1 => exact Rd.lit _ (cI [(q : Int)]) 3 1 rfl (by unfold maxLen; omega)
          intro v' w6 hown' hgrow' hpos'
          have Y6 := Lib.hid (Box.grown_own (HY.out.alloc (.cells #[.int .i64 (q : Int)] 3)) (HO.out.alloc _) (by decide) hgrow')
          have B6 := Lib.hid (own_grown_below (HB.out.alloc HB.out.size (.cells #[.int .i64 (q : Int)] 3)) (HO.out.alloc _) hgrow' (by have := HB.out.size; simp; omega) (Nat.le_refl _))
          have O6 := Lib.hid hown'
          clear hown' hgrow' hpos' cb
          go_wp2_with fail
          go_roundw
          case rel =>
            refine ⟨q + 1, by omega, by go_num, ?_, Y6.out, B6.out⟩
            rw [pickL_yes HU.out.symm, ← HKS.out]
            have h := O6.out
            rw [← cI_append] at h
            simpa [HP.out] using h
          case measure => simp [intOf]; omega
        · go_wp2_with fail
          go_roundw
          case rel => exact ⟨q + 1, by omega, by go_num, by rw [pickL_no (b := false) (by rw [← HU.out]; simp), ← HKS.out, ← HP.out]; exact HO.out, HY.out, HB.out⟩
          case measure => simp [intOf]; omega
      · obtain rfl : q = n := by omega
        go_wp2_with fail
        go_ret
        exact ⟨_, rfl, by rw [← HKS.out, ← HP.out]; exact HO.out, HB.out⟩

set_option maxRecDepth 100000 in
set_option maxHeartbeats 8000000 in
theorem i_IsBinaryOnly (d : Value) (l : List RuleD) (m : Nat) (hval : validD l = true) (hm : l.length = m + 1) (w : World) (hd : RdDesc w d l) :
    Calls Try.prog 17 #[d] w fun e w' => e = .returned (.bool (notTen l (usedL l m))) ∧ Below w.heap.size w w' := by
  obtain ⟨v, rfl, hv⟩ := hd
  obtain ⟨A, c, rfl, hnc, hcm, hcell⟩ := hv.all
  unfold maxLen at hcm
  have hl24 := (valid_len hval).2
  have hg := (validD_good hval).1
  have IV := Lib.hid (fun w h => show Calls Try.prog 7 #[.agg #[.slice A l.length c]] w fun e w' => e = .returned (.bool true) ∧ Below w.heap.size w w' from by
    have := i_IsValidDescription (.agg #[.slice A l.length c]) l (good_fits (by omega) hg) (good_small (by omega) hg) w h
    rwa [hval] at this)
  have RO := Lib.hid (fun w h => show Calls Try.prog 8 #[.agg #[.slice A l.length c]] w fun e w' => e = .returned (.int .i64 (m : Int)) ∧ Below w.heap.size w w' from by
    have := i_RootOf (.agg #[.slice A l.length c]) l w h
    rwa [show (l.length : Int) - 1 = (m : Int) by omega] at this)
  have us := fun w h => i_UsedRules (.agg #[.slice A l.length c]) l m hval (by omega) w h
  have hmem : ∀ x ∈ usedL l m, 0 ≤ x ∧ x < (l.length : Int) := fun x hx => by
    have := pickL_mem.1 hx
    exact ⟨this.1, this.2.1⟩
  have hle := pickL_le (usedB l m) true l.length
  obtain ⟨us0, hus⟩ : ∃ us0, us0 = usedL l m := ⟨_, rfl⟩
  have hle' : us0.length ≤ 24 := by rw [hus]; unfold usedL; omega
  rw [← hus] at us hmem ⊢
  obtain ⟨p, hp⟩ : ∃ p, p = us0.length := ⟨_, rfl⟩
  rw [← hp] at us hle'
  have US := Lib.hid us
  have HMEM := Lib.hid hmem
  have HP := Lib.hid hp
  obtain ⟨n, hn⟩ : ∃ n, n = l.length := ⟨_, rfl⟩
  have HN := Lib.hid hn
  have HV := Lib.hid (show ∀ w, RdRules w (.slice A l.length c) l → RdDesc w (.agg #[.slice A l.length c]) l from fun w h => ⟨_, rfl, h⟩)
  have HR := Lib.hid hv
  have HC := Lib.hid hcell
  rw [← hn] at hnc hl24 IV RO US HV HR hm HMEM ⊢
  obtain ⟨w1, hw1⟩ : ∃ w1, w1 = w.alloc (.cells #[.slice A n c] 26) := ⟨_, rfl⟩
  have X1 := Lib.hid (show Box w1 w.heap.size 26 #[.slice A n c] by rw [hw1]; exact Box.new w _ _)
  have B1 := Lib.hid (show Below w.heap.size w w1 by rw [hw1]; exact below_box)
  have c1 : (w.alloc (.cells #[.slice A n c] 26)).cell? ⟨w.heap.size, 0, none⟩ = some (.slice A n c) := (Box.new w _ _).cell 0
  have W1 := Lib.hid hw1
  obtain ⟨R, hR⟩ : ∃ R, R = notTen l us0 := ⟨_, rfl⟩
  rw [← hR]
  have HRR := Lib.hid hR
  clear hn hv hcell hw1 hg hval us hus hmem hle hp hm hR
  go_enter Try.func17, Try.ntmps17
  go_wp2_with fail
  rw [← W1.out]
  refine (IV.out _ (HV.out _ (HR.out.below B1.out))).mono ?_
  rintro e w2 ⟨rfl, hb2⟩
  have B2 := Lib.hid (Below.then_ B1.out hb2 (Nat.le_refl _))
  have X2 := Lib.hid (X1.out.below hb2)
  have c2 : w2.cell? ⟨w.heap.size, 0, none⟩ = some (.slice A n c) := X2.out.cell 0
  clear hb2 c1
  go_wp2_with fail
  go_cut [11, 12, 13] (fun s11 s12 s13 wx => ∃ A' c', s11 = .slice A' p c' ∧ s12 = .int .i64 p ∧ s13 = .int .i64 0 ∧ Rd wx (.slice A' p c') 1 p (cI us0) ∧ Below w2.heap.size w2 wx)
  case first =>
    go_region_held3 (fun W => W.cell? ⟨w.heap.size, 0, none⟩ = some (.slice A n c))
      (first | go_keep | (exact XK.out.cell 0) | (exact (X2.out.drewN 1).cell 0))
      (first
        | (go_at_call 8; refine (RO.out _ (HV.out _ (HR.out.below (Below.then_ B2.out (Below.refl _ _).drew (Nat.le_refl _))))).mono ?_; rintro e wR ⟨rfl, hbR⟩; have BK := Lib.hid (Below.then_ (Below.refl w2.heap.size w2).drew hbR (Nat.le_refl _)); have XK := Lib.hid (X2.out.below BK.out); clear hbR)
        | (go_at_call 14; refine (US.out _ (HV.out _ (HR.out.below (Below.then_ B2.out BK.out (Nat.le_refl _))))).mono ?_; rintro e wU ⟨vU, rfl, hoU, hbU⟩; have BU := Lib.hid (Below.then_ BK.out hbU (Nat.le_refl _)); obtain ⟨_, AU, cU, rfl, hU⟩ := Rd.of_own hoU; have RU := Lib.hid (Rd.of_own hoU); have XK := Lib.hid (X2.out.below BU.out); clear hbU hoU hU))
    all_goals
      go_wp2_with fail
      go_meet
      exact ⟨_, _, rfl, rfl, rfl, RU.out, BU.out⟩
  case rest =>
    obtain ⟨AU, cU, rfl, rfl, rfl, hru, hb4⟩ := hcut
    rename World => w4
    have RU := Lib.hid hru
    have B4 := Lib.hid (Below.then_ B2.out hb4 (Nat.le_refl _))
    have X4 := Lib.hid (X2.out.below hb4)
    clear hru hb4 c2
    go_wp2_with fail
    go_loopw [13] (fun i wr => ∃ q : Nat, q ≤ p ∧ i = .int .i64 q ∧ notTen l (us0.take q) = true ∧ Below w4.heap.size w4 wr) (fun i _ => p - (intOf i).toNat)
    case atStart => exact ⟨0, Nat.zero_le _, rfl, by rw [List.take_zero]; rfl, Below.refl _ _⟩
    case round =>
      obtain ⟨q, hq, rfl, hno, hbr⟩ := hrel
      have HNO := Lib.hid hno
      have HBR := Lib.hid hbr
      have cx : wr.cell? ⟨w.heap.size, 0, none⟩ = some (.slice A n c) := (X4.out.below hbr).cell 0
      clear hno hbr
      by_cases hlt : q < p
      · have hqu : q < us0.length := by rw [← HP.out]; exact hlt
        obtain ⟨bk, ok, rfl, hkc⟩ := kids_at (by have h := RU.out.below HBR.out; rw [HP.out] at h; exact h) (by omega)
        have hx := hkc q hqu
        obtain ⟨k, hk, hkl⟩ : ∃ k : Nat, us0[q] = (k : Int) ∧ k < n := by
          have := HMEM.out us0[q] (List.getElem_mem hqu)
          exact ⟨us0[q].toNat, by omega, by omega⟩
        have HK := Lib.hid hk
        rw [hk] at hx
        have hkl' : k < l.length := by rw [← HN.out]; exact hkl
        obtain ⟨b, off, rfl, hcs⟩ := HC.out (by omega)
        obtain ⟨vb, vn, vt, vk, hr⟩ := hcs k hkl'
        obtain ⟨r, hr0⟩ : ∃ r, r = l[k] := ⟨_, rfl⟩
        rw [← hr0] at hr
        have HRA := Lib.hid (show ruleAt l (k : Int) = r by rw [hr0]; exact ruleAt_eq hkl')
        have D1 := ((hr.below B4.out).below HBR.out).eight.2.1
        have hkn : (k : Int) < (n : Int) := by omega
        have hk0 : (0 : Int) ≤ (k : Int) := by omega
        clear hkc hk hcs hr hr0
        by_cases h10 : r.kind = 10
        · have e1 : (r.kind == 10) = true := by simpa using h10
          have hfin : Hid (false = R) := by show _ = _; rw [HRR.out, notTen_bad hqu (by rw [HK.out, HRA.out]; exact h10)]
          clear h10
          go_wp2_with fail
          go_ret
          exact ⟨ret_bool hfin.out, Below.then_ B4.out HBR.out (Nat.le_refl _)⟩
        · have e1 : (r.kind == 10) = false := by simpa using h10
          have hst : Hid (notTen l (us0.take (q + 1)) = true) := by
            show _ = _
            rw [notTen_step hqu, HNO.out, HK.out, HRA.out]
            simpa using h10
          clear h10
          go_wp2_with fail
          go_roundw
          case rel => exact ⟨q + 1, by omega, by go_num, hst.out, HBR.out⟩
          case measure => simp [intOf]; omega
      · obtain rfl : q = p := by omega
        have hfin : Hid (true = R) := by
          show _ = _
          rw [HRR.out, ← HNO.out, HP.out, List.take_length]
        go_wp2_with fail
        go_ret
        exact ⟨ret_bool hfin.out, Below.then_ B4.out HBR.out (Nat.le_refl _)⟩

end Go.Proofs.Ytabdcngkdgadfaa
