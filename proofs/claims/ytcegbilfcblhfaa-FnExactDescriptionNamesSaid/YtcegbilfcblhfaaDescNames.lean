/-
  DescriptionNames, of the program and of the reference.
-/
import Derived.Test.YtcegbilfcblhfaaDescRead
import Derived.Test.YtcegbilfcblhfaaToString
import Derived.Test.YtcegbilfcblhfaaAppend
import Derived.OwnWalk
namespace Go.Proofs.Ytcegbilfcblhfaa
open Go.RowKit
set_option linter.unusedVariables false

def namesL (l : List RuleD) : List ByteArray := l.map (·.name)
theorem namesL_len (l : List RuleD) : (namesL l).length = l.length := by simp [namesL]
theorem namesL_step {l : List RuleD} {k : Nat} (h : k < l.length) : cS (namesL (l.take (k + 1))) = cS (namesL (l.take k)) ++ cS [l[k].name] := by
  unfold namesL cS
  rw [List.take_succ_eq_append_getElem h, List.map_append, List.map_append]
  rfl

set_option maxHeartbeats 4000000 in
theorem i_DescriptionNames (d : Value) (l : List RuleD) (hn : l.length ≤ 1048576) (w : World) (hd : RdDesc w d l) :
    Calls Try.prog 31 #[d] w (Made 9 1 l.length (cS (namesL l)) w) := by
  obtain ⟨v, rfl, hv⟩ := hd
  obtain ⟨A, c, rfl, hnc, hcm, hcell⟩ := hv.all
  unfold maxLen at hcm
  have HC := Lib.hid hcell
  clear hcell hv
  obtain ⟨n, hnl⟩ : ∃ n, n = l.length := ⟨_, rfl⟩
  have HN := Lib.hid hnl
  have hn' : n ≤ 1048576 := by omega
  rw [← hnl] at hnc ⊢
  clear hnl hn
  obtain ⟨i0, hi, hz0, hz1, hz2⟩ := info_parts info_String
  go_enter Try.func31, Try.ntmps31
  go_wp2_with fail
  obtain ⟨w0, hw0⟩ : ∃ w0, w0 = (w.alloc (.cells #[.slice A n c] 29)) := ⟨_, rfl⟩
  have hown0 := World.ownsRow_lit (base := w.heap.size) (e := 9) (size := 1) (w.alloc (.cells #[.slice A n c] 29)) #[] 0 (by simp) (Nat.zero_le _) rfl
  have HB0 := Lib.hid ((below_box (w := w) (v := .slice A n c) (t := 29)).alloc (by simp) (.cells #[] 9))
  have HO0 := Lib.hid hown0
  clear hown0 hw0
  go_loopw [3, 10] (fun o i wr => ∃ k : Nat, k ≤ n ∧ i = .int .i64 k ∧ wr.ownsRow w.heap.size 9 1 o k (cS (namesL (l.take k))) ∧ Below w.heap.size w wr) (fun _ i _ => n - (intOf i).toNat)
  case atStart => exact ⟨0, Nat.zero_le _, rfl, by simpa [namesL, cS] using HO0.out, HB0.out⟩
  case round =>
    obtain ⟨k, hk, rfl, hownr, hbr⟩ := hrel
    by_cases hlt : k < n
    · have hkl : k < l.length := by rw [← HN.out]; exact hlt
      obtain ⟨b, off, rfl, hc⟩ := HC.out (by omega)
      obtain ⟨vb, vn, vt, vk, hr⟩ := hc k hkl
      obtain ⟨⟨Ab, cb, rfl⟩, ⟨An, cn, rfl⟩, ⟨At, ct, rfl⟩, ⟨Ak, ck, rfl⟩⟩ := hr.slices
      obtain ⟨D0, D1, D2, D3, D4, D5, D6, D7⟩ := (hr.below hbr).eight
      have HST := Lib.hid (namesL_step hkl)
      obtain ⟨r, hr0⟩ : ∃ r, r = l[k] := ⟨_, rfl⟩
      rw [← hr0] at D0 D1 D2 D3 D4 D5 D6 D7 HST
      have HB := Lib.hid hbr
      have HO := Lib.hid hownr
      have hlit := Rd.lit (wr.alloc (.cells #[.string r.name, .int .i64 r.kind, .int .i64 r.size, .bool r.little, .slice Ab r.bytes.length cb, .slice An r.names.length cn, .slice At r.tags.length ct, .slice Ak r.kids.length ck] 56)) (cS [r.name]) 9 1 rfl (by unfold maxLen; omega)
      rw [show (wr.alloc (.cells #[.string r.name, .int .i64 r.kind, .int .i64 r.size, .bool r.little, .slice Ab r.bytes.length cb, .slice An r.names.length cn, .slice At r.tags.length ct, .slice Ak r.kids.length ck] 56)).heap.size = wr.heap.size + 1 from by simp] at hlit
      have HL := Lib.hid hlit
      clear hr hc hbr hr0 hownr hlit
      go_wp2_with (at_builtin; refine wpList_append_rd _ rfl (.tmp 14) (.tmp 17) 41 rfl w.heap.size 9 i0 (.string ⟨#[]⟩) 1 16 Try.underlying41 hi hz0 hz1 hz2 rfl (by decide) _ k (cS (namesL (l.take k))) rfl ((HO.out.alloc _).alloc _) _ 1 (cS [r.name]) rfl ?c1 (cS_one _) (by unfold maxLen; omega) (by omega) (by have := HB.out.size; simp; omega) ?_)
      case c1 => exact HL.out
      intro v' w' hown' hgrow' _
      have HB' : Hid (Below w.heap.size w w') := own_grown_below ((HB.out.alloc HB.out.size _).alloc (by have := HB.out.size; simp; omega) _) ((HO.out.alloc _).alloc _) hgrow' (by have := HB.out.size; simp; omega) (Nat.le_refl _)
      have HO' := Lib.hid hown'
      clear hgrow' hown' D0 D1 D2 D3 D4 D5 D6 D7
      go_wp2_with fail
      go_roundw
      case rel => exact ⟨k + 1, by omega, by go_num, by rw [HST.out]; exact HO'.out, HB'.out⟩
      case measure => simp [intOf]; omega
    · obtain rfl : k = n := by omega
      have HO := Lib.hid hownr
      have HB := Lib.hid hbr
      clear hownr hbr
      go_wp2_with fail
      go_ret
      refine ⟨_, rfl, ?_, HB.out⟩
      have h := HO.out
      rwa [HN.out, List.take_length, ← HN.out] at h

set_option maxHeartbeats 4000000 in
theorem s_DescriptionNames (d : Value) (l : List RuleD) (hn : l.length ≤ 1048576) (w : World) (hd : RdDesc w d l) :
    Calls Try.prog 30 #[d] w (Made 9 1 l.length (cS (namesL l)) w) := by
  obtain ⟨v, rfl, hv⟩ := hd
  obtain ⟨A, c, rfl, hnc, hcm, hcell⟩ := hv.all
  unfold maxLen at hcm
  have HC := Lib.hid hcell
  clear hcell hv
  obtain ⟨n, hnl⟩ : ∃ n, n = l.length := ⟨_, rfl⟩
  have HN := Lib.hid hnl
  have hn' : n ≤ 1048576 := by omega
  rw [← hnl] at hnc ⊢
  clear hnl hn
  obtain ⟨i0, hi, hz0, hz1, hz2⟩ := info_parts info_String
  obtain ⟨w0, hw0⟩ : ∃ w0, w0 = (w.alloc (.cells #[.slice A n c] 29)) := ⟨_, rfl⟩
  have hb0 : Below w.heap.size w w0 := by rw [hw0]; exact below_box
  have hz : w0.heap.size = w.heap.size + 1 := by rw [hw0]; simp
  have hx0 : Box w0 w.heap.size 29 #[.slice A n c] := by rw [hw0]; exact Box.new _ _ _
  have hown0 := World.ownsRow_lit (base := w0.heap.size) (e := 9) (size := 1) w0 #[] 0 (Nat.le_refl _) (Nat.zero_le _) rfl
  have HB0 := Lib.hid ((Below.refl w0.heap.size w0).alloc (Nat.le_refl _) (.cells #[] 9))
  have HO0 := Lib.hid hown0
  have HX0 := Lib.hid hx0
  have HW0 := Lib.hid hw0
  have HZ := Lib.hid hz
  have HBB := Lib.hid hb0
  clear hown0 hw0 hx0 hz hb0
  go_enter Try.func30, Try.ntmps30
  go_wp2_with fail
  rw [← HW0.out]
  go_loopw [3, 4] (fun o i wr => ∃ k : Nat, k ≤ n ∧ i = .int .i64 k ∧ wr.ownsRow w0.heap.size 9 1 o k (cS (namesL (l.take k))) ∧ Below w0.heap.size w0 wr) (fun _ i _ => n - (intOf i).toNat)
  case atStart => exact ⟨0, Nat.zero_le _, rfl, by simpa [namesL, cS, HZ.out] using HO0.out, HB0.out⟩
  case round =>
    obtain ⟨k, hk, rfl, hownr, hbr⟩ := hrel
    have hx : wr.cell? ⟨w.heap.size, 0, none⟩ = some (.slice A n c) := (HX0.out.below hbr).cell 0
    by_cases hlt : k < n
    · have hkl : k < l.length := by rw [← HN.out]; exact hlt
      obtain ⟨b, off, rfl, hc⟩ := HC.out (by omega)
      obtain ⟨vb, vn, vt, vk, hr⟩ := hc k hkl
      have D0 := ((hr.below HBB.out).below hbr).c0
      have HST := Lib.hid (namesL_step hkl)
      obtain ⟨r, hr0⟩ : ∃ r, r = l[k] := ⟨_, rfl⟩
      rw [← hr0] at D0 HST
      have HB := Lib.hid hbr
      have HO := Lib.hid hownr
      clear hr hc hbr hr0 hownr
      go_wp2_with (at_builtin; refine wpList_append_rd _ rfl (.tmp 13) (.tmp 20) 41 rfl w0.heap.size 9 i0 (.string ⟨#[]⟩) 1 16 Try.underlying41 hi hz0 hz1 hz2 rfl (by decide) _ k (cS (namesL (l.take k))) rfl (HO.out.alloc _) _ 1 (cS [r.name]) rfl ?c1 (cS_one _) (by unfold maxLen; omega) (by omega) (by have := HB.out.size; simp; omega) ?_)
      case c1 => exact Rd.lit _ (cS [r.name]) 9 1 rfl (by unfold maxLen; omega)
      intro v' w' hown' hgrow' _
      have HB' : Hid (Below w0.heap.size w0 w') := own_grown_below (HB.out.alloc HB.out.size _) (HO.out.alloc _) hgrow' (by have := HB.out.size; simp; omega) (Nat.le_refl _)
      have HO' := Lib.hid hown'
      clear hgrow' hown' D0 hx
      go_wp2_with fail
      go_roundw
      case rel => exact ⟨k + 1, by omega, by go_num, by rw [HST.out]; exact HO'.out, HB'.out⟩
      case measure => simp [intOf]; omega
    · obtain rfl : k = n := by omega
      have HO := Lib.hid hownr
      have HB := Lib.hid hbr
      clear hownr hbr
      go_wp2_with fail
      go_ret
      refine ⟨_, rfl, ?_, Below.then_ HBB.out HB.out (Nat.le_refl _)⟩
      have h := HO.out
      rw [HN.out, List.take_length, ← HN.out] at h
      exact own_mono h (by rw [HZ.out]; omega)

end Go.Proofs.Ytcegbilfcblhfaa
