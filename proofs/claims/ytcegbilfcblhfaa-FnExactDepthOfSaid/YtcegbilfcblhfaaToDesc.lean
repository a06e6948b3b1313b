/-
  toRuleS, toDescription: a copy of a description, in new memory.
-/
import Derived.Test.YtcegbilfcblhfaaToRule
namespace Go.Proofs.Ytcegbilfcblhfaa
open Go.RowKit

theorem info_Rule : (Try.prog.info? 56).map (fun i => (i.zero, i.size, i.bytes)) = some (some (.agg #[.string ⟨#[]⟩, .int .i64 0, .int .i64 0, .bool false, .slice none 0 0, .slice none 0 0, .slice none 0 0, .slice none 0 0]), 8, 136) := by kernel_rfl

def setMany : List Value → Nat → List Value → List Value
  | xs, _, [] => xs
  | xs, o, v :: r => setMany (xs.set o v) (o + 1) r
theorem setMany_at (vs : List Value) : ∀ (A Z : List Value), vs.length ≤ Z.length → setMany (A ++ Z) A.length vs = A ++ vs ++ Z.drop vs.length := by
  induction vs with
  | nil => intro A Z _; simp [setMany]
  | cons v r ih =>
    intro A Z h
    cases Z with
    | nil => simp at h
    | cons z Z =>
      have e : (A ++ z :: Z).set A.length v = (A ++ [v]) ++ Z := by simp
      have e2 : A.length + 1 = (A ++ [v]).length := by simp
      rw [setMany, e, e2, ih (A ++ [v]) Z (by simpa using h)]
      simp
theorem own_sets {base g n cap size : Nat} {e : TypeId} (vs : List Value) : ∀ (o : Nat) (w : World) (xs : List Value), w.ownsRow base e size (.slice (some ⟨g, 0, none⟩) n cap) n xs →
    (w.setCells g o vs).ownsRow base e size (.slice (some ⟨g, 0, none⟩) n cap) n (setMany xs o vs) ∧ w.grownBy (w.setCells g o vs) (some g) := by
  induction vs with
  | nil => intro o w xs h; exact ⟨h, World.grownBy.refl w _⟩
  | cons v r ih =>
    intro o w xs h
    have h1 := h.stored o v
    have h2 := ih (o + 1) _ _ h1.1
    exact ⟨h2.1, grown_trans' h1.2 h2.2⟩

/-- New rules. -/
def MadeRules (l : List RuleD) (w : World) (e : Ending) (w' : World) : Prop := ∃ v, e = .returned v ∧ OwnRules w' w.heap.size v l ∧ Below w.heap.size w w'

theorem own_heap {w : World} {base g n cap size : Nat} {e : TypeId} {xs : List Value} (h : w.ownsRow base e size (.slice (some ⟨g, 0, none⟩) n cap) n xs) : ∃ cur, w.heap[g]? = some (.cells cur e (0, 0)) := by
  rcases h.2 with ⟨h, _⟩ | ⟨g', cap', cur, hv, _, hg, _⟩
  · cases h
  · injection hv with hv _ _
    injection hv with hv
    injection hv with hv
    subst hv
    exact ⟨cur, hg⟩

/-- How much a rule may hold. -/
def RuleSmall (r : RuleD) : Prop := r.bytes.length ≤ 1048576 ∧ r.names.length ≤ 1048576 ∧ r.tags.length ≤ 1048576 ∧ r.kids.length ≤ 1048576

theorem rd_oneCell {w : World} {v : Value} {size n : Nat} {xs : List Value} (h : Rd w v size n xs) : v.oneCell' = true := by
  obtain ⟨_, A, c, rfl, _⟩ := h
  rfl
theorem rule_oneCell' {w : World} {cs : List Value} {r : RuleD} (h : RdRule w cs r) : ∀ v ∈ cs, v.oneCell' = true := by
  obtain ⟨vb, vn, vt, vk, rfl, h1, h2, h3, h4⟩ := h
  intro v hv
  simp only [ruleCells, List.mem_cons, List.not_mem_nil, or_false] at hv
  rcases hv with rfl | rfl | rfl | rfl | rfl | rfl | rfl | rfl
  · rfl
  · rfl
  · rfl
  · rfl
  · exact rd_oneCell h1
  · exact rd_oneCell h2
  · exact rd_oneCell h3
  · exact rd_oneCell h4
theorem rule_oneCell {w : World} {lo : Nat} {cs : List Value} {r : RuleD} (h : OwnRule w lo cs r) : ∀ v ∈ cs, v.oneCell' = true := rule_oneCell' h.rd

/-- The rounds' relation. -/
def RulesInv (w : World) (l : List RuleD) (zs : List Value) (k : Nat) (wr : World) : Prop :=
  ∃ css : List (List Value), css.length = k ∧ wr.ownsRow w.heap.size 56 8 (.slice (some ⟨w.heap.size, 0, none⟩) l.length l.length) l.length (css.flatten ++ zs.drop (k * 8)) ∧
    (∀ (i : Nat) (cs : List Value) (r : RuleD), css[i]? = some cs → l[i]? = some r → OwnRule wr (w.heap.size + 1) cs r) ∧ (∀ b ∈ blocks css.flatten, b < wr.heap.size) ∧ (blocks css.flatten).Nodup
theorem RulesInv.step {w wr w2 : World} {l : List RuleD} {zs : List Value} {k : Nat} (h : RulesInv w l zs k wr) (hk : k < l.length) (hz : zs.length = l.length * 8) {cs : List Value} (hcs : OwnRule w2 wr.heap.size cs l[k]) (hnd : (blocks cs).Nodup) (hb : Below wr.heap.size wr w2) (hw : w.heap.size < wr.heap.size) :
    RulesInv w l zs (k + 1) (w2.setCells w.heap.size (k * 8) cs) ∧ w2.grownBy (w2.setCells w.heap.size (k * 8) cs) (some w.heap.size) := by
  obtain ⟨css, hl, hown, hr, hlt, hn⟩ := h
  have h8 : ∀ cs ∈ css, cs.length = 8 := by
    intro cs hc
    obtain ⟨i, hi, rfl⟩ := List.getElem_of_mem hc
    exact (hr i css[i] l[i] (List.getElem?_eq_getElem hi) (List.getElem?_eq_getElem (by omega))).len
  have hfl := flat_len h8
  have hc8 := hcs.len
  have hown2 := own_below hown hb
  obtain ⟨cur, hcur⟩ := own_heap hown2
  have hst := own_sets cs (k * 8) w2 _ hown2
  have e : setMany (css.flatten ++ zs.drop (k * 8)) (k * 8) cs = (css ++ [cs]).flatten ++ zs.drop ((k + 1) * 8) := by
    have h0 : k * 8 = css.flatten.length := by rw [hfl, hl]
    rw [h0, setMany_at cs _ _ (by rw [List.length_drop, hfl, hl, hz, hc8]; omega), List.drop_drop, hc8, hfl]
    have e3 : css.length * 8 + 8 = (k + 1) * 8 := by omega
    rw [hl] at e3 ⊢
    rw [e3]
    simp
  rw [e] at hst
  refine ⟨⟨css ++ [cs], by simp [hl], hst.1, ?_, ?_, ?_⟩, hst.2⟩
  · intro i c r hi hlr
    rcases Nat.lt_or_ge i css.length with h1 | h1
    · rw [List.getElem?_append_left h1] at hi
      exact ((hr i c r hi hlr).below hb).kept hst.2 hcur (by decide) (by decide) (by decide)
    · rw [List.getElem?_append_right h1] at hi
      have h2 : i - css.length = 0 := by
        rcases Nat.eq_zero_or_pos (i - css.length) with h | h
        · exact h
        · rw [List.getElem?_eq_none (by simp; omega)] at hi; cases hi
      rw [h2] at hi
      simp at hi
      have h3 : i = k := by omega
      subst h3
      rw [List.getElem?_eq_getElem hk] at hlr
      cases hlr
      subst hi
      exact (hcs.mono (by omega)).kept hst.2 hcur (by decide) (by decide) (by decide)
  · intro b hb'
    have hsz := hst.2.size
    rw [List.flatten_append, blocks_append] at hb'
    rcases List.mem_append.1 hb' with h1 | h1
    · have := hlt b h1; have := hb.size; omega
    · have := (hcs.blocks_lt b (by simpa using h1)).2; omega
  · rw [List.flatten_append, blocks_append]
    rw [List.nodup_append]
    refine ⟨hn, by simpa using hnd, ?_⟩
    intro a ha b hb' hab
    have h1 := hlt a ha
    have h2 := (hcs.blocks_lt b (by simpa using hb')).1
    omega

set_option maxHeartbeats 2000000 in
theorem l_toRuleS (v : Value) (l : List RuleD) (hn : l.length ≤ 1048576) (hs : ∀ r ∈ l, RuleSmall r) (w : World) (h : RdRules w v l) :
    Calls Try.prog 48 #[v] w (MadeRules l w) := by
  obtain ⟨A, c, rfl, hnc, hcm, hcell⟩ := h
  unfold maxLen at hcm
  have HC := Lib.hid hcell; clear hcell
  obtain ⟨i0, hi, hz0, hz1, hz2⟩ := info_parts info_Rule
  go_enter Try.func48, Try.ntmps48
  go_wp2_with (at_make; refine wpList_make_full _ rfl (.tmp 6) (.tmp 6) 27 rfl w.heap.size 56 i0 (.agg #[.string ⟨#[]⟩, .int .i64 0, .int .i64 0, .bool false, .slice none 0 0, .slice none 0 0, .slice none 0 0, .slice none 0 0]) 8 Try.underlying27 hi hz0 hz1 .i64 .i64 _ _ l.length rfl rfl rfl rfl (by rw [hz2]; omega) (by unfold maxLen; omega) (Nat.le_refl _) ?_)
  intro w1 hown hgrow
  have hb1 : Below w.heap.size w w1 := (Below.refl _ _).grown hgrow (Nat.le_refl _) (fun k hk => by cases hk)
  obtain ⟨zs, hzs⟩ : ∃ zs, zs = (madeCells #[.string ⟨#[]⟩, .int .i64 0, .int .i64 0, .bool false, .slice none 0 0, .slice none 0 0, .slice none 0 0, .slice none 0 0] (l.length * 8)).toList := ⟨_, rfl⟩
  rw [← hzs] at hown
  have hzl : zs.length = l.length * 8 := hown.1
  have HZ := Lib.hid hzl
  have hlt1 : w.heap.size < w1.heap.size := by have := (hown.lt w.heap.size rfl).2; exact this
  have hinv0 : RulesInv w l zs 0 w1 := ⟨[], rfl, by simpa using hown, by simp, by simp [blocks], by simp [blocks]⟩
  have HI0 := Lib.hid hinv0
  clear hzs hgrow hi hz0 hz1 hz2 hzl hown hinv0
  go_wp2_with fail
  go_loopw [4] (fun i wr => ∃ k : Nat, k ≤ l.length ∧ i = .int .i64 k ∧ RulesInv w l zs k wr ∧ Below w.heap.size w wr ∧ w.heap.size < wr.heap.size)
    (fun i _ => l.length - (intOf i).toNat)
  case atStart => exact ⟨0, Nat.zero_le _, rfl, HI0.out, hb1, hlt1⟩
  case round =>
    obtain ⟨k, hk, rfl, hinv, hbr, hlr⟩ := hrel
    clear hb1
    by_cases hlt : k < l.length
    · obtain ⟨b, off, rfl, hc⟩ := HC.out (by omega)
      obtain ⟨cs, hr, hat⟩ := hc k hlt
      have hr' := hr.keep (w' := wr) fun _ hp => hbr.cell hp
      have hat' : wr.rangeAt b (off + k * 8) cs := fun j u hu => by rw [hbr.cell (World.block_lt_of_cell? w _ (hat j u hu))]; exact hat j u hu
      obtain ⟨vb, vn, vt, vk, rfl, _⟩ := hr
      have HR := Lib.hid hr'
      have HAT := Lib.hid hat'
      have HSM := Lib.hid (hs l[k] (List.getElem_mem hlt))
      have HI := Lib.hid hinv
      have HBR := Lib.hid hbr
      obtain ⟨r, hr0⟩ : ∃ r, r = l[k] := ⟨_, rfl⟩
      rw [← hr0] at HR HAT HSM
      have HRL := Lib.hid hr0
      clear hc hat hat' hr' hinv hbr hr0
      go_wp2_with (refine wpList_load_mid rfl 70 (.tmp 18) rfl b (off + k * 8) rfl _ _ HAT.out Try.underlying70 rfl (by kernel_rfl) ?_)
      refine (l_toRule r vb vn vt vk HSM.out _ HR.out).mono ?_
      rintro e w2 ⟨ub, un, ut, uk, rfl, hor, hnd, hb2⟩
      have hst := HI.out.step hlt HZ.out (by rw [← HRL.out]; exact hor) hnd hb2 hlr
      have hthere : w2.there w.heap.size (k * 8) (#[.string r.name, .int .i64 r.kind, .int .i64 r.size, .bool r.little, ub, un, ut, uk] : Array Value).size := by
        obtain ⟨css, _, hown, _⟩ := HI.out
        have hown2 := own_below hown hb2
        intro j hj0
        have hj : j < 8 := hj0
        have hlen := hown2.1
        have hin : k * 8 + j < (css.flatten ++ zs.drop (k * 8)).length := by rw [hlen]; omega
        refine ⟨?_, hown2.frozenAt _⟩
        rw [hown2.cellAt _ (by omega), List.getElem?_eq_getElem hin]
        rfl
      have hb3 : Below w.heap.size w (w2.setCells w.heap.size (k * 8) #[.string r.name, .int .i64 r.kind, .int .i64 r.size, .bool r.little, ub, un, ut, uk].toList) := (Below.then_ HBR.out hb2 (Nat.le_refl _)).grown hst.2 (by have := hb2.size; omega) (fun g hg => by injection hg with hg; omega)
      have hz3 : w.heap.size < (w2.setCells w.heap.size (k * 8) #[.string r.name, .int .i64 r.kind, .int .i64 r.size, .bool r.little, ub, un, ut, uk].toList).heap.size := by
        have h1 : w2.heap.size ≤ (w2.setCells w.heap.size (k * 8) #[.string r.name, .int .i64 r.kind, .int .i64 r.size, .bool r.little, ub, un, ut, uk].toList).heap.size := hst.2.size
        have h2 := hb2.size
        omega
      have hi3 : RulesInv w l zs (k + 1) (w2.setCells w.heap.size (k * 8) #[.string r.name, .int .i64 r.kind, .int .i64 r.size, .bool r.little, ub, un, ut, uk].toList) := hst.1
      have HZ3 := Lib.hid hz3
      have HI3 := Lib.hid hi3
      have HB3 := Lib.hid hb3
      have HTH := Lib.hid hthere
      have hone : (#[.string r.name, .int .i64 r.kind, .int .i64 r.size, .bool r.little, ub, un, ut, uk] : Array Value).all (·.oneCell') = true := all_oneCell_toArray (rule_oneCell hor)
      have HON := Lib.hid hone
      clear hor hnd hb2 hst hthere hone hz3 hi3 hb3
      go_wp2_with (refine wpList_store_mid rfl 56 (.tmp 21) (.tmp 20) rfl w.heap.size (k * 8) #[.string r.name, .int .i64 r.kind, .int .i64 r.size, .bool r.little, ub, un, ut, uk] rfl rfl ?_ (by kernel_rfl) ?_ ?_)
      · exact HTH.out
      · exact HON.out
      go_roundw
      case rel => exact ⟨k + 1, by omega, by go_num, HI3.out, HB3.out, HZ3.out⟩
      case measure => simp [intOf]; omega
    · obtain rfl : k = l.length := by omega
      have HI := Lib.hid hinv
      have HB := Lib.hid hbr
      clear hinv hbr
      go_wp2_with fail
      go_ret
      refine ⟨_, rfl, ?_, HB.out⟩
      obtain ⟨css, h1, h2, h3, _, h4⟩ := HI.out
      rw [List.drop_of_length_le (by rw [HZ.out]; exact Nat.le_refl _), List.append_nil] at h2
      exact ⟨css, h1, h2, fun i cs r hi hl => (h3 i cs r hi hl).mono (by omega), h4⟩

theorem OwnRules.setFar {w : World} {lo : Nat} {v : Value} {l : List RuleD} (h : OwnRules w lo v l) (g j : Nat) (u : Value) (hg : g < lo) : OwnRules (w.setCell ⟨g, j, none⟩ u) lo v l := by
  obtain ⟨css, hl, hown, hr, hn⟩ := h
  refine ⟨css, hl, own_set hown hg, fun i cs r hi hl => ?_, hn⟩
  obtain ⟨vb, vn, vt, vk, e, h1, h2, h3, h4⟩ := hr i cs r hi hl
  exact ⟨vb, vn, vt, vk, e, own_set h1 hg, own_set h2 hg, own_set h3 hg, own_set h4 hg⟩

/-- A new description. -/
def MadeDesc (l : List RuleD) (w : World) (e : Ending) (w' : World) : Prop := ∃ v, e = .returned (.agg #[v]) ∧ OwnRules w' w.heap.size v l ∧ Below w.heap.size w w'

set_option maxHeartbeats 2000000 in
theorem l_toDescription (d : Value) (l : List RuleD) (hn : l.length ≤ 1048576) (hs : ∀ r ∈ l, RuleSmall r) (w : World) (h : RdDesc w d l) :
    Calls Try.prog 17 #[d] w (MadeDesc l w) := by
  obtain ⟨v, rfl, hv⟩ := h
  have hb0 : Below w.heap.size w (((w.alloc (.cells #[v] 24)).alloc (.cells #[.slice none 0 0] 29)).alloc (.cells #[.slice none 0 0] 29)) := (((Below.refl _ _).alloc (Nat.le_refl _) _).alloc (by simp) _).alloc (by simp; omega) _
  have T0 := Three.new w 24 29 29 #[v] #[.slice none 0 0] #[.slice none 0 0]
  have HT0 := Lib.hid T0
  have HB0 := Lib.hid hb0
  have HV := Lib.hid hv
  clear T0 hb0 hv
  go_enter Try.func17, Try.ntmps17
  go_wp2_with fail
  refine (l_toRuleS v l hn hs _ (HV.out.below HB0.out)).mono ?_
  rintro e w1 ⟨u, rfl, ho1, hb1⟩
  obtain ⟨A1, p1, rfl⟩ : ∃ A c, u = .slice A l.length c := by
    obtain ⟨A, c, h, _⟩ := ho1.rd
    exact ⟨A, c, h⟩
  have T1 := HT0.out.below hb1
  have hb1' := Below.then_ HB0.out hb1 (Nat.le_refl _)
  have c2 : w1.cell? ⟨w.heap.size + 1 + 1, 0, none⟩ = some (.slice none 0 0) := T1.out 0
  have f2 := (T1.fre 0).2
  have r2 : w1.cell? ⟨w.heap.size + 1, 0, none⟩ = some (.slice none 0 0) := T1.res 0
  have q2 := (T1.fre 0).1
  have HT1 := Lib.hid T1
  have HO1 := Lib.hid ho1
  have HB1 := Lib.hid hb1'
  clear T1 ho1 hb1 hb1'
  go_wp2_with fail
  refine bodyPost_ret (v := .agg #[.slice A1 l.length p1]) (by simp [results, Try.results17, go_sem, r2]) rfl ?_
  refine ⟨_, rfl, ?_, ?_⟩
  · have hz : w.heap.size + 1 + 1 < w1.heap.size := HT1.out.lt
    have h := HO1.out.mono (lo' := w.heap.size + 1 + 1 + 1) (by simp)
    exact ((h.setFar (w.heap.size + 1 + 1) 0 _ (by omega)).setFar (w.heap.size + 1) 0 _ (by omega)).mono (by omega)
  · exact (HB1.out.setCell (p := ⟨w.heap.size + 1 + 1, 0, none⟩) (by show w.heap.size ≤ w.heap.size + 1 + 1; omega) _).setCell (p := ⟨w.heap.size + 1, 0, none⟩) (by show w.heap.size ≤ w.heap.size + 1; omega) _

end Go.Proofs.Ytcegbilfcblhfaa
