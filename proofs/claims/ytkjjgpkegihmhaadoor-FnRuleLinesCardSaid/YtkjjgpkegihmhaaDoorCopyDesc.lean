/-
  CopyDescription, of the program and of the reference.
-/
import Derived.Test.YtkjjgpkegihmhaaDoorCopyRule
import Derived.Test.YtkjjgpkegihmhaaDoorGB
import Derived.Test.YtkjjgpkegihmhaaDoorRulesAt
import Derived.Deep.RegionLaw
import Derived.OwnWalk
namespace Go.Proofs.YtkjjgpkegihmhaaDoor
open Go.RowKit
set_option linter.unusedVariables false

/-- One more rule behind the others. -/
theorem OwnRules.push {w1 w3 : World} {lo b0 : Nat} {vo v' : Value} {rs : List RuleD} {r : RuleD} {css : List (List Value)} {cs : List Value} (hl : css.length = rs.length)
    (hown1 : w1.ownsRow lo 43 8 vo rs.length css.flatten) (hr : ∀ (i : Nat) (cs : List Value) (r : RuleD), css[i]? = some cs → rs[i]? = some r → OwnRule w1 lo cs r)
    (hn : (blocks css.flatten).Nodup) (hlt : ∀ b ∈ blocks css.flatten, b < b0) (hc : OwnRule w1 b0 cs r) (hcn : (blocks cs).Nodup) (hlo : lo ≤ b0)
    (hown3 : w3.ownsRow lo 43 8 v' (rs.length + 1) (css.flatten ++ cs)) (hg : (w1.alloc (.cells cs.toArray 43)).grownBy w3 vo.ownBlock) : OwnRules w3 lo v' (rs ++ [r]) := by
  have hb : Below w1.heap.size w1 (w1.alloc (.cells cs.toArray 43)) := (Below.refl _ _).alloc (Nat.le_refl _) _
  have kept : ∀ {lo' : Nat} {ds : List Value} {q : RuleD}, OwnRule w1 lo' ds q → OwnRule w3 lo' ds q := by
    intro lo' ds q hq
    have hq1 := hq.below hb
    cases hv : vo.ownBlock with
    | none => rw [hv] at hg; exact hq1.kept_row hg (fun b _ e => by cases e)
    | some g =>
      rw [hv] at hg
      rcases hown1.2 with ⟨e, _⟩ | ⟨g', cap', cur, e, _, hh, _⟩
      · rw [e] at hv; cases hv
      · have : g' = g := by rw [e] at hv; simpa [Value.ownBlock] using hv
        subst this
        exact hq1.kept hg ((hb.block g' (Array.getElem?_eq_some_iff.1 hh).1).trans hh) (by decide) (by decide) (by decide)
  refine ⟨css ++ [cs], by simp [hl], ?_, ?_, ?_⟩
  · rw [List.flatten_append, List.length_append]
    simpa using hown3
  · intro i ds q hi hq
    rcases Nat.lt_or_ge i css.length with h1 | h1
    · rw [List.getElem?_append_left h1] at hi
      rw [List.getElem?_append_left (by omega)] at hq
      exact kept (hr i ds q hi hq)
    · rw [List.getElem?_append_right h1] at hi
      rw [List.getElem?_append_right (by omega)] at hq
      have h2 : i - css.length = 0 := by
        have := (List.getElem?_eq_some_iff.1 hi).1
        simp at this; omega
      have h3 : i - rs.length = 0 := by omega
      rw [h2] at hi
      rw [h3] at hq
      simp at hi hq
      subst hi; subst hq
      exact kept (hc.mono hlo)
  · rw [List.flatten_append, blocks_append, List.nodup_append]
    refine ⟨hn, by simpa using hcn, ?_⟩
    intro a ha b hb' hab
    have h1 := hlt a ha
    have h2 := (hc.blocks_lt b (by simpa using hb')).1
    omega

theorem rd_lit8 (w : World) (cs : List Value) (E : TypeId) (hn : cs.length = 8) : Rd (w.alloc (.cells cs.toArray E)) (.slice (some ⟨w.heap.size, 0, none⟩) 1 1) 8 1 cs := by
  have h := World.ownsRow_lit (base := 0) (e := E) (size := 8) w cs.toArray 1 (Nat.zero_le _) (by unfold maxLen; omega) (by simp [hn])
  simpa using Rd.of_own h

theorem OwnRules.parts {w : World} {lo : Nat} {v : Value} {l : List RuleD} (h : OwnRules w lo v l) : ∃ css : List (List Value), css.length = l.length ∧ w.ownsRow lo 43 8 v l.length css.flatten ∧
    (∀ (i : Nat) (cs : List Value) (r : RuleD), css[i]? = some cs → l[i]? = some r → OwnRule w lo cs r) ∧ (blocks css.flatten).Nodup ∧ ∀ b ∈ blocks css.flatten, b < w.heap.size := by
  obtain ⟨css, hl, hown, hr, hn⟩ := h
  refine ⟨css, hl, hown, hr, hn, ?_⟩
  intro b hb
  rw [blocks_flatten] at hb
  obtain ⟨bs, hbs, hbb⟩ := List.mem_flatten.1 hb
  obtain ⟨cs, hcs, rfl⟩ := List.mem_map.1 hbs
  obtain ⟨i, hi, rfl⟩ := List.getElem_of_mem hcs
  exact ((hr i css[i] l[i] (List.getElem?_eq_getElem hi) (List.getElem?_eq_getElem (by omega))).blocks_lt b hbb).2

theorem OwnRules.setBox {w : World} {lo g : Nat} {v u : Value} {l : List RuleD} {cs : Array Value} (h : OwnRules w lo v l) (hg : Box w g 29 cs) : OwnRules (w.setCell ⟨g, 0, none⟩ u) lo v l := by
  obtain ⟨css, hl, hown, hr, hn⟩ := h
  have hk : w.grownBy (w.setCell ⟨g, 0, none⟩ u) (some g) := ⟨rfl, rfl, rfl, by simp [World.setCell], fun i _ hne => heap_setCell_other w ⟨g, 0, none⟩ i u (fun e => hne (by simp [e]))⟩
  exact ⟨css, hl, hown.kept hk (.inr (own_type hown hg (by decide))), fun i cs r hi hl => (hr i cs r hi hl).kept hk hg (by decide) (by decide) (by decide), hn⟩

set_option maxRecDepth 100000 in
set_option maxHeartbeats 8000000 in
theorem i_CopyDescription (d : Value) (l : List RuleD) (hln : l.length ≤ 1048576) (hsm : ∀ r ∈ l, RuleSmall r) (w : World) (hd : RdDesc w d l) :
    Calls Tryd.prog 58 #[d] w (MadeDesc l w) := by
  obtain ⟨v, rfl, hv⟩ := hd
  obtain ⟨A, c, rfl, hnc, hcm, hcell⟩ := hv.all
  unfold maxLen at hcm
  have HC := Lib.hid hcell
  clear hcell hv
  obtain ⟨n, hnl⟩ : ∃ n, n = l.length := ⟨_, rfl⟩
  have HN := Lib.hid hnl
  have hn' : n ≤ 1048576 := by omega
  rw [← hnl] at hnc ⊢
  clear hnl hln
  obtain ⟨i0, hi, hz0, hz1, hz2⟩ := info_parts info_Rule
  obtain ⟨wb, hwb⟩ : ∃ wb, wb = ((w.alloc (.cells #[.slice A n c] 29)).alloc (.cells #[.slice none 0 0] 29)) := ⟨_, rfl⟩
  have zb : wb.heap.size = w.heap.size + 1 + 1 := by rw [hwb]; simp
  have bb : Below w.heap.size w wb := by rw [hwb]; exact ((Below.refl _ _).alloc (Nat.le_refl _) _).alloc (by simp) _
  have qb : Box wb (w.heap.size + 1) 29 #[.slice none 0 0] := by
    rw [hwb]
    have := Box.new (w.alloc (.cells #[.slice A n c] 29)) 29 #[.slice none 0 0]
    rwa [show (w.alloc (.cells #[.slice A n c] 29)).heap.size = w.heap.size + 1 from by simp] at this
  have pb : Box wb w.heap.size 29 #[.slice A n c] := by rw [hwb]; exact (Box.new w _ _).alloc _
  have PB := Lib.hid pb
  have WB := Lib.hid hwb
  have ZB := Lib.hid zb
  have BB := Lib.hid bb
  have QB := Lib.hid qb
  clear hwb zb bb qb pb
  go_enter Tryd.func58, Tryd.ntmps58
  go_wp2_with (refine wpList_make_own _ rfl (.const (.int .i64 0)) (.tmp 8) 27 rfl (w.heap.size + 1 + 1) 43 i0 (.agg #[.string ⟨#[]⟩, .int .i64 0, .int .i64 0, .bool false, .slice none 0 0, .slice none 0 0, .slice none 0 0, .slice none 0 0]) 8 Tryd.underlying27 hi hz0 hz1 .i64 .i64 _ n rfl rfl rfl (by rw [hz2]; omega) (by unfold maxLen; omega) (by simp) ?_)
  intro wm hmo hmg
  rw [← WB.out] at hmg
  have hmo' : wm.ownsRow (w.heap.size + 1 + 1) 43 8 (.slice (some ⟨w.heap.size + 1 + 1, 0, none⟩) 0 n) 0 [] := by first | exact hmo | simpa using hmo
  obtain ⟨G, hG⟩ : ∃ G, G = wm.heap.size := ⟨_, rfl⟩
  obtain ⟨w0, hw0⟩ : ∃ w0, w0 = wm.alloc (.cells #[.slice (some ⟨w.heap.size + 1 + 1, 0, none⟩) 0 n] 29) := ⟨_, rfl⟩
  have bm : Below w.heap.size w wm := BB.out.grown hmg BB.out.size (fun k hk => by cases hk)
  have B0 := Lib.hid (show Below w.heap.size w w0 from by rw [hw0]; exact bm.alloc bm.size _)
  have O0 := Lib.hid (show Box w0 G 29 #[.slice (some ⟨w.heap.size + 1 + 1, 0, none⟩) 0 n] from by rw [hw0, hG]; exact Box.new _ _ _)
  have Q0 := Lib.hid (show Box w0 (w.heap.size + 1) 29 #[.slice none 0 0] from by rw [hw0]; exact (QB.out.grown hmg (fun e => by cases e)).alloc _)
  have R0 := Lib.hid (show w0.ownsRow (w.heap.size + 1 + 1) 43 8 (.slice (some ⟨w.heap.size + 1 + 1, 0, none⟩) 0 n) 0 [] from by rw [hw0]; exact hmo'.alloc _)
  have GB := Lib.hid (show w.heap.size + 1 + 1 ≤ G from by have h1 := hmg.size; rw [ZB.out] at h1; omega)
  have W0 := Lib.hid hw0
  have xd : (wm.alloc (.cells #[.slice (some ⟨w.heap.size + 1 + 1, 0, none⟩) 0 n] 29)).cell? ⟨w.heap.size, 0, none⟩ = some (.slice A n c) := ((PB.out.grown hmg (fun e => by cases e)).alloc _).cell 0
  have HG := Lib.hid hG
  clear hmo hmg hmo' bm hw0
  go_wp2_with fail
  rw [← W0.out, ← HG.out]
  clear hG xd
  go_loopw [14] (fun i wr => ∃ k : Nat, k ≤ n ∧ i = .int .i64 k ∧ (∃ Ao co, Box wr G 29 #[.slice Ao k co] ∧ OwnRules wr (w.heap.size + 1 + 1) (.slice Ao k co) (l.take k)) ∧ Box wr (w.heap.size + 1) 29 #[.slice none 0 0] ∧ Below w.heap.size w wr ∧ w0.heap.size ≤ wr.heap.size) (fun i _ => n - (intOf i).toNat)
  case atStart => exact ⟨0, Nat.zero_le _, rfl, ⟨_, _, O0.out, ⟨[], rfl, R0.out, by simp, by simp [blocks]⟩⟩, Q0.out, B0.out, Nat.le_refl _⟩
  case round =>
    obtain ⟨k, hk, rfl, ⟨Ao, co, bo, hor⟩, bq, hbr, hsz⟩ := hrel
    by_cases hlt : k < n
    · have hkl : k < l.length := by rw [← HN.out]; exact hlt
      obtain ⟨b, off, rfl, hc⟩ := HC.out (by omega)
      obtain ⟨vb, vn, vt, vk, hr⟩ := hc k hkl
      have HSM := Lib.hid (hsm l[k] (List.getElem_mem hkl))
      have HTK := Lib.hid (List.take_succ_eq_append_getElem hkl)
      have hr1 := hr.below hbr
      obtain ⟨r, hr0⟩ : ∃ r, r = l[k] := ⟨_, rfl⟩
      rw [← hr0] at hr1 HSM HTK
      obtain ⟨⟨Ab, cb, rfl⟩, ⟨An, cn, rfl⟩, ⟨At, ct, rfl⟩, ⟨Ak, ck, rfl⟩⟩ := hr1.slices
      have cr := hr1.eight
      obtain ⟨wa, hwa⟩ : ∃ wa, wa = wr.alloc (.cells #[.string r.name, .int .i64 r.kind, .int .i64 r.size, .bool r.little, .slice Ab r.bytes.length cb, .slice An r.names.length cn, .slice At r.tags.length ct, .slice Ak r.kids.length ck] 43) := ⟨_, rfl⟩
      have ba : Below wr.heap.size wr wa := by rw [hwa]; exact (Below.refl _ _).alloc (Nat.le_refl _) _
      have boxa : Box wa wr.heap.size 43 #[.string r.name, .int .i64 r.kind, .int .i64 r.size, .bool r.little, .slice Ab r.bytes.length cb, .slice An r.names.length cn, .slice At r.tags.length ct, .slice Ak r.kids.length ck] := by rw [hwa]; exact Box.new _ _ _
      have HR1 := Lib.hid (hr1.below ba).drew.rd
      have hoa := hor.below ba
      have boa := bo.below ba
      have bqa := bq.below ba
      have hba := Below.then_ hbr ba (Nat.le_refl _)
      have HWA := Lib.hid hwa
      obtain ⟨css, hcl, hown, hreach, hnod, hblt⟩ := (hoa.below (Below.refl wa.heap.size wa).drew).parts
      have hkn : (l.take k).length = k := by rw [List.length_take]; omega
      rw [hkn] at hown hcl
      have HOWN := Lib.hid hown
      have HCL := Lib.hid hcl
      have HEA := Lib.hid hreach
      have HND := Lib.hid hnod
      have HBL := Lib.hid hblt
      have HKN := Lib.hid hkn
      have BO := Lib.hid boa
      have BQ := Lib.hid bqa
      have HB := Lib.hid hba
      have HSZ := Lib.hid (Nat.le_trans hsz ba.size)
      have BXA := Lib.hid boxa
      have DR := Lib.hid (Below.refl wa.heap.size wa).drew
      have hkb : k ≤ 1048576 := by omega
      clear hr hr0 hr1 hc hor bo bq hbr hsz hown hcl hreach hnod hblt hkn ba boxa hoa boa bqa hba hwa
      obtain ⟨D0, D1, D2, D3, D4, D5, D6, D7⟩ := cr
      go_wp2_with fail
      rw [← HWA.out]
      have x1 : wa.cell? ⟨G, 0, none⟩ = some (.slice Ao k co) := BO.out.cell 0
      have y0 : wa.cell? ⟨wr.heap.size, 0, none⟩ = some (.string r.name) := BXA.out.cell 0
      have y1 : wa.cell? ⟨wr.heap.size, 1, none⟩ = some (.int .i64 r.kind) := BXA.out.cell 1
      have y2 : wa.cell? ⟨wr.heap.size, 2, none⟩ = some (.int .i64 r.size) := BXA.out.cell 2
      have y3 : wa.cell? ⟨wr.heap.size, 3, none⟩ = some (.bool r.little) := BXA.out.cell 3
      have y4 : wa.cell? ⟨wr.heap.size, 4, none⟩ = some (.slice Ab r.bytes.length cb) := BXA.out.cell 4
      have y5 : wa.cell? ⟨wr.heap.size, 5, none⟩ = some (.slice An r.names.length cn) := BXA.out.cell 5
      have y6 : wa.cell? ⟨wr.heap.size, 6, none⟩ = some (.slice At r.tags.length ct) := BXA.out.cell 6
      have y7 : wa.cell? ⟨wr.heap.size, 7, none⟩ = some (.slice Ak r.kids.length ck) := BXA.out.cell 7
      go_region_law (first
        | (refine step_append_rd _ (by rfl) (.tmp 19) (.tmp 22) 27 (by rfl) (w.heap.size + 1 + 1) 43 i0 (.agg #[.string ⟨#[]⟩, .int .i64 0, .int .i64 0, .bool false, .slice none 0 0, .slice none 0 0, .slice none 0 0, .slice none 0 0]) 8 136 Tryd.underlying27 hi hz0 hz1 hz2 (by rfl) (by decide) (.slice Ao k co) k css.flatten (by rfl) OWN1.out (.slice (some ⟨w1.heap.size, 0, none⟩) 1 1) 1 [.string r.name, .int .i64 r.kind, .int .i64 r.size, .bool r.little, ub, un, ut, uk] (by rfl) (rd_lit8 w1 _ _ rfl) ONE.out (by unfold maxLen; omega) (by omega) (by have := SZ1.out; simp; omega) ?_; intro v' w3 hown3 hg3 _; obtain ⟨A', c', rfl⟩ : ∃ A c, v' = .slice A (k + 1) c := (by obtain ⟨_, A, c, h, _⟩ := Rd.of_own hown3; exact ⟨A, c, h⟩); have s3 : w3.cell? ⟨G, 0, none⟩ = some (.slice Ao k co) := (BOX1.out _ hg3).cell 0; have f3 : w3.frozen? ⟨G, 0, none⟩ = false := (BOX1.out _ hg3).frozen 0)
        | (go_simp; go_at_call 79; refine (i_copyRule r _ _ _ _ HSM.out _ HR1.out).mono ?_; rintro e w1 ⟨ub, un, ut, uk, rfl, hor, hnd, hb1⟩; have x2 : w1.cell? ⟨G, 0, none⟩ = some (.slice Ao k co) := ((BO.out.below DR.out).below hb1).cell 0; have x3 : (w1.alloc (.cells #[.string r.name, .int .i64 r.kind, .int .i64 r.size, .bool r.little, ub, un, ut, uk] 43)).cell? ⟨G, 0, none⟩ = some (.slice Ao k co) := (((BO.out.below DR.out).below hb1).alloc _).cell 0; have OWN1 := Lib.hid ((own_below HOWN.out hb1).alloc (.cells #[.string r.name, .int .i64 r.kind, .int .i64 r.size, .bool r.little, ub, un, ut, uk] 43)); have ONE : Hid (∀ u ∈ [.string r.name, .int .i64 r.kind, .int .i64 r.size, .bool r.little, ub, un, ut, uk], u.oneCell' = true) := rule_oneCell hor; have SZ1 : Hid (w.heap.size + 1 + 1 ≤ w1.heap.size) := Nat.le_trans (by have h1 := HSZ.out; have h2 := B0.out.size; have h3 := GB.out; have h4 := O0.out.lt; show w.heap.size + 1 + 1 ≤ wa.heap.size; omega) hb1.size; have BOX1 : Hid (∀ w3, (w1.alloc (.cells #[.string r.name, .int .i64 r.kind, .int .i64 r.size, .bool r.little, ub, un, ut, uk] 43)).grownBy w3 (.slice Ao k co : Value).ownBlock → Box w3 G 29 #[.slice Ao k co]) := fun w3 hg => (((BO.out.below DR.out).below hb1).alloc _).grown hg (fun e => own_type OWN1.out (((BO.out.below DR.out).below hb1).alloc _) (by decide) e.symm)))
      all_goals
        have push : OwnRules w3 (w.heap.size + 1 + 1) (.slice A' (k + 1) c') (l.take k ++ [r]) := OwnRules.push (b0 := wa.drew.heap.size) (w1 := w1) (css := css) (cs := ruleCells r ub un ut uk) (vo := .slice Ao k co) (by rw [HKN.out]; exact HCL.out) (by rw [HKN.out]; exact own_below HOWN.out hb1) (fun i cs q h1 h2 => (HEA.out i cs q h1 h2).below hb1) HND.out HBL.out hor hnd (by have h1 := HSZ.out; have h3 := GB.out; have h4 := O0.out.lt; show w.heap.size + 1 + 1 ≤ wa.heap.size; omega) (by rw [HKN.out]; exact hown3) hg3
        have hzz := GB.out
        have ne : ∀ m, m < w.heap.size + 1 + 1 → some m ≠ (Value.slice Ao k co).ownBlock := fun m hm e => by have h1 := (OWN1.out.lt _ e.symm).1; omega
        have bq3 := ((((BQ.out.below DR.out).below hb1).alloc (.cells #[.string r.name, .int .i64 r.kind, .int .i64 r.size, .bool r.little, ub, un, ut, uk] 43)).grown hg3 (ne _ (by omega))).setOther ⟨G, 0, none⟩ (by show w.heap.size + 1 ≠ G; omega) (.slice A' (k + 1) c')
        have bo3 : Box (w3.setCell ⟨G, 0, none⟩ (.slice A' (k + 1) c')) G 29 #[.slice A' (k + 1) c'] := (BOX1.out w3 hg3).set 0 _
        have hbw1 := Below.then_ (Below.then_ HB.out DR.out (Nat.le_refl _)) hb1 (Nat.le_refl _)
        have hbw3 : Below w.heap.size w w3 := (hbw1.alloc hbw1.size (.cells #[.string r.name, .int .i64 r.kind, .int .i64 r.size, .bool r.little, ub, un, ut, uk] 43)).grown hg3 (by have := hbw1.size; simp; omega) (fun m hm => by have h1 := (OWN1.out.lt _ hm).1; omega)
        have HBZ := Lib.hid (below_set (j := 0) hbw3 (show w.heap.size ≤ G by omega) (.slice A' (k + 1) c'))
        have hszz : w0.heap.size ≤ (w3.setCell ⟨G, 0, none⟩ (.slice A' (k + 1) c')).heap.size := by
          have h1 := Nat.le_trans HSZ.out (show wa.heap.size ≤ w1.heap.size from hb1.size)
          have h2 := hg3.size
          simp [World.setCell] at h2 ⊢
          omega
        have HP := Lib.hid (push.setBox (u := .slice A' (k + 1) c') (BOX1.out w3 hg3))
        have BQ3 := Lib.hid bq3
        have BO3 := Lib.hid bo3
        have HSZZ := Lib.hid hszz
        clear push hzz ne bq3 bo3 hbw1 hbw3 hszz hown3 hg3 hor hnd hb1 x2 x3 s3 f3 D0 D1 D2 D3 D4 D5 D6 D7 x1
        go_wp2_with fail
        go_roundw
        case rel => exact ⟨k + 1, by omega, by go_num, ⟨A', c', BO3.out, by rw [HTK.out]; exact HP.out⟩, BQ3.out, HBZ.out, HSZZ.out⟩
        case measure => simp [intOf]; omega
    · obtain rfl : k = n := by omega
      have x1 : wr.cell? ⟨G, 0, none⟩ = some (.slice Ao k co) := bo.cell 0
      have x2 : wr.cell? ⟨w.heap.size + 1, 0, none⟩ = some (.slice none 0 0) := bq.cell 0
      have f2 : wr.frozen? ⟨w.heap.size + 1, 0, none⟩ = false := bq.frozen 0
      have HOR := Lib.hid hor
      have HB := Lib.hid hbr
      clear hor bo bq hbr hsz
      go_wp2_with fail
      refine bodyPost_ret (v := .agg #[.slice Ao k co]) (by simp [results, Tryd.results58, go_sem, x2]) rfl ?_
      refine ⟨_, rfl, ?_, below_set (j := 0) HB.out (show w.heap.size ≤ w.heap.size + 1 by omega) _⟩
      have h := HOR.out
      rw [HN.out, List.take_length] at h
      rw [HN.out]
      exact (h.setFar (w.heap.size + 1) 0 _ (by omega)).mono (by omega)

end Go.Proofs.YtkjjgpkegihmhaaDoor
