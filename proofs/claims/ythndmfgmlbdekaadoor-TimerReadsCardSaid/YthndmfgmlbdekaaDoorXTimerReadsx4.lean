-- Made by this seat's own program wip/tools/xprint.py and thread.py.
import Derived.Test.YthndmfgmlbdekaaDoorXTimerReadsx0
namespace Go.Proofs.YthndmfgmlbdekaaDoor.XTimerReads
open Go.RowKit Go.Proofs.YthndmfgmlbdekaaDoor.Ext Go.Proofs.YthndmfgmlbdekaaDoorW.PrintWords Go.Proofs.YthndmfgmlbdekaaDoorW.PrintLast Go.Proofs.YthndmfgmlbdekaaDoorW.PrintMore
attribute [local go_sem] max2_int min2_int max_two min_two max_three min_three max_four min_four   -- for this text's walks alone
set_option linter.unusedVariables false
set_option linter.unusedSimpArgs false

/-! ### tandemref6_divider: function 38 -/
def tandemref6_divider.f (a0 : Int) : Option (Int) := if (((Int.tdiv a0 8) % 256) % 4) = 0 then (some 1) else (if (((Int.tdiv a0 8) % 256) % 4) = 1 then (some 8) else (if (((Int.tdiv a0 8) % 256) % 4) = 2 then (some 64) else (some 256)))
set_option maxHeartbeats 8000000 in
set_option maxRecDepth 100000 in
theorem tandemref6_divider.calls (a0 : Int) (r : Int) (w : World) (h : tandemref6_divider.f a0 = some r) :
    Calls Tryd.prog 38 #[.int .u8 a0] w fun e w' => e = .returned (.int .i64 r) ∧ Drawn0 w w' := by
  have H : (if (((Int.tdiv a0 8) % 256) % 4) = 0 then (some 1) else (if (((Int.tdiv a0 8) % 256) % 4) = 1 then (some 8) else (if (((Int.tdiv a0 8) % 256) % 4) = 2 then (some 64) else (some 256)))) = some r := h
  clear h
  by_cases c2 : (((Int.tdiv a0 8) % 256) % 4) = 0
  · rw [if_pos c2] at H
    have c2b0 : ((((Int.tdiv a0 8) % 256) % 4) == 0) = true := beq_iff_eq.mpr c2
    have c2b1 : ((((Int.tdiv a0 8) % 256) % 4) != 0) = false := bne_eq_false_iff_eq.mpr c2
    clear c2
    obtain rfl := Option.some.inj H
    go_enter Tryd.func38, Tryd.ntmps38
    go_wp2
    go_ret
    exact ⟨by first | rfl | (simp; done) | (simp [*]; done), by repeat (first | exact Drawn0.refl _ | apply Drawn0.step)⟩
  · rw [if_neg c2] at H
    have c2b0 : ((((Int.tdiv a0 8) % 256) % 4) == 0) = false := beq_eq_false_iff_ne.mpr c2
    have c2b1 : ((((Int.tdiv a0 8) % 256) % 4) != 0) = true := bne_iff_ne.mpr c2
    by_cases c3 : (((Int.tdiv a0 8) % 256) % 4) = 1
    · rw [if_pos c3] at H
      have c3b0 : ((((Int.tdiv a0 8) % 256) % 4) == 1) = true := beq_iff_eq.mpr c3
      have c3b1 : ((((Int.tdiv a0 8) % 256) % 4) != 1) = false := bne_eq_false_iff_eq.mpr c3
      clear c3
      obtain rfl := Option.some.inj H
      go_enter Tryd.func38, Tryd.ntmps38
      go_wp2
      go_ret
      exact ⟨by first | rfl | (simp; done) | (simp [*]; done), by repeat (first | exact Drawn0.refl _ | apply Drawn0.step)⟩
    · rw [if_neg c3] at H
      have c3b0 : ((((Int.tdiv a0 8) % 256) % 4) == 1) = false := beq_eq_false_iff_ne.mpr c3
      have c3b1 : ((((Int.tdiv a0 8) % 256) % 4) != 1) = true := bne_iff_ne.mpr c3
      by_cases c4 : (((Int.tdiv a0 8) % 256) % 4) = 2
      · rw [if_pos c4] at H
        have c4b0 : ((((Int.tdiv a0 8) % 256) % 4) == 2) = true := beq_iff_eq.mpr c4
        have c4b1 : ((((Int.tdiv a0 8) % 256) % 4) != 2) = false := bne_eq_false_iff_eq.mpr c4
        clear c4
        obtain rfl := Option.some.inj H
        go_enter Tryd.func38, Tryd.ntmps38
        go_wp2
        go_ret
        exact ⟨by first | rfl | (simp; done) | (simp [*]; done), by repeat (first | exact Drawn0.refl _ | apply Drawn0.step)⟩
      · rw [if_neg c4] at H
        have c4b0 : ((((Int.tdiv a0 8) % 256) % 4) == 2) = false := beq_eq_false_iff_ne.mpr c4
        have c4b1 : ((((Int.tdiv a0 8) % 256) % 4) != 2) = true := bne_iff_ne.mpr c4
        obtain rfl := Option.some.inj H
        go_enter Tryd.func38, Tryd.ntmps38
        go_wp2
        go_ret
        exact ⟨by first | rfl | (simp; done) | (simp [*]; done), by repeat (first | exact Drawn0.refl _ | apply Drawn0.step)⟩

/-! ### tandemref6_Valid: function 29 -/
def tandemref6_Valid.j0 : Nat → Bool → Int → Int → Int → Int → Int → Bool → Bool → Bool → Bool → Bool → Int → Int → Int → Option (Bool)
  | 0, _, _, _, _, _, _, _, _, _, _, _, _, _, _ => none
  | k + 1, x20, x107000, x107001, x107002, x107003, x107004, x107005, x107006, x107007, x107008, x107009, x107010, x107011, x107012 => if x20 = true then (some false) else ((tandemref6_divider.f x107004).bind fun t107 => (if (wrap64 (x107002)) ≥ t107 then (some false) else (if x107006 = true then (if x107005 = true then (if x107008 = true then (some (!x107009)) else (some true)) else (some false)) else (if x107008 = true then (some (!x107009)) else (some true)))))
def tandemref6_Valid.f (k : Nat) (a0_0 : Int) (a0_1 : Int) (a0_2 : Int) (a0_3 : Int) (a0_4 : Int) (a0_5 : Bool) (a0_6 : Bool) (a0_7 : Bool) (a0_8 : Bool) (a0_9 : Bool) (a0_10 : Int) (a0_11 : Int) (a0_12 : Int) : Option (Bool) := if a0_4 ≥ 32 then (tandemref6_Valid.j0 k true a0_0 a0_1 a0_2 a0_3 a0_4 a0_5 a0_6 a0_7 a0_8 a0_9 a0_10 a0_11 a0_12) else (if a0_10 > 37281 then (tandemref6_Valid.j0 k true a0_0 a0_1 a0_2 a0_3 a0_4 a0_5 a0_6 a0_7 a0_8 a0_9 a0_10 a0_11 a0_12) else (if a0_11 > 4 then (tandemref6_Valid.j0 k true a0_0 a0_1 a0_2 a0_3 a0_4 a0_5 a0_6 a0_7 a0_8 a0_9 a0_10 a0_11 a0_12) else (tandemref6_Valid.j0 k (decide (a0_12 > 63)) a0_0 a0_1 a0_2 a0_3 a0_4 a0_5 a0_6 a0_7 a0_8 a0_9 a0_10 a0_11 a0_12)))
theorem tandemref6_Valid.mono_l : ∀ k, (∀ y0 y1 y2 y3 y4 y5 y6 y7 y8 y9 y10 y11 y12 y13, LeO (tandemref6_Valid.j0 k y0 y1 y2 y3 y4 y5 y6 y7 y8 y9 y10 y11 y12 y13) (tandemref6_Valid.j0 (k + 1) y0 y1 y2 y3 y4 y5 y6 y7 y8 y9 y10 y11 y12 y13))
  | 0 => fun _ _ _ _ _ _ _ _ _ _ _ _ _ _ r h => by simp [tandemref6_Valid.j0] at h
  | k + 1 => by
    have ih0 := tandemref6_Valid.mono_l k
    · intro y0 y1 y2 y3 y4 y5 y6 y7 y8 y9 y10 y11 y12 y13
      unfold tandemref6_Valid.j0
      repeat' first
      | (with_reducible exact ih0 _ _ _ _ _ _ _ _ _ _ _ _ _ _)
      | (with_reducible exact LeO.refl _)
      | (with_reducible exact LeO.none _)
      | (with_reducible refine LeO.ite ?_ ?_)
      | (with_reducible refine LeO.bind ?_ (fun _ => ?_))
      | exact ih0 _ _ _ _ _ _ _ _ _ _ _ _ _ _
      | exact LeO.none _
      | refine LeO.ite ?_ ?_
      | refine LeO.bind ?_ (fun _ => ?_)
theorem tandemref6_Valid.mono : ∀ a0 a1 a2 a3 a4 a5 a6 a7 a8 a9 a10 a11 a12 k, LeO (tandemref6_Valid.f k a0 a1 a2 a3 a4 a5 a6 a7 a8 a9 a10 a11 a12) (tandemref6_Valid.f (k + 1) a0 a1 a2 a3 a4 a5 a6 a7 a8 a9 a10 a11 a12) := by
  intro a0 a1 a2 a3 a4 a5 a6 a7 a8 a9 a10 a11 a12 k
  have ih0 := tandemref6_Valid.mono_l k
  unfold tandemref6_Valid.f
  repeat' first
      | (with_reducible exact ih0 _ _ _ _ _ _ _ _ _ _ _ _ _ _)
      | (with_reducible exact LeO.refl _)
      | (with_reducible exact LeO.none _)
      | (with_reducible refine LeO.ite ?_ ?_)
      | (with_reducible refine LeO.bind ?_ (fun _ => ?_))
      | exact ih0 _ _ _ _ _ _ _ _ _ _ _ _ _ _
      | exact LeO.none _
      | refine LeO.ite ?_ ?_
      | refine LeO.bind ?_ (fun _ => ?_)
set_option maxHeartbeats 8000000 in
set_option maxRecDepth 100000 in
theorem tandemref6_Valid.calls (k : Nat) (a0_0 : Int) (a0_1 : Int) (a0_2 : Int) (a0_3 : Int) (a0_4 : Int) (a0_5 : Bool) (a0_6 : Bool) (a0_7 : Bool) (a0_8 : Bool) (a0_9 : Bool) (a0_10 : Int) (a0_11 : Int) (a0_12 : Int) (r : Bool) (w : World) (h : tandemref6_Valid.f k a0_0 a0_1 a0_2 a0_3 a0_4 a0_5 a0_6 a0_7 a0_8 a0_9 a0_10 a0_11 a0_12 = some r) :
    Calls Tryd.prog 29 #[.agg #[.int .u16 a0_0, .int .u16 a0_1, .int .u16 a0_2, .int .u8 a0_3, .int .u8 a0_4, .bool a0_5, .bool a0_6, .bool a0_7, .bool a0_8, .bool a0_9, .int .u16 a0_10, .int .u8 a0_11, .int .u8 a0_12]] w fun e w' => e = .returned (.bool r) ∧ Below w.heap.size w w' := by
  have hu24 := Tryd.underlying24
  have HB := Aside0.mk (Below.refl w.heap.size w)
  have H : (if a0_4 ≥ 32 then (tandemref6_Valid.j0 k true a0_0 a0_1 a0_2 a0_3 a0_4 a0_5 a0_6 a0_7 a0_8 a0_9 a0_10 a0_11 a0_12) else (if a0_10 > 37281 then (tandemref6_Valid.j0 k true a0_0 a0_1 a0_2 a0_3 a0_4 a0_5 a0_6 a0_7 a0_8 a0_9 a0_10 a0_11 a0_12) else (if a0_11 > 4 then (tandemref6_Valid.j0 k true a0_0 a0_1 a0_2 a0_3 a0_4 a0_5 a0_6 a0_7 a0_8 a0_9 a0_10 a0_11 a0_12) else (tandemref6_Valid.j0 k (decide (a0_12 > 63)) a0_0 a0_1 a0_2 a0_3 a0_4 a0_5 a0_6 a0_7 a0_8 a0_9 a0_10 a0_11 a0_12)))) = some r := h
  clear h
  have HC2 := Aside0.mk H
  clear H
  go_enter Tryd.func29, Tryd.ntmps29
  go_upto_region 1 with (first | ((with_reducible refine gate_dst (N := 1) rfl ?_); refine box_event ?hg (N := 1) ?hd (cs := #[.int .u16 a0_0, .int .u16 a0_1, .int .u16 a0_2, .int .u8 a0_3, .int .u8 a0_4, .bool a0_5, .bool a0_6, .bool a0_7, .bool a0_8, .bool a0_9, .int .u16 a0_10, .int .u8 a0_11, .int .u8 a0_12]) (t := 24) ?hr ?_; (case hd => rfl); (case hg => rfl); (case hr => first | (go_simp; done) | (go_simp; rfl)); intro gb106 hg w3 hbox hb; have n0_ := Aside0.mk (below_step (by repeat (first | (with_reducible first | exact HB.out | apply below_alloc | apply pw_below_drewN | apply below_drew1) | exact HB.out)) hb); have n1_ := Aside0.mk (hbox); have n2_ := Aside0.mk ((by rw [hg]; exact (below_size (by repeat (first | (with_reducible first | exact HB.out | apply below_alloc | apply pw_below_drewN | apply below_drew1) | exact HB.out))) : w.heap.size ≤ gb106)); have n3_ := Aside0.mk ((by rw [hg]; exact (below_size (by repeat (first | (with_reducible first | exact HB.out | apply below_alloc | apply pw_below_drewN | apply below_drew1) | exact HB.out))) : w.heap.size ≤ gb106)); clear HB; have HB := n0_; have BK106 := n1_; have GW106 := n2_; have GE106 := n3_; clear n0_ n1_ n2_ n3_; clear hb hbox hg))
  repeat (go_quiet (first | ((with_reducible refine gate_dst (N := 1) rfl ?_); refine box_event ?hg (N := 1) ?hd (cs := #[.int .u16 a0_0, .int .u16 a0_1, .int .u16 a0_2, .int .u8 a0_3, .int .u8 a0_4, .bool a0_5, .bool a0_6, .bool a0_7, .bool a0_8, .bool a0_9, .int .u16 a0_10, .int .u8 a0_11, .int .u8 a0_12]) (t := 24) ?hr ?_; (case hd => rfl); (case hg => rfl); (case hr => first | (go_simp; done) | (go_simp; rfl)); intro gb106 hg w3 hbox hb; have n0_ := Aside0.mk (below_step (by repeat (first | (with_reducible first | exact HB.out | apply below_alloc | apply pw_below_drewN | apply below_drew1) | exact HB.out)) hb); have n1_ := Aside0.mk (hbox); have n2_ := Aside0.mk ((by rw [hg]; exact (below_size (by repeat (first | (with_reducible first | exact HB.out | apply below_alloc | apply pw_below_drewN | apply below_drew1) | exact HB.out))) : w.heap.size ≤ gb106)); have n3_ := Aside0.mk ((by rw [hg]; exact (below_size (by repeat (first | (with_reducible first | exact HB.out | apply below_alloc | apply pw_below_drewN | apply below_drew1) | exact HB.out))) : w.heap.size ≤ gb106)); clear HB; have HB := n0_; have BK106 := n1_; have GW106 := n2_; have GE106 := n3_; clear n0_ n1_ n2_ n3_; clear hb hbox hg)); go_upto_region 1 with (first | ((with_reducible refine gate_dst (N := 1) rfl ?_); refine box_event ?hg (N := 1) ?hd (cs := #[.int .u16 a0_0, .int .u16 a0_1, .int .u16 a0_2, .int .u8 a0_3, .int .u8 a0_4, .bool a0_5, .bool a0_6, .bool a0_7, .bool a0_8, .bool a0_9, .int .u16 a0_10, .int .u8 a0_11, .int .u8 a0_12]) (t := 24) ?hr ?_; (case hd => rfl); (case hg => rfl); (case hr => first | (go_simp; done) | (go_simp; rfl)); intro gb106 hg w3 hbox hb; have n0_ := Aside0.mk (below_step (by repeat (first | (with_reducible first | exact HB.out | apply below_alloc | apply pw_below_drewN | apply below_drew1) | exact HB.out)) hb); have n1_ := Aside0.mk (hbox); have n2_ := Aside0.mk ((by rw [hg]; exact (below_size (by repeat (first | (with_reducible first | exact HB.out | apply below_alloc | apply pw_below_drewN | apply below_drew1) | exact HB.out))) : w.heap.size ≤ gb106)); have n3_ := Aside0.mk ((by rw [hg]; exact (below_size (by repeat (first | (with_reducible first | exact HB.out | apply below_alloc | apply pw_below_drewN | apply below_drew1) | exact HB.out))) : w.heap.size ≤ gb106)); clear HB; have HB := n0_; have BK106 := n1_; have GW106 := n2_; have GE106 := n3_; clear n0_ n1_ n2_ n3_; clear hb hbox hg)))
  (try simp only [Act.put, List.setIfInBounds_toArray, List.set_cons_zero, List.set_cons_succ])
  go_cut [20] (fun v20 wc => ∃ (kq : Nat) (x20_1 : Bool), v20 = .bool x20_1 ∧ Aside0 (tandemref6_Valid.j0 kq x20_1 a0_0 a0_1 a0_2 a0_3 a0_4 a0_5 a0_6 a0_7 a0_8 a0_9 a0_10 a0_11 a0_12 = some r) ∧ Aside0 (kq ≤ k) ∧ Aside0 (wc.heap[gb106]? = some (.cells #[.int .u16 a0_0, .int .u16 a0_1, .int .u16 a0_2, .int .u8 a0_3, .int .u8 a0_4, .bool a0_5, .bool a0_6, .bool a0_7, .bool a0_8, .bool a0_9, .int .u16 a0_10, .int .u8 a0_11, .int .u8 a0_12] 24 (0, 0))) ∧ Aside0 (Below w.heap.size w wc))
  case first =>
    have H := HC2.out
    clear HC2
    by_cases c4 : a0_4 ≥ 32
    · rw [if_pos c4] at H
      have c4b0 : decide (32 ≤ a0_4) = true := decide_eq_true c4
      clear c4
      (first | rw [c4b0] | (simp only [i64_w, i32_w]; rw [c4b0]) | skip)
      have H' := Aside0.mk H
      clear H
      have hcz5_0 : w3.cell? ⟨gb106, 0, none⟩ = some (.int .u16 a0_0) := (blk_cell BK106.out 0).trans rfl
      have hcz5_1 : w3.cell? ⟨gb106, 1, none⟩ = some (.int .u16 a0_1) := (blk_cell BK106.out 1).trans rfl
      have hcz5_2 : w3.cell? ⟨gb106, 2, none⟩ = some (.int .u16 a0_2) := (blk_cell BK106.out 2).trans rfl
      have hcz5_3 : w3.cell? ⟨gb106, 3, none⟩ = some (.int .u8 a0_3) := (blk_cell BK106.out 3).trans rfl
      have hcz5_4 : w3.cell? ⟨gb106, 4, none⟩ = some (.int .u8 a0_4) := (blk_cell BK106.out 4).trans rfl
      have hcz5_5 : w3.cell? ⟨gb106, 5, none⟩ = some (.bool a0_5) := (blk_cell BK106.out 5).trans rfl
      have hcz5_6 : w3.cell? ⟨gb106, 6, none⟩ = some (.bool a0_6) := (blk_cell BK106.out 6).trans rfl
      have hcz5_7 : w3.cell? ⟨gb106, 7, none⟩ = some (.bool a0_7) := (blk_cell BK106.out 7).trans rfl
      have hcz5_8 : w3.cell? ⟨gb106, 8, none⟩ = some (.bool a0_8) := (blk_cell BK106.out 8).trans rfl
      have hcz5_9 : w3.cell? ⟨gb106, 9, none⟩ = some (.bool a0_9) := (blk_cell BK106.out 9).trans rfl
      have hcz5_10 : w3.cell? ⟨gb106, 10, none⟩ = some (.int .u16 a0_10) := (blk_cell BK106.out 10).trans rfl
      have hcz5_11 : w3.cell? ⟨gb106, 11, none⟩ = some (.int .u8 a0_11) := (blk_cell BK106.out 11).trans rfl
      have hcz5_12 : w3.cell? ⟨gb106, 12, none⟩ = some (.int .u8 a0_12) := (blk_cell BK106.out 12).trans rfl
      have hfz5_0 := blk_frozen BK106.out 0
      have hfz5_1 := blk_frozen BK106.out 1
      have hfz5_2 := blk_frozen BK106.out 2
      have hfz5_3 := blk_frozen BK106.out 3
      have hfz5_4 := blk_frozen BK106.out 4
      have hfz5_5 := blk_frozen BK106.out 5
      have hfz5_6 := blk_frozen BK106.out 6
      have hfz5_7 := blk_frozen BK106.out 7
      have hfz5_8 := blk_frozen BK106.out 8
      have hfz5_9 := blk_frozen BK106.out 9
      have hfz5_10 := blk_frozen BK106.out 10
      have hfz5_11 := blk_frozen BK106.out 11
      have hfz5_12 := blk_frozen BK106.out 12
      go_wp2
      repeat (go_quiet (fail); try go_wp2)
      go_meet
      case rel => exact ⟨_, (true), (by first | rfl | (simp; done) | (simp [*]; done)), H', ⟨by first | omega | exact Nat.le_refl _⟩, ⟨by (with_reducible repeat (first | refine blk_drewN ?_ _ | refine blk_drew ?_ | refine blk_alloc ?_ _)); exact BK106.out⟩, ⟨by repeat (first | (with_reducible first | exact HB.out | apply below_alloc | apply pw_below_drewN | apply below_drew1 | refine below_set ?_ GE106.out) | exact HB.out)⟩⟩
    · rw [if_neg c4] at H
      have c4b0 : decide (32 ≤ a0_4) = false := decide_eq_false c4
      clear c4
      (first | rw [c4b0] | (simp only [i64_w, i32_w]; rw [c4b0]) | skip)
      by_cases c6 : a0_10 > 37281
      · rw [if_pos c6] at H
        have c6b0 : decide (37281 < a0_10) = true := decide_eq_true c6
        clear c6
        have H' := Aside0.mk H
        clear H
        have hcz7_0 : w3.cell? ⟨gb106, 0, none⟩ = some (.int .u16 a0_0) := (blk_cell BK106.out 0).trans rfl
        have hcz7_1 : w3.cell? ⟨gb106, 1, none⟩ = some (.int .u16 a0_1) := (blk_cell BK106.out 1).trans rfl
        have hcz7_2 : w3.cell? ⟨gb106, 2, none⟩ = some (.int .u16 a0_2) := (blk_cell BK106.out 2).trans rfl
        have hcz7_3 : w3.cell? ⟨gb106, 3, none⟩ = some (.int .u8 a0_3) := (blk_cell BK106.out 3).trans rfl
        have hcz7_4 : w3.cell? ⟨gb106, 4, none⟩ = some (.int .u8 a0_4) := (blk_cell BK106.out 4).trans rfl
        have hcz7_5 : w3.cell? ⟨gb106, 5, none⟩ = some (.bool a0_5) := (blk_cell BK106.out 5).trans rfl
        have hcz7_6 : w3.cell? ⟨gb106, 6, none⟩ = some (.bool a0_6) := (blk_cell BK106.out 6).trans rfl
        have hcz7_7 : w3.cell? ⟨gb106, 7, none⟩ = some (.bool a0_7) := (blk_cell BK106.out 7).trans rfl
        have hcz7_8 : w3.cell? ⟨gb106, 8, none⟩ = some (.bool a0_8) := (blk_cell BK106.out 8).trans rfl
        have hcz7_9 : w3.cell? ⟨gb106, 9, none⟩ = some (.bool a0_9) := (blk_cell BK106.out 9).trans rfl
        have hcz7_10 : w3.cell? ⟨gb106, 10, none⟩ = some (.int .u16 a0_10) := (blk_cell BK106.out 10).trans rfl
        have hcz7_11 : w3.cell? ⟨gb106, 11, none⟩ = some (.int .u8 a0_11) := (blk_cell BK106.out 11).trans rfl
        have hcz7_12 : w3.cell? ⟨gb106, 12, none⟩ = some (.int .u8 a0_12) := (blk_cell BK106.out 12).trans rfl
        have hfz7_0 := blk_frozen BK106.out 0
        have hfz7_1 := blk_frozen BK106.out 1
        have hfz7_2 := blk_frozen BK106.out 2
        have hfz7_3 := blk_frozen BK106.out 3
        have hfz7_4 := blk_frozen BK106.out 4
        have hfz7_5 := blk_frozen BK106.out 5
        have hfz7_6 := blk_frozen BK106.out 6
        have hfz7_7 := blk_frozen BK106.out 7
        have hfz7_8 := blk_frozen BK106.out 8
        have hfz7_9 := blk_frozen BK106.out 9
        have hfz7_10 := blk_frozen BK106.out 10
        have hfz7_11 := blk_frozen BK106.out 11
        have hfz7_12 := blk_frozen BK106.out 12
        go_wp2
        repeat (go_quiet (fail); try go_wp2)
        go_meet
        case rel => exact ⟨_, (true), (by first | rfl | (simp; done) | (simp [*]; done)), H', ⟨by first | omega | exact Nat.le_refl _⟩, ⟨by (with_reducible repeat (first | refine blk_drewN ?_ _ | refine blk_drew ?_ | refine blk_alloc ?_ _)); exact BK106.out⟩, ⟨by repeat (first | (with_reducible first | exact HB.out | apply below_alloc | apply pw_below_drewN | apply below_drew1 | refine below_set ?_ GE106.out) | exact HB.out)⟩⟩
      · rw [if_neg c6] at H
        have c6b0 : decide (37281 < a0_10) = false := decide_eq_false c6
        clear c6
        by_cases c8 : a0_11 > 4
        · rw [if_pos c8] at H
          have c8b0 : decide (4 < a0_11) = true := decide_eq_true c8
          clear c8
          have H' := Aside0.mk H
          clear H
          have hcz9_0 : w3.cell? ⟨gb106, 0, none⟩ = some (.int .u16 a0_0) := (blk_cell BK106.out 0).trans rfl
          have hcz9_1 : w3.cell? ⟨gb106, 1, none⟩ = some (.int .u16 a0_1) := (blk_cell BK106.out 1).trans rfl
          have hcz9_2 : w3.cell? ⟨gb106, 2, none⟩ = some (.int .u16 a0_2) := (blk_cell BK106.out 2).trans rfl
          have hcz9_3 : w3.cell? ⟨gb106, 3, none⟩ = some (.int .u8 a0_3) := (blk_cell BK106.out 3).trans rfl
          have hcz9_4 : w3.cell? ⟨gb106, 4, none⟩ = some (.int .u8 a0_4) := (blk_cell BK106.out 4).trans rfl
          have hcz9_5 : w3.cell? ⟨gb106, 5, none⟩ = some (.bool a0_5) := (blk_cell BK106.out 5).trans rfl
          have hcz9_6 : w3.cell? ⟨gb106, 6, none⟩ = some (.bool a0_6) := (blk_cell BK106.out 6).trans rfl
          have hcz9_7 : w3.cell? ⟨gb106, 7, none⟩ = some (.bool a0_7) := (blk_cell BK106.out 7).trans rfl
          have hcz9_8 : w3.cell? ⟨gb106, 8, none⟩ = some (.bool a0_8) := (blk_cell BK106.out 8).trans rfl
          have hcz9_9 : w3.cell? ⟨gb106, 9, none⟩ = some (.bool a0_9) := (blk_cell BK106.out 9).trans rfl
          have hcz9_10 : w3.cell? ⟨gb106, 10, none⟩ = some (.int .u16 a0_10) := (blk_cell BK106.out 10).trans rfl
          have hcz9_11 : w3.cell? ⟨gb106, 11, none⟩ = some (.int .u8 a0_11) := (blk_cell BK106.out 11).trans rfl
          have hcz9_12 : w3.cell? ⟨gb106, 12, none⟩ = some (.int .u8 a0_12) := (blk_cell BK106.out 12).trans rfl
          have hfz9_0 := blk_frozen BK106.out 0
          have hfz9_1 := blk_frozen BK106.out 1
          have hfz9_2 := blk_frozen BK106.out 2
          have hfz9_3 := blk_frozen BK106.out 3
          have hfz9_4 := blk_frozen BK106.out 4
          have hfz9_5 := blk_frozen BK106.out 5
          have hfz9_6 := blk_frozen BK106.out 6
          have hfz9_7 := blk_frozen BK106.out 7
          have hfz9_8 := blk_frozen BK106.out 8
          have hfz9_9 := blk_frozen BK106.out 9
          have hfz9_10 := blk_frozen BK106.out 10
          have hfz9_11 := blk_frozen BK106.out 11
          have hfz9_12 := blk_frozen BK106.out 12
          go_wp2
          repeat (go_quiet (fail); try go_wp2)
          go_meet
          case rel => exact ⟨_, (true), (by first | rfl | (simp; done) | (simp [*]; done)), H', ⟨by first | omega | exact Nat.le_refl _⟩, ⟨by (with_reducible repeat (first | refine blk_drewN ?_ _ | refine blk_drew ?_ | refine blk_alloc ?_ _)); exact BK106.out⟩, ⟨by repeat (first | (with_reducible first | exact HB.out | apply below_alloc | apply pw_below_drewN | apply below_drew1 | refine below_set ?_ GE106.out) | exact HB.out)⟩⟩
        · rw [if_neg c8] at H
          have c8b0 : decide (4 < a0_11) = false := decide_eq_false c8
          clear c8
          have H' := Aside0.mk H
          clear H
          have hcz10_0 : w3.cell? ⟨gb106, 0, none⟩ = some (.int .u16 a0_0) := (blk_cell BK106.out 0).trans rfl
          have hcz10_1 : w3.cell? ⟨gb106, 1, none⟩ = some (.int .u16 a0_1) := (blk_cell BK106.out 1).trans rfl
          have hcz10_2 : w3.cell? ⟨gb106, 2, none⟩ = some (.int .u16 a0_2) := (blk_cell BK106.out 2).trans rfl
          have hcz10_3 : w3.cell? ⟨gb106, 3, none⟩ = some (.int .u8 a0_3) := (blk_cell BK106.out 3).trans rfl
          have hcz10_4 : w3.cell? ⟨gb106, 4, none⟩ = some (.int .u8 a0_4) := (blk_cell BK106.out 4).trans rfl
          have hcz10_5 : w3.cell? ⟨gb106, 5, none⟩ = some (.bool a0_5) := (blk_cell BK106.out 5).trans rfl
          have hcz10_6 : w3.cell? ⟨gb106, 6, none⟩ = some (.bool a0_6) := (blk_cell BK106.out 6).trans rfl
          have hcz10_7 : w3.cell? ⟨gb106, 7, none⟩ = some (.bool a0_7) := (blk_cell BK106.out 7).trans rfl
          have hcz10_8 : w3.cell? ⟨gb106, 8, none⟩ = some (.bool a0_8) := (blk_cell BK106.out 8).trans rfl
          have hcz10_9 : w3.cell? ⟨gb106, 9, none⟩ = some (.bool a0_9) := (blk_cell BK106.out 9).trans rfl
          have hcz10_10 : w3.cell? ⟨gb106, 10, none⟩ = some (.int .u16 a0_10) := (blk_cell BK106.out 10).trans rfl
          have hcz10_11 : w3.cell? ⟨gb106, 11, none⟩ = some (.int .u8 a0_11) := (blk_cell BK106.out 11).trans rfl
          have hcz10_12 : w3.cell? ⟨gb106, 12, none⟩ = some (.int .u8 a0_12) := (blk_cell BK106.out 12).trans rfl
          have hfz10_0 := blk_frozen BK106.out 0
          have hfz10_1 := blk_frozen BK106.out 1
          have hfz10_2 := blk_frozen BK106.out 2
          have hfz10_3 := blk_frozen BK106.out 3
          have hfz10_4 := blk_frozen BK106.out 4
          have hfz10_5 := blk_frozen BK106.out 5
          have hfz10_6 := blk_frozen BK106.out 6
          have hfz10_7 := blk_frozen BK106.out 7
          have hfz10_8 := blk_frozen BK106.out 8
          have hfz10_9 := blk_frozen BK106.out 9
          have hfz10_10 := blk_frozen BK106.out 10
          have hfz10_11 := blk_frozen BK106.out 11
          have hfz10_12 := blk_frozen BK106.out 12
          go_wp2
          repeat (go_quiet (fail); try go_wp2)
          go_meet
          case rel => exact ⟨_, (decide (a0_12 > 63)), (by first | rfl | (simp; done) | (simp [*]; done)), H', ⟨by first | omega | exact Nat.le_refl _⟩, ⟨by (with_reducible repeat (first | refine blk_drewN ?_ _ | refine blk_drew ?_ | refine blk_alloc ?_ _)); exact BK106.out⟩, ⟨by repeat (first | (with_reducible first | exact HB.out | apply below_alloc | apply pw_below_drewN | apply below_drew1 | refine below_set ?_ GE106.out) | exact HB.out)⟩⟩
  case rest =>
    clear HC2
    try clear c2
    try clear p2
    try clear c4
    try clear c4b0
    try clear c6
    try clear c6b0
    try clear c8
    try clear c8b0
    try clear hcz10_0
    try clear hcz10_1
    try clear hcz10_10
    try clear hcz10_11
    try clear hcz10_12
    try clear hcz10_2
    try clear hcz10_3
    try clear hcz10_4
    try clear hcz10_5
    try clear hcz10_6
    try clear hcz10_7
    try clear hcz10_8
    try clear hcz10_9
    try clear hcz5_0
    try clear hcz5_1
    try clear hcz5_10
    try clear hcz5_11
    try clear hcz5_12
    try clear hcz5_2
    try clear hcz5_3
    try clear hcz5_4
    try clear hcz5_5
    try clear hcz5_6
    try clear hcz5_7
    try clear hcz5_8
    try clear hcz5_9
    try clear hcz7_0
    try clear hcz7_1
    try clear hcz7_10
    try clear hcz7_11
    try clear hcz7_12
    try clear hcz7_2
    try clear hcz7_3
    try clear hcz7_4
    try clear hcz7_5
    try clear hcz7_6
    try clear hcz7_7
    try clear hcz7_8
    try clear hcz7_9
    try clear hcz9_0
    try clear hcz9_1
    try clear hcz9_10
    try clear hcz9_11
    try clear hcz9_12
    try clear hcz9_2
    try clear hcz9_3
    try clear hcz9_4
    try clear hcz9_5
    try clear hcz9_6
    try clear hcz9_7
    try clear hcz9_8
    try clear hcz9_9
    try clear hfz10_0
    try clear hfz10_1
    try clear hfz10_10
    try clear hfz10_11
    try clear hfz10_12
    try clear hfz10_2
    try clear hfz10_3
    try clear hfz10_4
    try clear hfz10_5
    try clear hfz10_6
    try clear hfz10_7
    try clear hfz10_8
    try clear hfz10_9
    try clear hfz5_0
    try clear hfz5_1
    try clear hfz5_10
    try clear hfz5_11
    try clear hfz5_12
    try clear hfz5_2
    try clear hfz5_3
    try clear hfz5_4
    try clear hfz5_5
    try clear hfz5_6
    try clear hfz5_7
    try clear hfz5_8
    try clear hfz5_9
    try clear hfz7_0
    try clear hfz7_1
    try clear hfz7_10
    try clear hfz7_11
    try clear hfz7_12
    try clear hfz7_2
    try clear hfz7_3
    try clear hfz7_4
    try clear hfz7_5
    try clear hfz7_6
    try clear hfz7_7
    try clear hfz7_8
    try clear hfz7_9
    try clear hfz9_0
    try clear hfz9_1
    try clear hfz9_10
    try clear hfz9_11
    try clear hfz9_12
    try clear hfz9_2
    try clear hfz9_3
    try clear hfz9_4
    try clear hfz9_5
    try clear hfz9_6
    try clear hfz9_7
    try clear hfz9_8
    try clear hfz9_9
    obtain ⟨kq, x20_1, rfl, HA, HJ1, BK106, HB⟩ := hcut
    cases kq with
    | zero => exact absurd HA.out (by simp [tandemref6_Valid.j0])
    | succ kj1 =>
      have H := HA.out
      clear HA
      simp only [tandemref6_Valid.j0] at H
      by_cases c11 : x20_1 = true
      · subst c11
        have H1 : (some false) = some r := by rw [if_pos rfl] at H; exact H
        clear H
        have H := H1
        clear H1
        obtain rfl := Option.some.inj H
        go_wp2
        repeat (go_quiet (fail); try go_wp2)
        go_ret
        exact ⟨by first | rfl | (simp [errW_none, errW_some] <;> rfl) | (simp [*, errW_none, errW_some] <;> rfl), by repeat (first | (with_reducible first | exact HB.out | apply below_alloc | apply pw_below_drewN | apply below_drew1 | refine below_set ?_ GE106.out) | exact HB.out)⟩
      · replace c11 := Bool.eq_false_iff.mpr c11
        subst c11
        have H1 : ((tandemref6_divider.f a0_4).bind fun t107 => (if (wrap64 (a0_2)) ≥ t107 then (some false) else (if a0_6 = true then (if a0_5 = true then (if a0_8 = true then (some (!a0_9)) else (some true)) else (some false)) else (if a0_8 = true then (some (!a0_9)) else (some true))))) = some r := by rw [if_neg (show ¬ (false = true) by decide)] at H; exact H
        clear H
        have H := H1
        clear H1
        replace H := Option.bind_eq_some_iff.mp H
        obtain ⟨t107, A120, H⟩ := H
        replace H : (if (wrap64 (a0_2)) ≥ t107 then (some false) else (if a0_6 = true then (if a0_5 = true then (if a0_8 = true then (some (!a0_9)) else (some true)) else (some false)) else (if a0_8 = true then (some (!a0_9)) else (some true)))) = some r := H
        have A12 := Aside0.mk A120
        clear A120
        by_cases c13 : (wrap64 (a0_2)) ≥ t107
        · rw [if_pos c13] at H
          have c13b0 : decide (t107 ≤ (wrap64 (a0_2))) = true := decide_eq_true c13
          clear c13
          obtain rfl := Option.some.inj H
          have hcz14_0 : wc.cell? ⟨gb106, 0, none⟩ = some (.int .u16 a0_0) := (blk_cell BK106.out 0).trans rfl
          have hcz14_1 : wc.cell? ⟨gb106, 1, none⟩ = some (.int .u16 a0_1) := (blk_cell BK106.out 1).trans rfl
          have hcz14_2 : wc.cell? ⟨gb106, 2, none⟩ = some (.int .u16 a0_2) := (blk_cell BK106.out 2).trans rfl
          have hcz14_3 : wc.cell? ⟨gb106, 3, none⟩ = some (.int .u8 a0_3) := (blk_cell BK106.out 3).trans rfl
          have hcz14_4 : wc.cell? ⟨gb106, 4, none⟩ = some (.int .u8 a0_4) := (blk_cell BK106.out 4).trans rfl
          have hcz14_5 : wc.cell? ⟨gb106, 5, none⟩ = some (.bool a0_5) := (blk_cell BK106.out 5).trans rfl
          have hcz14_6 : wc.cell? ⟨gb106, 6, none⟩ = some (.bool a0_6) := (blk_cell BK106.out 6).trans rfl
          have hcz14_7 : wc.cell? ⟨gb106, 7, none⟩ = some (.bool a0_7) := (blk_cell BK106.out 7).trans rfl
          have hcz14_8 : wc.cell? ⟨gb106, 8, none⟩ = some (.bool a0_8) := (blk_cell BK106.out 8).trans rfl
          have hcz14_9 : wc.cell? ⟨gb106, 9, none⟩ = some (.bool a0_9) := (blk_cell BK106.out 9).trans rfl
          have hcz14_10 : wc.cell? ⟨gb106, 10, none⟩ = some (.int .u16 a0_10) := (blk_cell BK106.out 10).trans rfl
          have hcz14_11 : wc.cell? ⟨gb106, 11, none⟩ = some (.int .u8 a0_11) := (blk_cell BK106.out 11).trans rfl
          have hcz14_12 : wc.cell? ⟨gb106, 12, none⟩ = some (.int .u8 a0_12) := (blk_cell BK106.out 12).trans rfl
          have hfz14_0 := blk_frozen BK106.out 0
          have hfz14_1 := blk_frozen BK106.out 1
          have hfz14_2 := blk_frozen BK106.out 2
          have hfz14_3 := blk_frozen BK106.out 3
          have hfz14_4 := blk_frozen BK106.out 4
          have hfz14_5 := blk_frozen BK106.out 5
          have hfz14_6 := blk_frozen BK106.out 6
          have hfz14_7 := blk_frozen BK106.out 7
          have hfz14_8 := blk_frozen BK106.out 8
          have hfz14_9 := blk_frozen BK106.out 9
          have hfz14_10 := blk_frozen BK106.out 10
          have hfz14_11 := blk_frozen BK106.out 11
          have hfz14_12 := blk_frozen BK106.out 12
          go_wp2_with (first | (go_at_call 38; (with_reducible refine (tandemref6_divider.calls a0_4 t107 _ A12.out).mono ?_); rintro e w' ⟨rfl, ⟨nd, rfl⟩⟩; (try first | exact ⟨rfl, _, World.drewN_drewN _ _ _⟩ | exact ⟨rfl, _, Eq.trans (World.drewN_drewN _ _ _) (congrArg (World.drewN _) (Nat.add_assoc _ _ _))⟩)))
          repeat (go_quiet (first | (go_at_call 38; (with_reducible refine (tandemref6_divider.calls a0_4 t107 _ A12.out).mono ?_); rintro e w' ⟨rfl, ⟨nd, rfl⟩⟩; (try first | exact ⟨rfl, _, World.drewN_drewN _ _ _⟩ | exact ⟨rfl, _, Eq.trans (World.drewN_drewN _ _ _) (congrArg (World.drewN _) (Nat.add_assoc _ _ _))⟩))); try go_wp2_with (first | (go_at_call 38; (with_reducible refine (tandemref6_divider.calls a0_4 t107 _ A12.out).mono ?_); rintro e w' ⟨rfl, ⟨nd, rfl⟩⟩; (try first | exact ⟨rfl, _, World.drewN_drewN _ _ _⟩ | exact ⟨rfl, _, Eq.trans (World.drewN_drewN _ _ _) (congrArg (World.drewN _) (Nat.add_assoc _ _ _))⟩))))
          go_ret
          exact ⟨by first | rfl | (simp [errW_none, errW_some] <;> rfl) | (simp [*, errW_none, errW_some] <;> rfl), by repeat (first | (with_reducible first | exact HB.out | apply below_alloc | apply pw_below_drewN | apply below_drew1 | refine below_set ?_ GE106.out) | exact HB.out)⟩
        · rw [if_neg c13] at H
          have c13b0 : decide (t107 ≤ (wrap64 (a0_2))) = false := decide_eq_false c13
          clear c13
          by_cases c15 : a0_6 = true
          · subst c15
            have H1 : (if a0_5 = true then (if a0_8 = true then (some (!a0_9)) else (some true)) else (some false)) = some r := by rw [if_pos rfl] at H; exact H
            clear H
            have H := H1
            clear H1
            by_cases c16 : a0_5 = true
            · subst c16
              have H1 : (if a0_8 = true then (some (!a0_9)) else (some true)) = some r := by rw [if_pos rfl] at H; exact H
              clear H
              have H := H1
              clear H1
              by_cases c17 : a0_8 = true
              · subst c17
                have H1 : (some (!a0_9)) = some r := by rw [if_pos rfl] at H; exact H
                clear H
                have H := H1
                clear H1
                obtain rfl := Option.some.inj H
                have hcz18_0 : wc.cell? ⟨gb106, 0, none⟩ = some (.int .u16 a0_0) := (blk_cell BK106.out 0).trans rfl
                have hcz18_1 : wc.cell? ⟨gb106, 1, none⟩ = some (.int .u16 a0_1) := (blk_cell BK106.out 1).trans rfl
                have hcz18_2 : wc.cell? ⟨gb106, 2, none⟩ = some (.int .u16 a0_2) := (blk_cell BK106.out 2).trans rfl
                have hcz18_3 : wc.cell? ⟨gb106, 3, none⟩ = some (.int .u8 a0_3) := (blk_cell BK106.out 3).trans rfl
                have hcz18_4 : wc.cell? ⟨gb106, 4, none⟩ = some (.int .u8 a0_4) := (blk_cell BK106.out 4).trans rfl
                have hcz18_5 : wc.cell? ⟨gb106, 5, none⟩ = some (.bool true) := (blk_cell BK106.out 5).trans rfl
                have hcz18_6 : wc.cell? ⟨gb106, 6, none⟩ = some (.bool true) := (blk_cell BK106.out 6).trans rfl
                have hcz18_7 : wc.cell? ⟨gb106, 7, none⟩ = some (.bool a0_7) := (blk_cell BK106.out 7).trans rfl
                have hcz18_8 : wc.cell? ⟨gb106, 8, none⟩ = some (.bool true) := (blk_cell BK106.out 8).trans rfl
                have hcz18_9 : wc.cell? ⟨gb106, 9, none⟩ = some (.bool a0_9) := (blk_cell BK106.out 9).trans rfl
                have hcz18_10 : wc.cell? ⟨gb106, 10, none⟩ = some (.int .u16 a0_10) := (blk_cell BK106.out 10).trans rfl
                have hcz18_11 : wc.cell? ⟨gb106, 11, none⟩ = some (.int .u8 a0_11) := (blk_cell BK106.out 11).trans rfl
                have hcz18_12 : wc.cell? ⟨gb106, 12, none⟩ = some (.int .u8 a0_12) := (blk_cell BK106.out 12).trans rfl
                have hfz18_0 := blk_frozen BK106.out 0
                have hfz18_1 := blk_frozen BK106.out 1
                have hfz18_2 := blk_frozen BK106.out 2
                have hfz18_3 := blk_frozen BK106.out 3
                have hfz18_4 := blk_frozen BK106.out 4
                have hfz18_5 := blk_frozen BK106.out 5
                have hfz18_6 := blk_frozen BK106.out 6
                have hfz18_7 := blk_frozen BK106.out 7
                have hfz18_8 := blk_frozen BK106.out 8
                have hfz18_9 := blk_frozen BK106.out 9
                have hfz18_10 := blk_frozen BK106.out 10
                have hfz18_11 := blk_frozen BK106.out 11
                have hfz18_12 := blk_frozen BK106.out 12
                go_wp2_with (first | (go_at_call 38; (with_reducible refine (tandemref6_divider.calls a0_4 t107 _ A12.out).mono ?_); rintro e w' ⟨rfl, ⟨nd, rfl⟩⟩; (try first | exact ⟨rfl, _, World.drewN_drewN _ _ _⟩ | exact ⟨rfl, _, Eq.trans (World.drewN_drewN _ _ _) (congrArg (World.drewN _) (Nat.add_assoc _ _ _))⟩)))
                repeat (go_quiet (first | (go_at_call 38; (with_reducible refine (tandemref6_divider.calls a0_4 t107 _ A12.out).mono ?_); rintro e w' ⟨rfl, ⟨nd, rfl⟩⟩; (try first | exact ⟨rfl, _, World.drewN_drewN _ _ _⟩ | exact ⟨rfl, _, Eq.trans (World.drewN_drewN _ _ _) (congrArg (World.drewN _) (Nat.add_assoc _ _ _))⟩))); try go_wp2_with (first | (go_at_call 38; (with_reducible refine (tandemref6_divider.calls a0_4 t107 _ A12.out).mono ?_); rintro e w' ⟨rfl, ⟨nd, rfl⟩⟩; (try first | exact ⟨rfl, _, World.drewN_drewN _ _ _⟩ | exact ⟨rfl, _, Eq.trans (World.drewN_drewN _ _ _) (congrArg (World.drewN _) (Nat.add_assoc _ _ _))⟩))))
                go_ret
                exact ⟨by first | rfl | (simp [errW_none, errW_some] <;> rfl) | (simp [*, errW_none, errW_some] <;> rfl), by repeat (first | (with_reducible first | exact HB.out | apply below_alloc | apply pw_below_drewN | apply below_drew1 | refine below_set ?_ GE106.out) | exact HB.out)⟩
              · replace c17 := Bool.eq_false_iff.mpr c17
                subst c17
                have H1 : (some true) = some r := by rw [if_neg (show ¬ (false = true) by decide)] at H; exact H
                clear H
                have H := H1
                clear H1
                obtain rfl := Option.some.inj H
                have hcz19_0 : wc.cell? ⟨gb106, 0, none⟩ = some (.int .u16 a0_0) := (blk_cell BK106.out 0).trans rfl
                have hcz19_1 : wc.cell? ⟨gb106, 1, none⟩ = some (.int .u16 a0_1) := (blk_cell BK106.out 1).trans rfl
                have hcz19_2 : wc.cell? ⟨gb106, 2, none⟩ = some (.int .u16 a0_2) := (blk_cell BK106.out 2).trans rfl
                have hcz19_3 : wc.cell? ⟨gb106, 3, none⟩ = some (.int .u8 a0_3) := (blk_cell BK106.out 3).trans rfl
                have hcz19_4 : wc.cell? ⟨gb106, 4, none⟩ = some (.int .u8 a0_4) := (blk_cell BK106.out 4).trans rfl
                have hcz19_5 : wc.cell? ⟨gb106, 5, none⟩ = some (.bool true) := (blk_cell BK106.out 5).trans rfl
                have hcz19_6 : wc.cell? ⟨gb106, 6, none⟩ = some (.bool true) := (blk_cell BK106.out 6).trans rfl
                have hcz19_7 : wc.cell? ⟨gb106, 7, none⟩ = some (.bool a0_7) := (blk_cell BK106.out 7).trans rfl
                have hcz19_8 : wc.cell? ⟨gb106, 8, none⟩ = some (.bool false) := (blk_cell BK106.out 8).trans rfl
                have hcz19_9 : wc.cell? ⟨gb106, 9, none⟩ = some (.bool a0_9) := (blk_cell BK106.out 9).trans rfl
                have hcz19_10 : wc.cell? ⟨gb106, 10, none⟩ = some (.int .u16 a0_10) := (blk_cell BK106.out 10).trans rfl
                have hcz19_11 : wc.cell? ⟨gb106, 11, none⟩ = some (.int .u8 a0_11) := (blk_cell BK106.out 11).trans rfl
                have hcz19_12 : wc.cell? ⟨gb106, 12, none⟩ = some (.int .u8 a0_12) := (blk_cell BK106.out 12).trans rfl
                have hfz19_0 := blk_frozen BK106.out 0
                have hfz19_1 := blk_frozen BK106.out 1
                have hfz19_2 := blk_frozen BK106.out 2
                have hfz19_3 := blk_frozen BK106.out 3
                have hfz19_4 := blk_frozen BK106.out 4
                have hfz19_5 := blk_frozen BK106.out 5
                have hfz19_6 := blk_frozen BK106.out 6
                have hfz19_7 := blk_frozen BK106.out 7
                have hfz19_8 := blk_frozen BK106.out 8
                have hfz19_9 := blk_frozen BK106.out 9
                have hfz19_10 := blk_frozen BK106.out 10
                have hfz19_11 := blk_frozen BK106.out 11
                have hfz19_12 := blk_frozen BK106.out 12
                go_wp2_with (first | (go_at_call 38; (with_reducible refine (tandemref6_divider.calls a0_4 t107 _ A12.out).mono ?_); rintro e w' ⟨rfl, ⟨nd, rfl⟩⟩; (try first | exact ⟨rfl, _, World.drewN_drewN _ _ _⟩ | exact ⟨rfl, _, Eq.trans (World.drewN_drewN _ _ _) (congrArg (World.drewN _) (Nat.add_assoc _ _ _))⟩)))
                repeat (go_quiet (first | (go_at_call 38; (with_reducible refine (tandemref6_divider.calls a0_4 t107 _ A12.out).mono ?_); rintro e w' ⟨rfl, ⟨nd, rfl⟩⟩; (try first | exact ⟨rfl, _, World.drewN_drewN _ _ _⟩ | exact ⟨rfl, _, Eq.trans (World.drewN_drewN _ _ _) (congrArg (World.drewN _) (Nat.add_assoc _ _ _))⟩))); try go_wp2_with (first | (go_at_call 38; (with_reducible refine (tandemref6_divider.calls a0_4 t107 _ A12.out).mono ?_); rintro e w' ⟨rfl, ⟨nd, rfl⟩⟩; (try first | exact ⟨rfl, _, World.drewN_drewN _ _ _⟩ | exact ⟨rfl, _, Eq.trans (World.drewN_drewN _ _ _) (congrArg (World.drewN _) (Nat.add_assoc _ _ _))⟩))))
                go_ret
                exact ⟨by first | rfl | (simp [errW_none, errW_some] <;> rfl) | (simp [*, errW_none, errW_some] <;> rfl), by repeat (first | (with_reducible first | exact HB.out | apply below_alloc | apply pw_below_drewN | apply below_drew1 | refine below_set ?_ GE106.out) | exact HB.out)⟩
            · replace c16 := Bool.eq_false_iff.mpr c16
              subst c16
              have H1 : (some false) = some r := by rw [if_neg (show ¬ (false = true) by decide)] at H; exact H
              clear H
              have H := H1
              clear H1
              obtain rfl := Option.some.inj H
              have hcz20_0 : wc.cell? ⟨gb106, 0, none⟩ = some (.int .u16 a0_0) := (blk_cell BK106.out 0).trans rfl
              have hcz20_1 : wc.cell? ⟨gb106, 1, none⟩ = some (.int .u16 a0_1) := (blk_cell BK106.out 1).trans rfl
              have hcz20_2 : wc.cell? ⟨gb106, 2, none⟩ = some (.int .u16 a0_2) := (blk_cell BK106.out 2).trans rfl
              have hcz20_3 : wc.cell? ⟨gb106, 3, none⟩ = some (.int .u8 a0_3) := (blk_cell BK106.out 3).trans rfl
              have hcz20_4 : wc.cell? ⟨gb106, 4, none⟩ = some (.int .u8 a0_4) := (blk_cell BK106.out 4).trans rfl
              have hcz20_5 : wc.cell? ⟨gb106, 5, none⟩ = some (.bool false) := (blk_cell BK106.out 5).trans rfl
              have hcz20_6 : wc.cell? ⟨gb106, 6, none⟩ = some (.bool true) := (blk_cell BK106.out 6).trans rfl
              have hcz20_7 : wc.cell? ⟨gb106, 7, none⟩ = some (.bool a0_7) := (blk_cell BK106.out 7).trans rfl
              have hcz20_8 : wc.cell? ⟨gb106, 8, none⟩ = some (.bool a0_8) := (blk_cell BK106.out 8).trans rfl
              have hcz20_9 : wc.cell? ⟨gb106, 9, none⟩ = some (.bool a0_9) := (blk_cell BK106.out 9).trans rfl
              have hcz20_10 : wc.cell? ⟨gb106, 10, none⟩ = some (.int .u16 a0_10) := (blk_cell BK106.out 10).trans rfl
              have hcz20_11 : wc.cell? ⟨gb106, 11, none⟩ = some (.int .u8 a0_11) := (blk_cell BK106.out 11).trans rfl
              have hcz20_12 : wc.cell? ⟨gb106, 12, none⟩ = some (.int .u8 a0_12) := (blk_cell BK106.out 12).trans rfl
              have hfz20_0 := blk_frozen BK106.out 0
              have hfz20_1 := blk_frozen BK106.out 1
              have hfz20_2 := blk_frozen BK106.out 2
              have hfz20_3 := blk_frozen BK106.out 3
              have hfz20_4 := blk_frozen BK106.out 4
              have hfz20_5 := blk_frozen BK106.out 5
              have hfz20_6 := blk_frozen BK106.out 6
              have hfz20_7 := blk_frozen BK106.out 7
              have hfz20_8 := blk_frozen BK106.out 8
              have hfz20_9 := blk_frozen BK106.out 9
              have hfz20_10 := blk_frozen BK106.out 10
              have hfz20_11 := blk_frozen BK106.out 11
              have hfz20_12 := blk_frozen BK106.out 12
              go_wp2_with (first | (go_at_call 38; (with_reducible refine (tandemref6_divider.calls a0_4 t107 _ A12.out).mono ?_); rintro e w' ⟨rfl, ⟨nd, rfl⟩⟩; (try first | exact ⟨rfl, _, World.drewN_drewN _ _ _⟩ | exact ⟨rfl, _, Eq.trans (World.drewN_drewN _ _ _) (congrArg (World.drewN _) (Nat.add_assoc _ _ _))⟩)))
              repeat (go_quiet (first | (go_at_call 38; (with_reducible refine (tandemref6_divider.calls a0_4 t107 _ A12.out).mono ?_); rintro e w' ⟨rfl, ⟨nd, rfl⟩⟩; (try first | exact ⟨rfl, _, World.drewN_drewN _ _ _⟩ | exact ⟨rfl, _, Eq.trans (World.drewN_drewN _ _ _) (congrArg (World.drewN _) (Nat.add_assoc _ _ _))⟩))); try go_wp2_with (first | (go_at_call 38; (with_reducible refine (tandemref6_divider.calls a0_4 t107 _ A12.out).mono ?_); rintro e w' ⟨rfl, ⟨nd, rfl⟩⟩; (try first | exact ⟨rfl, _, World.drewN_drewN _ _ _⟩ | exact ⟨rfl, _, Eq.trans (World.drewN_drewN _ _ _) (congrArg (World.drewN _) (Nat.add_assoc _ _ _))⟩))))
              go_ret
              exact ⟨by first | rfl | (simp [errW_none, errW_some] <;> rfl) | (simp [*, errW_none, errW_some] <;> rfl), by repeat (first | (with_reducible first | exact HB.out | apply below_alloc | apply pw_below_drewN | apply below_drew1 | refine below_set ?_ GE106.out) | exact HB.out)⟩
          · replace c15 := Bool.eq_false_iff.mpr c15
            subst c15
            have H1 : (if a0_8 = true then (some (!a0_9)) else (some true)) = some r := by rw [if_neg (show ¬ (false = true) by decide)] at H; exact H
            clear H
            have H := H1
            clear H1
            by_cases c21 : a0_8 = true
            · subst c21
              have H1 : (some (!a0_9)) = some r := by rw [if_pos rfl] at H; exact H
              clear H
              have H := H1
              clear H1
              obtain rfl := Option.some.inj H
              have hcz22_0 : wc.cell? ⟨gb106, 0, none⟩ = some (.int .u16 a0_0) := (blk_cell BK106.out 0).trans rfl
              have hcz22_1 : wc.cell? ⟨gb106, 1, none⟩ = some (.int .u16 a0_1) := (blk_cell BK106.out 1).trans rfl
              have hcz22_2 : wc.cell? ⟨gb106, 2, none⟩ = some (.int .u16 a0_2) := (blk_cell BK106.out 2).trans rfl
              have hcz22_3 : wc.cell? ⟨gb106, 3, none⟩ = some (.int .u8 a0_3) := (blk_cell BK106.out 3).trans rfl
              have hcz22_4 : wc.cell? ⟨gb106, 4, none⟩ = some (.int .u8 a0_4) := (blk_cell BK106.out 4).trans rfl
              have hcz22_5 : wc.cell? ⟨gb106, 5, none⟩ = some (.bool a0_5) := (blk_cell BK106.out 5).trans rfl
              have hcz22_6 : wc.cell? ⟨gb106, 6, none⟩ = some (.bool false) := (blk_cell BK106.out 6).trans rfl
              have hcz22_7 : wc.cell? ⟨gb106, 7, none⟩ = some (.bool a0_7) := (blk_cell BK106.out 7).trans rfl
              have hcz22_8 : wc.cell? ⟨gb106, 8, none⟩ = some (.bool true) := (blk_cell BK106.out 8).trans rfl
              have hcz22_9 : wc.cell? ⟨gb106, 9, none⟩ = some (.bool a0_9) := (blk_cell BK106.out 9).trans rfl
              have hcz22_10 : wc.cell? ⟨gb106, 10, none⟩ = some (.int .u16 a0_10) := (blk_cell BK106.out 10).trans rfl
              have hcz22_11 : wc.cell? ⟨gb106, 11, none⟩ = some (.int .u8 a0_11) := (blk_cell BK106.out 11).trans rfl
              have hcz22_12 : wc.cell? ⟨gb106, 12, none⟩ = some (.int .u8 a0_12) := (blk_cell BK106.out 12).trans rfl
              have hfz22_0 := blk_frozen BK106.out 0
              have hfz22_1 := blk_frozen BK106.out 1
              have hfz22_2 := blk_frozen BK106.out 2
              have hfz22_3 := blk_frozen BK106.out 3
              have hfz22_4 := blk_frozen BK106.out 4
              have hfz22_5 := blk_frozen BK106.out 5
              have hfz22_6 := blk_frozen BK106.out 6
              have hfz22_7 := blk_frozen BK106.out 7
              have hfz22_8 := blk_frozen BK106.out 8
              have hfz22_9 := blk_frozen BK106.out 9
              have hfz22_10 := blk_frozen BK106.out 10
              have hfz22_11 := blk_frozen BK106.out 11
              have hfz22_12 := blk_frozen BK106.out 12
              go_wp2_with (first | (go_at_call 38; (with_reducible refine (tandemref6_divider.calls a0_4 t107 _ A12.out).mono ?_); rintro e w' ⟨rfl, ⟨nd, rfl⟩⟩; (try first | exact ⟨rfl, _, World.drewN_drewN _ _ _⟩ | exact ⟨rfl, _, Eq.trans (World.drewN_drewN _ _ _) (congrArg (World.drewN _) (Nat.add_assoc _ _ _))⟩)))
              repeat (go_quiet (first | (go_at_call 38; (with_reducible refine (tandemref6_divider.calls a0_4 t107 _ A12.out).mono ?_); rintro e w' ⟨rfl, ⟨nd, rfl⟩⟩; (try first | exact ⟨rfl, _, World.drewN_drewN _ _ _⟩ | exact ⟨rfl, _, Eq.trans (World.drewN_drewN _ _ _) (congrArg (World.drewN _) (Nat.add_assoc _ _ _))⟩))); try go_wp2_with (first | (go_at_call 38; (with_reducible refine (tandemref6_divider.calls a0_4 t107 _ A12.out).mono ?_); rintro e w' ⟨rfl, ⟨nd, rfl⟩⟩; (try first | exact ⟨rfl, _, World.drewN_drewN _ _ _⟩ | exact ⟨rfl, _, Eq.trans (World.drewN_drewN _ _ _) (congrArg (World.drewN _) (Nat.add_assoc _ _ _))⟩))))
              go_ret
              exact ⟨by first | rfl | (simp [errW_none, errW_some] <;> rfl) | (simp [*, errW_none, errW_some] <;> rfl), by repeat (first | (with_reducible first | exact HB.out | apply below_alloc | apply pw_below_drewN | apply below_drew1 | refine below_set ?_ GE106.out) | exact HB.out)⟩
            · replace c21 := Bool.eq_false_iff.mpr c21
              subst c21
              have H1 : (some true) = some r := by rw [if_neg (show ¬ (false = true) by decide)] at H; exact H
              clear H
              have H := H1
              clear H1
              obtain rfl := Option.some.inj H
              have hcz23_0 : wc.cell? ⟨gb106, 0, none⟩ = some (.int .u16 a0_0) := (blk_cell BK106.out 0).trans rfl
              have hcz23_1 : wc.cell? ⟨gb106, 1, none⟩ = some (.int .u16 a0_1) := (blk_cell BK106.out 1).trans rfl
              have hcz23_2 : wc.cell? ⟨gb106, 2, none⟩ = some (.int .u16 a0_2) := (blk_cell BK106.out 2).trans rfl
              have hcz23_3 : wc.cell? ⟨gb106, 3, none⟩ = some (.int .u8 a0_3) := (blk_cell BK106.out 3).trans rfl
              have hcz23_4 : wc.cell? ⟨gb106, 4, none⟩ = some (.int .u8 a0_4) := (blk_cell BK106.out 4).trans rfl
              have hcz23_5 : wc.cell? ⟨gb106, 5, none⟩ = some (.bool a0_5) := (blk_cell BK106.out 5).trans rfl
              have hcz23_6 : wc.cell? ⟨gb106, 6, none⟩ = some (.bool false) := (blk_cell BK106.out 6).trans rfl
              have hcz23_7 : wc.cell? ⟨gb106, 7, none⟩ = some (.bool a0_7) := (blk_cell BK106.out 7).trans rfl
              have hcz23_8 : wc.cell? ⟨gb106, 8, none⟩ = some (.bool false) := (blk_cell BK106.out 8).trans rfl
              have hcz23_9 : wc.cell? ⟨gb106, 9, none⟩ = some (.bool a0_9) := (blk_cell BK106.out 9).trans rfl
              have hcz23_10 : wc.cell? ⟨gb106, 10, none⟩ = some (.int .u16 a0_10) := (blk_cell BK106.out 10).trans rfl
              have hcz23_11 : wc.cell? ⟨gb106, 11, none⟩ = some (.int .u8 a0_11) := (blk_cell BK106.out 11).trans rfl
              have hcz23_12 : wc.cell? ⟨gb106, 12, none⟩ = some (.int .u8 a0_12) := (blk_cell BK106.out 12).trans rfl
              have hfz23_0 := blk_frozen BK106.out 0
              have hfz23_1 := blk_frozen BK106.out 1
              have hfz23_2 := blk_frozen BK106.out 2
              have hfz23_3 := blk_frozen BK106.out 3
              have hfz23_4 := blk_frozen BK106.out 4
              have hfz23_5 := blk_frozen BK106.out 5
              have hfz23_6 := blk_frozen BK106.out 6
              have hfz23_7 := blk_frozen BK106.out 7
              have hfz23_8 := blk_frozen BK106.out 8
              have hfz23_9 := blk_frozen BK106.out 9
              have hfz23_10 := blk_frozen BK106.out 10
              have hfz23_11 := blk_frozen BK106.out 11
              have hfz23_12 := blk_frozen BK106.out 12
              go_wp2_with (first | (go_at_call 38; (with_reducible refine (tandemref6_divider.calls a0_4 t107 _ A12.out).mono ?_); rintro e w' ⟨rfl, ⟨nd, rfl⟩⟩; (try first | exact ⟨rfl, _, World.drewN_drewN _ _ _⟩ | exact ⟨rfl, _, Eq.trans (World.drewN_drewN _ _ _) (congrArg (World.drewN _) (Nat.add_assoc _ _ _))⟩)))
              repeat (go_quiet (first | (go_at_call 38; (with_reducible refine (tandemref6_divider.calls a0_4 t107 _ A12.out).mono ?_); rintro e w' ⟨rfl, ⟨nd, rfl⟩⟩; (try first | exact ⟨rfl, _, World.drewN_drewN _ _ _⟩ | exact ⟨rfl, _, Eq.trans (World.drewN_drewN _ _ _) (congrArg (World.drewN _) (Nat.add_assoc _ _ _))⟩))); try go_wp2_with (first | (go_at_call 38; (with_reducible refine (tandemref6_divider.calls a0_4 t107 _ A12.out).mono ?_); rintro e w' ⟨rfl, ⟨nd, rfl⟩⟩; (try first | exact ⟨rfl, _, World.drewN_drewN _ _ _⟩ | exact ⟨rfl, _, Eq.trans (World.drewN_drewN _ _ _) (congrArg (World.drewN _) (Nat.add_assoc _ _ _))⟩))))
              go_ret
              exact ⟨by first | rfl | (simp [errW_none, errW_some] <;> rfl) | (simp [*, errW_none, errW_some] <;> rfl), by repeat (first | (with_reducible first | exact HB.out | apply below_alloc | apply pw_below_drewN | apply below_drew1 | refine below_set ?_ GE106.out) | exact HB.out)⟩

end Go.Proofs.YthndmfgmlbdekaaDoor.XTimerReads
