-- PRINTED BY print.sh 35421559b90ae4d0a3588c463048766b98c2df88dd9212a6774a882060cdf62d: not written by this session
import Derived.Test.YtajffjhfecckbaaPAluLongSumsx0
namespace Go.Proofs.Ytajffjhfecckbaa.PAluLongSums
open Go.RowKit Go.Proofs.YtajffjhfecckbaaW.PrintWords Go.Proofs.YtajffjhfecckbaaW.PrintLast Go.Proofs.YtajffjhfecckbaaW.PrintMore
attribute [local go_sem] max2_int min2_int max_two min_two max_three min_three max_four min_four   -- for this text's walks alone
set_option linter.unusedVariables false
set_option linter.unusedSimpArgs false

/-! ### tandemlaw3_has: function 15 -/
def tandemlaw3_has.f (a0 : Int) (a1 : Int) : Option (Bool) := some ((Go.bits .and .u8 a0 a1) != 0)
set_option maxHeartbeats 8000000 in
set_option maxRecDepth 100000 in
theorem tandemlaw3_has.calls (a0 : Int) (a1 : Int) (r : Bool) (w : World) (h : tandemlaw3_has.f a0 a1 = some r) :
    Calls Try.prog 15 #[.int .u8 a0, .int .u8 a1] w fun e w' => e = .returned (.bool r) ∧ Drawn0 w w' := by
  have H : (some ((Go.bits .and .u8 a0 a1) != 0)) = some r := h
  clear h
  obtain rfl := Option.some.inj H
  go_enter Try.func15, Try.ntmps15
  go_wp2
  go_ret
  exact ⟨by first | rfl | (simp; done) | (simp [*]; done), by repeat (first | exact Drawn0.refl _ | apply Drawn0.step)⟩

/-! ### tandemlaw3_digits: function 17 -/
def tandemlaw3_digits.f (a0 : Int) : Option (Int) := some ((wrap64 ((wrap64 (16 * (wrap64 (Int.tdiv a0 10)))) + (Int.tmod a0 10))) % 256)
set_option maxHeartbeats 8000000 in
set_option maxRecDepth 100000 in
theorem tandemlaw3_digits.calls (a0 : Int) (r : Int) (w : World) (h : tandemlaw3_digits.f a0 = some r) :
    Calls Try.prog 17 #[.int .i64 a0] w fun e w' => e = .returned (.int .u8 r) ∧ Drawn0 w w' := by
  have H : (some ((wrap64 ((wrap64 (16 * (wrap64 (Int.tdiv a0 10)))) + (Int.tmod a0 10))) % 256)) = some r := h
  clear h
  obtain rfl := Option.some.inj H
  go_enter Try.func17, Try.ntmps17
  go_wp2
  go_ret
  exact ⟨by first | rfl | (simp; done) | (simp [*]; done), by repeat (first | exact Drawn0.refl _ | apply Drawn0.step)⟩

/-! ### tandemlaw3_with: function 18 -/
def tandemlaw3_with.f (a0 : Int) (a1 : Bool) (a2 : Bool) : Option (Int) := if a1 = true then (if a2 = true then (some (Go.bits .or .u8 (Go.bits .or .u8 (Go.bits .andNot .u8 a0 9) 1) 8)) else (some (Go.bits .or .u8 (Go.bits .andNot .u8 a0 9) 1))) else (if a2 = true then (some (Go.bits .or .u8 (Go.bits .andNot .u8 a0 9) 8)) else (some (Go.bits .andNot .u8 a0 9)))
set_option maxHeartbeats 8000000 in
set_option maxRecDepth 100000 in
theorem tandemlaw3_with.calls (a0 : Int) (a1 : Bool) (a2 : Bool) (r : Int) (w : World) (h : tandemlaw3_with.f a0 a1 a2 = some r) :
    Calls Try.prog 18 #[.int .u8 a0, .bool a1, .bool a2] w fun e w' => e = .returned (.int .u8 r) ∧ Drawn0 w w' := by
  have H : (if a1 = true then (if a2 = true then (some (Go.bits .or .u8 (Go.bits .or .u8 (Go.bits .andNot .u8 a0 9) 1) 8)) else (some (Go.bits .or .u8 (Go.bits .andNot .u8 a0 9) 1))) else (if a2 = true then (some (Go.bits .or .u8 (Go.bits .andNot .u8 a0 9) 8)) else (some (Go.bits .andNot .u8 a0 9)))) = some r := h
  clear h
  by_cases c4 : a1 = true
  · subst c4
    have H1 : (if a2 = true then (some (Go.bits .or .u8 (Go.bits .or .u8 (Go.bits .andNot .u8 a0 9) 1) 8)) else (some (Go.bits .or .u8 (Go.bits .andNot .u8 a0 9) 1))) = some r := by rw [if_pos rfl] at H; exact H
    clear H
    have H := H1
    clear H1
    by_cases c5 : a2 = true
    · subst c5
      have H1 : (some (Go.bits .or .u8 (Go.bits .or .u8 (Go.bits .andNot .u8 a0 9) 1) 8)) = some r := by rw [if_pos rfl] at H; exact H
      clear H
      have H := H1
      clear H1
      obtain rfl := Option.some.inj H
      go_enter Try.func18, Try.ntmps18
      go_wp2
      go_ret
      exact ⟨by first | rfl | (simp; done) | (simp [*]; done), by repeat (first | exact Drawn0.refl _ | apply Drawn0.step)⟩
    · replace c5 := Bool.eq_false_iff.mpr c5
      subst c5
      have H1 : (some (Go.bits .or .u8 (Go.bits .andNot .u8 a0 9) 1)) = some r := by rw [if_neg (show ¬ (false = true) by decide)] at H; exact H
      clear H
      have H := H1
      clear H1
      obtain rfl := Option.some.inj H
      go_enter Try.func18, Try.ntmps18
      go_wp2
      go_ret
      exact ⟨by first | rfl | (simp; done) | (simp [*]; done), by repeat (first | exact Drawn0.refl _ | apply Drawn0.step)⟩
  · replace c4 := Bool.eq_false_iff.mpr c4
    subst c4
    have H1 : (if a2 = true then (some (Go.bits .or .u8 (Go.bits .andNot .u8 a0 9) 8)) else (some (Go.bits .andNot .u8 a0 9))) = some r := by rw [if_neg (show ¬ (false = true) by decide)] at H; exact H
    clear H
    have H := H1
    clear H1
    by_cases c6 : a2 = true
    · subst c6
      have H1 : (some (Go.bits .or .u8 (Go.bits .andNot .u8 a0 9) 8)) = some r := by rw [if_pos rfl] at H; exact H
      clear H
      have H := H1
      clear H1
      obtain rfl := Option.some.inj H
      go_enter Try.func18, Try.ntmps18
      go_wp2
      go_ret
      exact ⟨by first | rfl | (simp; done) | (simp [*]; done), by repeat (first | exact Drawn0.refl _ | apply Drawn0.step)⟩
    · replace c6 := Bool.eq_false_iff.mpr c6
      subst c6
      have H1 : (some (Go.bits .andNot .u8 a0 9)) = some r := by rw [if_neg (show ¬ (false = true) by decide)] at H; exact H
      clear H
      have H := H1
      clear H1
      obtain rfl := Option.some.inj H
      go_enter Try.func18, Try.ntmps18
      go_wp2
      go_ret
      exact ⟨by first | rfl | (simp; done) | (simp [*]; done), by repeat (first | exact Drawn0.refl _ | apply Drawn0.step)⟩

/-! ### alu_Nz: function 25 -/
def alu_Nz.f (a0 : Int) (a1 : Int) : Option (Int) := if a0 = 0 then (some (Go.bits .or .u8 (Go.bits .or .u8 (Go.bits .andNot .u8 a1 130) 2) (Go.bits .and .u8 a0 128))) else (some (Go.bits .or .u8 (Go.bits .andNot .u8 a1 130) (Go.bits .and .u8 a0 128)))
set_option maxHeartbeats 8000000 in
set_option maxRecDepth 100000 in
theorem alu_Nz.calls (a0 : Int) (a1 : Int) (r : Int) (w : World) (h : alu_Nz.f a0 a1 = some r) :
    Calls Try.prog 25 #[.int .u8 a0, .int .u8 a1] w fun e w' => e = .returned (.int .u8 r) ∧ Drawn0 w w' := by
  have H : (if a0 = 0 then (some (Go.bits .or .u8 (Go.bits .or .u8 (Go.bits .andNot .u8 a1 130) 2) (Go.bits .and .u8 a0 128))) else (some (Go.bits .or .u8 (Go.bits .andNot .u8 a1 130) (Go.bits .and .u8 a0 128)))) = some r := h
  clear h
  by_cases c3 : a0 = 0
  · rw [if_pos c3] at H
    have c3b0 : (a0 == 0) = true := beq_iff_eq.mpr c3
    have c3b1 : (a0 != 0) = false := bne_eq_false_iff_eq.mpr c3
    clear c3
    obtain rfl := Option.some.inj H
    go_enter Try.func25, Try.ntmps25
    go_wp2
    go_ret
    exact ⟨by first | rfl | (simp; done) | (simp [*]; done), by repeat (first | exact Drawn0.refl _ | apply Drawn0.step)⟩
  · rw [if_neg c3] at H
    have c3b0 : (a0 == 0) = false := beq_eq_false_iff_ne.mpr c3
    have c3b1 : (a0 != 0) = true := bne_iff_ne.mpr c3
    obtain rfl := Option.some.inj H
    go_enter Try.func25, Try.ntmps25
    go_wp2
    go_ret
    exact ⟨by first | rfl | (simp; done) | (simp [*]; done), by repeat (first | exact Drawn0.refl _ | apply Drawn0.step)⟩

/-! ### alu_put: function 36 -/
def alu_put.f (a0 : Int) (a1 : Int) (a2 : Bool) : Option (Int) := if a2 = true then (some (Go.bits .or .u8 a0 a1)) else (some (Go.bits .andNot .u8 a0 a1))
set_option maxHeartbeats 8000000 in
set_option maxRecDepth 100000 in
theorem alu_put.calls (a0 : Int) (a1 : Int) (a2 : Bool) (r : Int) (w : World) (h : alu_put.f a0 a1 a2 = some r) :
    Calls Try.prog 36 #[.int .u8 a0, .int .u8 a1, .bool a2] w fun e w' => e = .returned (.int .u8 r) ∧ Drawn0 w w' := by
  have H : (if a2 = true then (some (Go.bits .or .u8 a0 a1)) else (some (Go.bits .andNot .u8 a0 a1))) = some r := h
  clear h
  by_cases c4 : a2 = true
  · subst c4
    have H1 : (some (Go.bits .or .u8 a0 a1)) = some r := by rw [if_pos rfl] at H; exact H
    clear H
    have H := H1
    clear H1
    obtain rfl := Option.some.inj H
    go_enter Try.func36, Try.ntmps36
    go_wp2
    go_ret
    exact ⟨by first | rfl | (simp; done) | (simp [*]; done), by repeat (first | exact Drawn0.refl _ | apply Drawn0.step)⟩
  · replace c4 := Bool.eq_false_iff.mpr c4
    subst c4
    have H1 : (some (Go.bits .andNot .u8 a0 a1)) = some r := by rw [if_neg (show ¬ (false = true) by decide)] at H; exact H
    clear H
    have H := H1
    clear H1
    obtain rfl := Option.some.inj H
    go_enter Try.func36, Try.ntmps36
    go_wp2
    go_ret
    exact ⟨by first | rfl | (simp; done) | (simp [*]; done), by repeat (first | exact Drawn0.refl _ | apply Drawn0.step)⟩

/-! ### alu_carry: function 37 -/
def alu_carry.f (a0 : Int) : Option (Int) := some (wrap64 (Go.bits .and .u8 a0 1))
set_option maxHeartbeats 8000000 in
set_option maxRecDepth 100000 in
theorem alu_carry.calls (a0 : Int) (r : Int) (w : World) (h : alu_carry.f a0 = some r) :
    Calls Try.prog 37 #[.int .u8 a0] w fun e w' => e = .returned (.int .i64 r) ∧ Drawn0 w w' := by
  have H : (some (wrap64 (Go.bits .and .u8 a0 1))) = some r := h
  clear h
  obtain rfl := Option.some.inj H
  go_enter Try.func37, Try.ntmps37
  go_wp2
  go_ret
  exact ⟨by first | rfl | (simp; done) | (simp [*]; done), by repeat (first | exact Drawn0.refl _ | apply Drawn0.step)⟩

/-! ### alu_Adc: function 22 -/
def alu_Adc.j0 : Nat → Int → Int → Int → Int → Int → Option (Int × Int)
  | 0, _, _, _, _, _ => none
  | k + 1, x0, x1, x2, x8, x10 => (alu_Nz.f ((wrap64 ((wrap64 ((wrap64 (Go.bits .and .u8 x0 240)) + (wrap64 (Go.bits .and .u8 x1 240)))) + x10)) % 256) x2).bind fun t106 => ((alu_put.f t106 64 ((Go.bits .and .u8 (Go.bits .and .u8 (Go.bits .xor .u8 x0 ((wrap64 ((wrap64 ((wrap64 (Go.bits .and .u8 x0 240)) + (wrap64 (Go.bits .and .u8 x1 240)))) + x10)) % 256)) (Go.bits .xor .u8 x1 ((wrap64 ((wrap64 ((wrap64 (Go.bits .and .u8 x0 240)) + (wrap64 (Go.bits .and .u8 x1 240)))) + x10)) % 256))) 128) != 0)).bind fun t107 => ((alu_put.f t107 2 (((x8) % 256) == 0)).bind fun t108 => (if (wrap64 ((wrap64 ((wrap64 (Go.bits .and .u8 x0 240)) + (wrap64 (Go.bits .and .u8 x1 240)))) + x10)) ≥ 160 then ((alu_put.f t108 1 (decide ((wrap64 ((wrap64 ((wrap64 ((wrap64 (Go.bits .and .u8 x0 240)) + (wrap64 (Go.bits .and .u8 x1 240)))) + x10)) + 96)) > 255))).bind fun t109 => (some ((wrap64 ((wrap64 ((wrap64 ((wrap64 (Go.bits .and .u8 x0 240)) + (wrap64 (Go.bits .and .u8 x1 240)))) + x10)) + 96)) % 256, t109))) else ((alu_put.f t108 1 (decide ((wrap64 ((wrap64 ((wrap64 (Go.bits .and .u8 x0 240)) + (wrap64 (Go.bits .and .u8 x1 240)))) + x10)) > 255))).bind fun t110 => (some ((wrap64 ((wrap64 ((wrap64 (Go.bits .and .u8 x0 240)) + (wrap64 (Go.bits .and .u8 x1 240)))) + x10)) % 256, t110))))))
def alu_Adc.f (k : Nat) (a0 : Int) (a1 : Int) (a2 : Int) : Option (Int × Int) := (alu_carry.f a2).bind fun t101 => (if (Go.bits .and .u8 a2 8) = 0 then ((alu_put.f a2 1 (decide ((wrap64 ((wrap64 ((wrap64 (a0)) + (wrap64 (a1)))) + t101)) > 255))).bind fun t102 => ((alu_put.f t102 64 ((Go.bits .and .u8 (Go.bits .and .u8 (Go.bits .xor .u8 a0 ((wrap64 ((wrap64 ((wrap64 (a0)) + (wrap64 (a1)))) + t101)) % 256)) (Go.bits .xor .u8 a1 ((wrap64 ((wrap64 ((wrap64 (a0)) + (wrap64 (a1)))) + t101)) % 256))) 128) != 0)).bind fun t103 => ((alu_Nz.f ((wrap64 ((wrap64 ((wrap64 (a0)) + (wrap64 (a1)))) + t101)) % 256) t103).bind fun t104 => (some ((wrap64 ((wrap64 ((wrap64 (a0)) + (wrap64 (a1)))) + t101)) % 256, t104))))) else ((alu_carry.f a2).bind fun t105 => (if (wrap64 ((wrap64 ((wrap64 (Go.bits .and .u8 a0 15)) + (wrap64 (Go.bits .and .u8 a1 15)))) + t105)) > 9 then (alu_Adc.j0 k a0 a1 a2 (wrap64 ((wrap64 ((wrap64 (a0)) + (wrap64 (a1)))) + t101)) (wrap64 ((Go.bits .and .i64 (wrap64 ((wrap64 ((wrap64 ((wrap64 (Go.bits .and .u8 a0 15)) + (wrap64 (Go.bits .and .u8 a1 15)))) + t105)) + 6)) 15) + 16))) else (alu_Adc.j0 k a0 a1 a2 (wrap64 ((wrap64 ((wrap64 (a0)) + (wrap64 (a1)))) + t101)) (wrap64 ((wrap64 ((wrap64 (Go.bits .and .u8 a0 15)) + (wrap64 (Go.bits .and .u8 a1 15)))) + t105))))))
theorem alu_Adc.mono_l : ∀ k, (∀ y0 y1 y2 y3 y4, LeO (alu_Adc.j0 k y0 y1 y2 y3 y4) (alu_Adc.j0 (k + 1) y0 y1 y2 y3 y4))
  | 0 => fun _ _ _ _ _ r h => by simp [alu_Adc.j0] at h
  | k + 1 => by
    have ih0 := alu_Adc.mono_l k
    · intro y0 y1 y2 y3 y4
      unfold alu_Adc.j0
      repeat' first
      | (with_reducible exact ih0 _ _ _ _ _)
      | (with_reducible exact LeO.refl _)
      | (with_reducible exact LeO.none _)
      | (with_reducible refine LeO.ite ?_ ?_)
      | (with_reducible refine LeO.bind ?_ (fun _ => ?_))
      | exact ih0 _ _ _ _ _
      | exact LeO.none _
      | refine LeO.ite ?_ ?_
      | refine LeO.bind ?_ (fun _ => ?_)
theorem alu_Adc.mono : ∀ a0 a1 a2 k, LeO (alu_Adc.f k a0 a1 a2) (alu_Adc.f (k + 1) a0 a1 a2) := by
  intro a0 a1 a2 k
  have ih0 := alu_Adc.mono_l k
  unfold alu_Adc.f
  repeat' first
      | (with_reducible exact ih0 _ _ _ _ _)
      | (with_reducible exact LeO.refl _)
      | (with_reducible exact LeO.none _)
      | (with_reducible refine LeO.ite ?_ ?_)
      | (with_reducible refine LeO.bind ?_ (fun _ => ?_))
      | exact ih0 _ _ _ _ _
      | exact LeO.none _
      | refine LeO.ite ?_ ?_
      | refine LeO.bind ?_ (fun _ => ?_)
set_option maxHeartbeats 8000000 in
set_option maxRecDepth 100000 in
theorem alu_Adc.calls (k : Nat) (a0 : Int) (a1 : Int) (a2 : Int) (r1 : Int) (r2 : Int) (w : World) (h : alu_Adc.f k a0 a1 a2 = some (r1, r2)) :
    Calls Try.prog 22 #[.int .u8 a0, .int .u8 a1, .int .u8 a2] w fun e w' => e = .returned (.tuple #[.int .u8 r1, .int .u8 r2]) ∧ Drawn0 w w' := by
  have H : ((alu_carry.f a2).bind fun t101 => (if (Go.bits .and .u8 a2 8) = 0 then ((alu_put.f a2 1 (decide ((wrap64 ((wrap64 ((wrap64 (a0)) + (wrap64 (a1)))) + t101)) > 255))).bind fun t102 => ((alu_put.f t102 64 ((Go.bits .and .u8 (Go.bits .and .u8 (Go.bits .xor .u8 a0 ((wrap64 ((wrap64 ((wrap64 (a0)) + (wrap64 (a1)))) + t101)) % 256)) (Go.bits .xor .u8 a1 ((wrap64 ((wrap64 ((wrap64 (a0)) + (wrap64 (a1)))) + t101)) % 256))) 128) != 0)).bind fun t103 => ((alu_Nz.f ((wrap64 ((wrap64 ((wrap64 (a0)) + (wrap64 (a1)))) + t101)) % 256) t103).bind fun t104 => (some ((wrap64 ((wrap64 ((wrap64 (a0)) + (wrap64 (a1)))) + t101)) % 256, t104))))) else ((alu_carry.f a2).bind fun t105 => (if (wrap64 ((wrap64 ((wrap64 (Go.bits .and .u8 a0 15)) + (wrap64 (Go.bits .and .u8 a1 15)))) + t105)) > 9 then (alu_Adc.j0 k a0 a1 a2 (wrap64 ((wrap64 ((wrap64 (a0)) + (wrap64 (a1)))) + t101)) (wrap64 ((Go.bits .and .i64 (wrap64 ((wrap64 ((wrap64 ((wrap64 (Go.bits .and .u8 a0 15)) + (wrap64 (Go.bits .and .u8 a1 15)))) + t105)) + 6)) 15) + 16))) else (alu_Adc.j0 k a0 a1 a2 (wrap64 ((wrap64 ((wrap64 (a0)) + (wrap64 (a1)))) + t101)) (wrap64 ((wrap64 ((wrap64 (Go.bits .and .u8 a0 15)) + (wrap64 (Go.bits .and .u8 a1 15)))) + t105))))))) = some (r1, r2) := h
  clear h
  replace H := Option.bind_eq_some_iff.mp H
  obtain ⟨t101, A40, H⟩ := H
  replace H : (if (Go.bits .and .u8 a2 8) = 0 then ((alu_put.f a2 1 (decide ((wrap64 ((wrap64 ((wrap64 (a0)) + (wrap64 (a1)))) + t101)) > 255))).bind fun t102 => ((alu_put.f t102 64 ((Go.bits .and .u8 (Go.bits .and .u8 (Go.bits .xor .u8 a0 ((wrap64 ((wrap64 ((wrap64 (a0)) + (wrap64 (a1)))) + t101)) % 256)) (Go.bits .xor .u8 a1 ((wrap64 ((wrap64 ((wrap64 (a0)) + (wrap64 (a1)))) + t101)) % 256))) 128) != 0)).bind fun t103 => ((alu_Nz.f ((wrap64 ((wrap64 ((wrap64 (a0)) + (wrap64 (a1)))) + t101)) % 256) t103).bind fun t104 => (some ((wrap64 ((wrap64 ((wrap64 (a0)) + (wrap64 (a1)))) + t101)) % 256, t104))))) else ((alu_carry.f a2).bind fun t105 => (if (wrap64 ((wrap64 ((wrap64 (Go.bits .and .u8 a0 15)) + (wrap64 (Go.bits .and .u8 a1 15)))) + t105)) > 9 then (alu_Adc.j0 k a0 a1 a2 (wrap64 ((wrap64 ((wrap64 (a0)) + (wrap64 (a1)))) + t101)) (wrap64 ((Go.bits .and .i64 (wrap64 ((wrap64 ((wrap64 ((wrap64 (Go.bits .and .u8 a0 15)) + (wrap64 (Go.bits .and .u8 a1 15)))) + t105)) + 6)) 15) + 16))) else (alu_Adc.j0 k a0 a1 a2 (wrap64 ((wrap64 ((wrap64 (a0)) + (wrap64 (a1)))) + t101)) (wrap64 ((wrap64 ((wrap64 (Go.bits .and .u8 a0 15)) + (wrap64 (Go.bits .and .u8 a1 15)))) + t105)))))) = some (r1, r2) := H
  have A4 := Aside0.mk A40
  clear A40
  by_cases c5 : (Go.bits .and .u8 a2 8) = 0
  · rw [if_pos c5] at H
    have c5b0 : ((Go.bits .and .u8 a2 8) == 0) = true := beq_iff_eq.mpr c5
    have c5b1 : ((Go.bits .and .u8 a2 8) != 0) = false := bne_eq_false_iff_eq.mpr c5
    clear c5
    replace H := Option.bind_eq_some_iff.mp H
    obtain ⟨t102, A60, H⟩ := H
    replace H : ((alu_put.f t102 64 ((Go.bits .and .u8 (Go.bits .and .u8 (Go.bits .xor .u8 a0 ((wrap64 ((wrap64 ((wrap64 (a0)) + (wrap64 (a1)))) + t101)) % 256)) (Go.bits .xor .u8 a1 ((wrap64 ((wrap64 ((wrap64 (a0)) + (wrap64 (a1)))) + t101)) % 256))) 128) != 0)).bind fun t103 => ((alu_Nz.f ((wrap64 ((wrap64 ((wrap64 (a0)) + (wrap64 (a1)))) + t101)) % 256) t103).bind fun t104 => (some ((wrap64 ((wrap64 ((wrap64 (a0)) + (wrap64 (a1)))) + t101)) % 256, t104)))) = some (r1, r2) := H
    have A6 := Aside0.mk A60
    clear A60
    replace H := Option.bind_eq_some_iff.mp H
    obtain ⟨t103, A70, H⟩ := H
    replace H : ((alu_Nz.f ((wrap64 ((wrap64 ((wrap64 (a0)) + (wrap64 (a1)))) + t101)) % 256) t103).bind fun t104 => (some ((wrap64 ((wrap64 ((wrap64 (a0)) + (wrap64 (a1)))) + t101)) % 256, t104))) = some (r1, r2) := H
    have A7 := Aside0.mk A70
    clear A70
    replace H := Option.bind_eq_some_iff.mp H
    obtain ⟨t104, A80, H⟩ := H
    replace H : (some ((wrap64 ((wrap64 ((wrap64 (a0)) + (wrap64 (a1)))) + t101)) % 256, t104)) = some (r1, r2) := H
    have A8 := Aside0.mk A80
    clear A80
    simp only [Option.some.injEq, Prod.mk.injEq] at H
    obtain ⟨rfl, rfl⟩ := H
    go_enter Try.func22, Try.ntmps22
    go_wp2_with (first | ((with_reducible refine gate_callee (f := 37) rfl ?_); refine goesL_ (some 18) rfl rfl Try.func37 (by kernel_rfl) rfl #[.int .u8 a2] rfl (by (try simp only [List.map_toArray, List.map_cons, List.map_nil]); first | done | rfl | (simp only [List.length_drop, List.length_take]; rfl)) ?_; (with_reducible refine (alu_carry.calls a2 t101 _ A4.out).mono ?_); rintro e w' ⟨rfl, ⟨nd, rfl⟩⟩; refine ⟨_, rfl, ?_⟩) | ((with_reducible refine gate_callee (f := 36) rfl ?_); refine goesL_ (some 28) rfl rfl Try.func36 (by kernel_rfl) rfl #[.int .u8 a2, .int .u8 1, .bool (decide ((wrap64 ((wrap64 ((wrap64 (a0)) + (wrap64 (a1)))) + t101)) > 255))] rfl (by (try simp only [List.map_toArray, List.map_cons, List.map_nil]); first | done | rfl | (simp only [List.length_drop, List.length_take]; rfl)) ?_; (with_reducible refine (alu_put.calls a2 1 (decide ((wrap64 ((wrap64 ((wrap64 (a0)) + (wrap64 (a1)))) + t101)) > 255)) t102 _ A6.out).mono ?_); rintro e w' ⟨rfl, ⟨nd, rfl⟩⟩; refine ⟨_, rfl, ?_⟩) | ((with_reducible refine gate_callee (f := 36) rfl ?_); refine goesL_ (some 39) rfl rfl Try.func36 (by kernel_rfl) rfl #[.int .u8 t102, .int .u8 64, .bool ((Go.bits .and .u8 (Go.bits .and .u8 (Go.bits .xor .u8 a0 ((wrap64 ((wrap64 ((wrap64 (a0)) + (wrap64 (a1)))) + t101)) % 256)) (Go.bits .xor .u8 a1 ((wrap64 ((wrap64 ((wrap64 (a0)) + (wrap64 (a1)))) + t101)) % 256))) 128) != 0)] rfl (by (try simp only [List.map_toArray, List.map_cons, List.map_nil]); first | done | rfl | (simp only [List.length_drop, List.length_take]; rfl)) ?_; (with_reducible refine (alu_put.calls t102 64 ((Go.bits .and .u8 (Go.bits .and .u8 (Go.bits .xor .u8 a0 ((wrap64 ((wrap64 ((wrap64 (a0)) + (wrap64 (a1)))) + t101)) % 256)) (Go.bits .xor .u8 a1 ((wrap64 ((wrap64 ((wrap64 (a0)) + (wrap64 (a1)))) + t101)) % 256))) 128) != 0) t103 _ A7.out).mono ?_); rintro e w' ⟨rfl, ⟨nd, rfl⟩⟩; refine ⟨_, rfl, ?_⟩) | ((with_reducible refine gate_callee (f := 25) rfl ?_); refine goesL_ (some 43) rfl rfl Try.func25 (by kernel_rfl) rfl #[.int .u8 ((wrap64 ((wrap64 ((wrap64 (a0)) + (wrap64 (a1)))) + t101)) % 256), .int .u8 t103] rfl (by (try simp only [List.map_toArray, List.map_cons, List.map_nil]); first | done | rfl | (simp only [List.length_drop, List.length_take]; rfl)) ?_; (with_reducible refine (alu_Nz.calls ((wrap64 ((wrap64 ((wrap64 (a0)) + (wrap64 (a1)))) + t101)) % 256) t103 t104 _ A8.out).mono ?_); rintro e w' ⟨rfl, ⟨nd, rfl⟩⟩; refine ⟨_, rfl, ?_⟩))
    go_ret2
    exact ⟨by first | rfl | (simp; done) | (simp [*]; done), by repeat (first | exact Drawn0.refl _ | apply Drawn0.step)⟩
  · rw [if_neg c5] at H
    have c5b0 : ((Go.bits .and .u8 a2 8) == 0) = false := beq_eq_false_iff_ne.mpr c5
    have c5b1 : ((Go.bits .and .u8 a2 8) != 0) = true := bne_iff_ne.mpr c5
    replace H := Option.bind_eq_some_iff.mp H
    obtain ⟨t105, A90, H⟩ := H
    replace H : (if (wrap64 ((wrap64 ((wrap64 (Go.bits .and .u8 a0 15)) + (wrap64 (Go.bits .and .u8 a1 15)))) + t105)) > 9 then (alu_Adc.j0 k a0 a1 a2 (wrap64 ((wrap64 ((wrap64 (a0)) + (wrap64 (a1)))) + t101)) (wrap64 ((Go.bits .and .i64 (wrap64 ((wrap64 ((wrap64 ((wrap64 (Go.bits .and .u8 a0 15)) + (wrap64 (Go.bits .and .u8 a1 15)))) + t105)) + 6)) 15) + 16))) else (alu_Adc.j0 k a0 a1 a2 (wrap64 ((wrap64 ((wrap64 (a0)) + (wrap64 (a1)))) + t101)) (wrap64 ((wrap64 ((wrap64 (Go.bits .and .u8 a0 15)) + (wrap64 (Go.bits .and .u8 a1 15)))) + t105)))) = some (r1, r2) := H
    have A9 := Aside0.mk A90
    clear A90
    have HC10 := Aside0.mk H
    clear H
    go_enter Try.func22, Try.ntmps22
    go_upto_if 55 with (first | ((with_reducible refine gate_callee (f := 37) rfl ?_); refine goesL_ (some 18) rfl rfl Try.func37 (by kernel_rfl) rfl #[.int .u8 a2] rfl (by (try simp only [List.map_toArray, List.map_cons, List.map_nil]); first | done | rfl | (simp only [List.length_drop, List.length_take]; rfl)) ?_; (with_reducible refine (alu_carry.calls a2 t101 _ A4.out).mono ?_); rintro e w' ⟨rfl, ⟨nd, rfl⟩⟩; refine ⟨_, rfl, ?_⟩) | ((with_reducible refine gate_callee (f := 37) rfl ?_); refine goesL_ (some 52) rfl rfl Try.func37 (by kernel_rfl) rfl #[.int .u8 a2] rfl (by (try simp only [List.map_toArray, List.map_cons, List.map_nil]); first | done | rfl | (simp only [List.length_drop, List.length_take]; rfl)) ?_; (with_reducible refine (alu_carry.calls a2 t105 _ A9.out).mono ?_); rintro e w' ⟨rfl, ⟨nd, rfl⟩⟩; refine ⟨_, rfl, ?_⟩))
    (try simp only [Act.put, List.setIfInBounds_toArray, List.set_cons_zero, List.set_cons_succ])
    go_cut [10] (fun v10 wc => ∃ (kq : Nat) (x10_9 : Int), v10 = .int .i64 x10_9 ∧ Aside0 (alu_Adc.j0 kq a0 a1 a2 (wrap64 ((wrap64 ((wrap64 (a0)) + (wrap64 (a1)))) + t101)) x10_9 = some (r1, r2)) ∧ Aside0 (kq ≤ k) ∧ Drawn0 w wc)
    case first =>
      have H := HC10.out
      clear HC10
      by_cases c11 : (wrap64 ((wrap64 ((wrap64 (Go.bits .and .u8 a0 15)) + (wrap64 (Go.bits .and .u8 a1 15)))) + t105)) > 9
      · rw [if_pos c11] at H
        have c11b0 : decide (9 < (wrap64 ((wrap64 ((wrap64 (Go.bits .and .u8 a0 15)) + (wrap64 (Go.bits .and .u8 a1 15)))) + t105))) = true := decide_eq_true c11
        clear c11
        (first | rw [c11b0] | (simp only [i64_w, i32_w]; rw [c11b0]) | skip)
        have H' := Aside0.mk H
        clear H
        go_wp2
        go_meet
        case rel => exact ⟨_, (wrap64 ((Go.bits .and .i64 (wrap64 ((wrap64 ((wrap64 ((wrap64 (Go.bits .and .u8 a0 15)) + (wrap64 (Go.bits .and .u8 a1 15)))) + t105)) + 6)) 15) + 16)), (by first | rfl | (simp; done) | (simp [*]; done)), H', ⟨by first | omega | exact Nat.le_refl _⟩, by repeat (first | exact Drawn0.refl _ | apply Drawn0.step)⟩
      · rw [if_neg c11] at H
        have c11b0 : decide (9 < (wrap64 ((wrap64 ((wrap64 (Go.bits .and .u8 a0 15)) + (wrap64 (Go.bits .and .u8 a1 15)))) + t105))) = false := decide_eq_false c11
        clear c11
        (first | rw [c11b0] | (simp only [i64_w, i32_w]; rw [c11b0]) | skip)
        have H' := Aside0.mk H
        clear H
        go_wp2
        go_meet
        case rel => exact ⟨_, (wrap64 ((wrap64 ((wrap64 (Go.bits .and .u8 a0 15)) + (wrap64 (Go.bits .and .u8 a1 15)))) + t105)), (by first | rfl | (simp; done) | (simp [*]; done)), H', ⟨by first | omega | exact Nat.le_refl _⟩, by repeat (first | exact Drawn0.refl _ | apply Drawn0.step)⟩
    case rest =>
      clear HC10
      try clear c1
      try clear c2
      try clear p2
      try clear c3
      try clear c5
      try clear c5b0
      try clear c5b1
      try clear p6
      try clear c11
      try clear c11b0
      obtain ⟨kq, x10_9, rfl, HA, HJ9, ⟨mc9, rfl⟩⟩ := hcut
      cases kq with
      | zero => exact absurd HA.out (by simp [alu_Adc.j0])
      | succ kj9 =>
        have H := HA.out
        clear HA
        simp only [alu_Adc.j0] at H
        replace H := Option.bind_eq_some_iff.mp H
        obtain ⟨t106, A120, H⟩ := H
        replace H : ((alu_put.f t106 64 ((Go.bits .and .u8 (Go.bits .and .u8 (Go.bits .xor .u8 a0 ((wrap64 ((wrap64 ((wrap64 (Go.bits .and .u8 a0 240)) + (wrap64 (Go.bits .and .u8 a1 240)))) + x10_9)) % 256)) (Go.bits .xor .u8 a1 ((wrap64 ((wrap64 ((wrap64 (Go.bits .and .u8 a0 240)) + (wrap64 (Go.bits .and .u8 a1 240)))) + x10_9)) % 256))) 128) != 0)).bind fun t107 => ((alu_put.f t107 2 ((((wrap64 ((wrap64 ((wrap64 (a0)) + (wrap64 (a1)))) + t101))) % 256) == 0)).bind fun t108 => (if (wrap64 ((wrap64 ((wrap64 (Go.bits .and .u8 a0 240)) + (wrap64 (Go.bits .and .u8 a1 240)))) + x10_9)) ≥ 160 then ((alu_put.f t108 1 (decide ((wrap64 ((wrap64 ((wrap64 ((wrap64 (Go.bits .and .u8 a0 240)) + (wrap64 (Go.bits .and .u8 a1 240)))) + x10_9)) + 96)) > 255))).bind fun t109 => (some ((wrap64 ((wrap64 ((wrap64 ((wrap64 (Go.bits .and .u8 a0 240)) + (wrap64 (Go.bits .and .u8 a1 240)))) + x10_9)) + 96)) % 256, t109))) else ((alu_put.f t108 1 (decide ((wrap64 ((wrap64 ((wrap64 (Go.bits .and .u8 a0 240)) + (wrap64 (Go.bits .and .u8 a1 240)))) + x10_9)) > 255))).bind fun t110 => (some ((wrap64 ((wrap64 ((wrap64 (Go.bits .and .u8 a0 240)) + (wrap64 (Go.bits .and .u8 a1 240)))) + x10_9)) % 256, t110)))))) = some (r1, r2) := H
        have A12 := Aside0.mk A120
        clear A120
        replace H := Option.bind_eq_some_iff.mp H
        obtain ⟨t107, A130, H⟩ := H
        replace H : ((alu_put.f t107 2 ((((wrap64 ((wrap64 ((wrap64 (a0)) + (wrap64 (a1)))) + t101))) % 256) == 0)).bind fun t108 => (if (wrap64 ((wrap64 ((wrap64 (Go.bits .and .u8 a0 240)) + (wrap64 (Go.bits .and .u8 a1 240)))) + x10_9)) ≥ 160 then ((alu_put.f t108 1 (decide ((wrap64 ((wrap64 ((wrap64 ((wrap64 (Go.bits .and .u8 a0 240)) + (wrap64 (Go.bits .and .u8 a1 240)))) + x10_9)) + 96)) > 255))).bind fun t109 => (some ((wrap64 ((wrap64 ((wrap64 ((wrap64 (Go.bits .and .u8 a0 240)) + (wrap64 (Go.bits .and .u8 a1 240)))) + x10_9)) + 96)) % 256, t109))) else ((alu_put.f t108 1 (decide ((wrap64 ((wrap64 ((wrap64 (Go.bits .and .u8 a0 240)) + (wrap64 (Go.bits .and .u8 a1 240)))) + x10_9)) > 255))).bind fun t110 => (some ((wrap64 ((wrap64 ((wrap64 (Go.bits .and .u8 a0 240)) + (wrap64 (Go.bits .and .u8 a1 240)))) + x10_9)) % 256, t110))))) = some (r1, r2) := H
        have A13 := Aside0.mk A130
        clear A130
        replace H := Option.bind_eq_some_iff.mp H
        obtain ⟨t108, A140, H⟩ := H
        replace H : (if (wrap64 ((wrap64 ((wrap64 (Go.bits .and .u8 a0 240)) + (wrap64 (Go.bits .and .u8 a1 240)))) + x10_9)) ≥ 160 then ((alu_put.f t108 1 (decide ((wrap64 ((wrap64 ((wrap64 ((wrap64 (Go.bits .and .u8 a0 240)) + (wrap64 (Go.bits .and .u8 a1 240)))) + x10_9)) + 96)) > 255))).bind fun t109 => (some ((wrap64 ((wrap64 ((wrap64 ((wrap64 (Go.bits .and .u8 a0 240)) + (wrap64 (Go.bits .and .u8 a1 240)))) + x10_9)) + 96)) % 256, t109))) else ((alu_put.f t108 1 (decide ((wrap64 ((wrap64 ((wrap64 (Go.bits .and .u8 a0 240)) + (wrap64 (Go.bits .and .u8 a1 240)))) + x10_9)) > 255))).bind fun t110 => (some ((wrap64 ((wrap64 ((wrap64 (Go.bits .and .u8 a0 240)) + (wrap64 (Go.bits .and .u8 a1 240)))) + x10_9)) % 256, t110)))) = some (r1, r2) := H
        have A14 := Aside0.mk A140
        clear A140
        by_cases c15 : (wrap64 ((wrap64 ((wrap64 (Go.bits .and .u8 a0 240)) + (wrap64 (Go.bits .and .u8 a1 240)))) + x10_9)) ≥ 160
        · rw [if_pos c15] at H
          have c15b0 : decide (160 ≤ (wrap64 ((wrap64 ((wrap64 (Go.bits .and .u8 a0 240)) + (wrap64 (Go.bits .and .u8 a1 240)))) + x10_9))) = true := decide_eq_true c15
          clear c15
          replace H := Option.bind_eq_some_iff.mp H
          obtain ⟨t109, A160, H⟩ := H
          replace H : (some ((wrap64 ((wrap64 ((wrap64 ((wrap64 (Go.bits .and .u8 a0 240)) + (wrap64 (Go.bits .and .u8 a1 240)))) + x10_9)) + 96)) % 256, t109)) = some (r1, r2) := H
          have A16 := Aside0.mk A160
          clear A160
          simp only [Option.some.injEq, Prod.mk.injEq] at H
          obtain ⟨rfl, rfl⟩ := H
          go_wp2_with (first | ((with_reducible refine gate_callee (f := 25) rfl ?_); refine goesL_ (some 72) rfl rfl Try.func25 (by kernel_rfl) rfl #[.int .u8 ((wrap64 ((wrap64 ((wrap64 (Go.bits .and .u8 a0 240)) + (wrap64 (Go.bits .and .u8 a1 240)))) + x10_9)) % 256), .int .u8 a2] rfl (by (try simp only [List.map_toArray, List.map_cons, List.map_nil]); first | done | rfl | (simp only [List.length_drop, List.length_take]; rfl)) ?_; (with_reducible refine (alu_Nz.calls ((wrap64 ((wrap64 ((wrap64 (Go.bits .and .u8 a0 240)) + (wrap64 (Go.bits .and .u8 a1 240)))) + x10_9)) % 256) a2 t106 _ A12.out).mono ?_); rintro e w' ⟨rfl, ⟨nd, rfl⟩⟩; refine ⟨_, rfl, ?_⟩) | ((with_reducible refine gate_callee (f := 36) rfl ?_); refine goesL_ (some 85) rfl rfl Try.func36 (by kernel_rfl) rfl #[.int .u8 t106, .int .u8 64, .bool ((Go.bits .and .u8 (Go.bits .and .u8 (Go.bits .xor .u8 a0 ((wrap64 ((wrap64 ((wrap64 (Go.bits .and .u8 a0 240)) + (wrap64 (Go.bits .and .u8 a1 240)))) + x10_9)) % 256)) (Go.bits .xor .u8 a1 ((wrap64 ((wrap64 ((wrap64 (Go.bits .and .u8 a0 240)) + (wrap64 (Go.bits .and .u8 a1 240)))) + x10_9)) % 256))) 128) != 0)] rfl (by (try simp only [List.map_toArray, List.map_cons, List.map_nil]); first | done | rfl | (simp only [List.length_drop, List.length_take]; rfl)) ?_; (with_reducible refine (alu_put.calls t106 64 ((Go.bits .and .u8 (Go.bits .and .u8 (Go.bits .xor .u8 a0 ((wrap64 ((wrap64 ((wrap64 (Go.bits .and .u8 a0 240)) + (wrap64 (Go.bits .and .u8 a1 240)))) + x10_9)) % 256)) (Go.bits .xor .u8 a1 ((wrap64 ((wrap64 ((wrap64 (Go.bits .and .u8 a0 240)) + (wrap64 (Go.bits .and .u8 a1 240)))) + x10_9)) % 256))) 128) != 0) t107 _ A13.out).mono ?_); rintro e w' ⟨rfl, ⟨nd, rfl⟩⟩; refine ⟨_, rfl, ?_⟩) | ((with_reducible refine gate_callee (f := 36) rfl ?_); refine goesL_ (some 90) rfl rfl Try.func36 (by kernel_rfl) rfl #[.int .u8 t107, .int .u8 2, .bool ((((wrap64 ((wrap64 ((wrap64 (a0)) + (wrap64 (a1)))) + t101))) % 256) == 0)] rfl (by (try simp only [List.map_toArray, List.map_cons, List.map_nil]); first | done | rfl | (simp only [List.length_drop, List.length_take]; rfl)) ?_; (with_reducible refine (alu_put.calls t107 2 ((((wrap64 ((wrap64 ((wrap64 (a0)) + (wrap64 (a1)))) + t101))) % 256) == 0) t108 _ A14.out).mono ?_); rintro e w' ⟨rfl, ⟨nd, rfl⟩⟩; refine ⟨_, rfl, ?_⟩) | ((with_reducible refine gate_callee (f := 36) rfl ?_); refine goesL_ (some 100) rfl rfl Try.func36 (by kernel_rfl) rfl #[.int .u8 t108, .int .u8 1, .bool (decide ((wrap64 ((wrap64 ((wrap64 ((wrap64 (Go.bits .and .u8 a0 240)) + (wrap64 (Go.bits .and .u8 a1 240)))) + x10_9)) + 96)) > 255))] rfl (by (try simp only [List.map_toArray, List.map_cons, List.map_nil]); first | done | rfl | (simp only [List.length_drop, List.length_take]; rfl)) ?_; (with_reducible refine (alu_put.calls t108 1 (decide ((wrap64 ((wrap64 ((wrap64 ((wrap64 (Go.bits .and .u8 a0 240)) + (wrap64 (Go.bits .and .u8 a1 240)))) + x10_9)) + 96)) > 255)) t109 _ A16.out).mono ?_); rintro e w' ⟨rfl, ⟨nd, rfl⟩⟩; refine ⟨_, rfl, ?_⟩))
          go_ret2
          exact ⟨by first | rfl | (simp; done) | (simp [*]; done), by repeat (first | exact Drawn0.refl _ | apply Drawn0.step)⟩
        · rw [if_neg c15] at H
          have c15b0 : decide (160 ≤ (wrap64 ((wrap64 ((wrap64 (Go.bits .and .u8 a0 240)) + (wrap64 (Go.bits .and .u8 a1 240)))) + x10_9))) = false := decide_eq_false c15
          clear c15
          replace H := Option.bind_eq_some_iff.mp H
          obtain ⟨t110, A170, H⟩ := H
          replace H : (some ((wrap64 ((wrap64 ((wrap64 (Go.bits .and .u8 a0 240)) + (wrap64 (Go.bits .and .u8 a1 240)))) + x10_9)) % 256, t110)) = some (r1, r2) := H
          have A17 := Aside0.mk A170
          clear A170
          simp only [Option.some.injEq, Prod.mk.injEq] at H
          obtain ⟨rfl, rfl⟩ := H
          go_wp2_with (first | ((with_reducible refine gate_callee (f := 25) rfl ?_); refine goesL_ (some 72) rfl rfl Try.func25 (by kernel_rfl) rfl #[.int .u8 ((wrap64 ((wrap64 ((wrap64 (Go.bits .and .u8 a0 240)) + (wrap64 (Go.bits .and .u8 a1 240)))) + x10_9)) % 256), .int .u8 a2] rfl (by (try simp only [List.map_toArray, List.map_cons, List.map_nil]); first | done | rfl | (simp only [List.length_drop, List.length_take]; rfl)) ?_; (with_reducible refine (alu_Nz.calls ((wrap64 ((wrap64 ((wrap64 (Go.bits .and .u8 a0 240)) + (wrap64 (Go.bits .and .u8 a1 240)))) + x10_9)) % 256) a2 t106 _ A12.out).mono ?_); rintro e w' ⟨rfl, ⟨nd, rfl⟩⟩; refine ⟨_, rfl, ?_⟩) | ((with_reducible refine gate_callee (f := 36) rfl ?_); refine goesL_ (some 85) rfl rfl Try.func36 (by kernel_rfl) rfl #[.int .u8 t106, .int .u8 64, .bool ((Go.bits .and .u8 (Go.bits .and .u8 (Go.bits .xor .u8 a0 ((wrap64 ((wrap64 ((wrap64 (Go.bits .and .u8 a0 240)) + (wrap64 (Go.bits .and .u8 a1 240)))) + x10_9)) % 256)) (Go.bits .xor .u8 a1 ((wrap64 ((wrap64 ((wrap64 (Go.bits .and .u8 a0 240)) + (wrap64 (Go.bits .and .u8 a1 240)))) + x10_9)) % 256))) 128) != 0)] rfl (by (try simp only [List.map_toArray, List.map_cons, List.map_nil]); first | done | rfl | (simp only [List.length_drop, List.length_take]; rfl)) ?_; (with_reducible refine (alu_put.calls t106 64 ((Go.bits .and .u8 (Go.bits .and .u8 (Go.bits .xor .u8 a0 ((wrap64 ((wrap64 ((wrap64 (Go.bits .and .u8 a0 240)) + (wrap64 (Go.bits .and .u8 a1 240)))) + x10_9)) % 256)) (Go.bits .xor .u8 a1 ((wrap64 ((wrap64 ((wrap64 (Go.bits .and .u8 a0 240)) + (wrap64 (Go.bits .and .u8 a1 240)))) + x10_9)) % 256))) 128) != 0) t107 _ A13.out).mono ?_); rintro e w' ⟨rfl, ⟨nd, rfl⟩⟩; refine ⟨_, rfl, ?_⟩) | ((with_reducible refine gate_callee (f := 36) rfl ?_); refine goesL_ (some 90) rfl rfl Try.func36 (by kernel_rfl) rfl #[.int .u8 t107, .int .u8 2, .bool ((((wrap64 ((wrap64 ((wrap64 (a0)) + (wrap64 (a1)))) + t101))) % 256) == 0)] rfl (by (try simp only [List.map_toArray, List.map_cons, List.map_nil]); first | done | rfl | (simp only [List.length_drop, List.length_take]; rfl)) ?_; (with_reducible refine (alu_put.calls t107 2 ((((wrap64 ((wrap64 ((wrap64 (a0)) + (wrap64 (a1)))) + t101))) % 256) == 0) t108 _ A14.out).mono ?_); rintro e w' ⟨rfl, ⟨nd, rfl⟩⟩; refine ⟨_, rfl, ?_⟩) | ((with_reducible refine gate_callee (f := 36) rfl ?_); refine goesL_ (some 100) rfl rfl Try.func36 (by kernel_rfl) rfl #[.int .u8 t108, .int .u8 1, .bool (decide ((wrap64 ((wrap64 ((wrap64 (Go.bits .and .u8 a0 240)) + (wrap64 (Go.bits .and .u8 a1 240)))) + x10_9)) > 255))] rfl (by (try simp only [List.map_toArray, List.map_cons, List.map_nil]); first | done | rfl | (simp only [List.length_drop, List.length_take]; rfl)) ?_; (with_reducible refine (alu_put.calls t108 1 (decide ((wrap64 ((wrap64 ((wrap64 (Go.bits .and .u8 a0 240)) + (wrap64 (Go.bits .and .u8 a1 240)))) + x10_9)) > 255)) t110 _ A17.out).mono ?_); rintro e w' ⟨rfl, ⟨nd, rfl⟩⟩; refine ⟨_, rfl, ?_⟩))
          go_ret2
          exact ⟨by first | rfl | (simp; done) | (simp [*]; done), by repeat (first | exact Drawn0.refl _ | apply Drawn0.step)⟩

/-! ### tandemlaw3_AluLongSums: function 8 -/
mutual
def tandemlaw3_AluLongSums.l0 : Nat → Int → Int → Int → Int → Int → Int → Option (Bool)
  | 0, _, _, _, _, _, _ => none
  | k + 1, x0, x1, x2, x7, x8, x9 => if x9 < 64 then (if 0 ≤ (IntKind.u64.wrap (x9)) then ((alu_Adc.f k ((shr .u64 x0 (IntKind.u64.wrap (x9))) % 256) ((shr .u64 x1 (IntKind.u64.wrap (x9))) % 256) x7).bind fun bt112 => (tandemlaw3_AluLongSums.l0 k x0 x1 x2 bt112.2 (Go.bits .or .u64 x8 (shl .u64 (IntKind.u64.wrap (bt112.1)) (IntKind.u64.wrap (x9)))) (wrap64 (x9 + 8)))) else (none)) else (if (x0 / 9223372036854775808) = (x1 / 9223372036854775808) then (tandemlaw3_AluLongSums.j1 k x0 x1 x2 x7 x8 (IntKind.u64.wrap (x0 + x1)) (((IntKind.u64.wrap (x0 + x1)) / 9223372036854775808) != (x0 / 9223372036854775808))) else (tandemlaw3_AluLongSums.j1 k x0 x1 x2 x7 x8 (IntKind.u64.wrap (x0 + x1)) false))
def tandemlaw3_AluLongSums.j1 : Nat → Int → Int → Int → Int → Int → Int → Bool → Option (Bool)
  | 0, _, _, _, _, _, _, _ => none
  | k + 1, x0, x1, x2, x7, x8, x11, x12 => if x8 = x11 then ((tandemlaw3_has.f x7 1).bind fun t114 => (if (t114 != (decide (x11 < x0))) = true then (tandemlaw3_AluLongSums.j2 k x0 x1 x2 true) else ((tandemlaw3_has.f x7 64).bind fun t115 => (if (t115 != x12) = true then (tandemlaw3_AluLongSums.j2 k x0 x1 x2 true) else ((tandemlaw3_has.f x7 128).bind fun t116 => (tandemlaw3_AluLongSums.j2 k x0 x1 x2 (t116 != ((x11 / 9223372036854775808) == 1)))))))) else (tandemlaw3_AluLongSums.j2 k x0 x1 x2 true)
def tandemlaw3_AluLongSums.j2 : Nat → Int → Int → Int → Bool → Option (Bool)
  | 0, _, _, _, _ => none
  | k + 1, x0, x1, x2, x82 => if x82 = true then (some false) else ((tandemlaw3_with.f x2 false true).bind fun t117 => (tandemlaw3_AluLongSums.l1 k (Int.tmod x0 10000000000000000) (Int.tmod x1 10000000000000000) t117 (IntKind.u64.wrap ((Int.tmod x0 10000000000000000) + (Int.tmod x1 10000000000000000))) 0))
def tandemlaw3_AluLongSums.l1 : Nat → Int → Int → Int → Int → Int → Option (Bool)
  | 0, _, _, _, _, _ => none
  | k + 1, x0, x1, x7, x11, x13 => if x13 < 8 then ((tandemlaw3_digits.f (wrap64 (Int.tmod x0 100))).bind fun t119 => ((tandemlaw3_digits.f (wrap64 (Int.tmod x1 100))).bind fun t120 => ((alu_Adc.f k t119 t120 x7).bind fun bt121 => ((tandemlaw3_digits.f (wrap64 (Int.tmod x11 100))).bind fun t123 => (if bt121.1 = t123 then (tandemlaw3_AluLongSums.l1 k (IntKind.u64.wrap (Int.tdiv x0 100)) (IntKind.u64.wrap (Int.tdiv x1 100)) bt121.2 (IntKind.u64.wrap (Int.tdiv x11 100)) (wrap64 (x13 + 1))) else (some false)))))) else ((tandemlaw3_has.f x7 1).bind fun t118 => (some (t118 == (decide (x11 > 0)))))
end
def tandemlaw3_AluLongSums.f (k : Nat) (a0 : Int) (a1 : Int) (a2 : Int) : Option (Bool) := (tandemlaw3_with.f a2 false false).bind fun t111 => (tandemlaw3_AluLongSums.l0 k a0 a1 a2 t111 0 0)
theorem tandemlaw3_AluLongSums.mono_l : ∀ k, (∀ y0 y1 y2 y3 y4 y5, LeO (tandemlaw3_AluLongSums.l0 k y0 y1 y2 y3 y4 y5) (tandemlaw3_AluLongSums.l0 (k + 1) y0 y1 y2 y3 y4 y5)) ∧ (∀ y0 y1 y2 y3 y4 y5 y6, LeO (tandemlaw3_AluLongSums.j1 k y0 y1 y2 y3 y4 y5 y6) (tandemlaw3_AluLongSums.j1 (k + 1) y0 y1 y2 y3 y4 y5 y6)) ∧ (∀ y0 y1 y2 y3, LeO (tandemlaw3_AluLongSums.j2 k y0 y1 y2 y3) (tandemlaw3_AluLongSums.j2 (k + 1) y0 y1 y2 y3)) ∧ (∀ y0 y1 y2 y3 y4, LeO (tandemlaw3_AluLongSums.l1 k y0 y1 y2 y3 y4) (tandemlaw3_AluLongSums.l1 (k + 1) y0 y1 y2 y3 y4))
  | 0 => ⟨fun _ _ _ _ _ _ r h => by simp [tandemlaw3_AluLongSums.l0] at h, fun _ _ _ _ _ _ _ r h => by simp [tandemlaw3_AluLongSums.j1] at h, fun _ _ _ _ r h => by simp [tandemlaw3_AluLongSums.j2] at h, fun _ _ _ _ _ r h => by simp [tandemlaw3_AluLongSums.l1] at h⟩
  | k + 1 => by
    obtain ⟨ih0, ih1, ih2, ih3⟩ := tandemlaw3_AluLongSums.mono_l k
    refine ⟨?_, ?_, ?_, ?_⟩
    · intro y0 y1 y2 y3 y4 y5
      unfold tandemlaw3_AluLongSums.l0
      repeat' first
      | (with_reducible exact ih0 _ _ _ _ _ _)
      | (with_reducible exact ih1 _ _ _ _ _ _ _)
      | (with_reducible exact ih2 _ _ _ _)
      | (with_reducible exact ih3 _ _ _ _ _)
      | (with_reducible exact alu_Adc.mono _ _ _ _)
      | (with_reducible exact LeO.refl _)
      | (with_reducible exact LeO.none _)
      | (with_reducible refine LeO.ite ?_ ?_)
      | (with_reducible refine LeO.bind ?_ (fun _ => ?_))
      | exact ih0 _ _ _ _ _ _
      | exact ih1 _ _ _ _ _ _ _
      | exact ih2 _ _ _ _
      | exact ih3 _ _ _ _ _
      | exact alu_Adc.mono _ _ _ _
      | exact LeO.none _
      | refine LeO.ite ?_ ?_
      | refine LeO.bind ?_ (fun _ => ?_)
    · intro y0 y1 y2 y3 y4 y5 y6
      unfold tandemlaw3_AluLongSums.j1
      repeat' first
      | (with_reducible exact ih0 _ _ _ _ _ _)
      | (with_reducible exact ih1 _ _ _ _ _ _ _)
      | (with_reducible exact ih2 _ _ _ _)
      | (with_reducible exact ih3 _ _ _ _ _)
      | (with_reducible exact alu_Adc.mono _ _ _ _)
      | (with_reducible exact LeO.refl _)
      | (with_reducible exact LeO.none _)
      | (with_reducible refine LeO.ite ?_ ?_)
      | (with_reducible refine LeO.bind ?_ (fun _ => ?_))
      | exact ih0 _ _ _ _ _ _
      | exact ih1 _ _ _ _ _ _ _
      | exact ih2 _ _ _ _
      | exact ih3 _ _ _ _ _
      | exact alu_Adc.mono _ _ _ _
      | exact LeO.none _
      | refine LeO.ite ?_ ?_
      | refine LeO.bind ?_ (fun _ => ?_)
    · intro y0 y1 y2 y3
      unfold tandemlaw3_AluLongSums.j2
      repeat' first
      | (with_reducible exact ih0 _ _ _ _ _ _)
      | (with_reducible exact ih1 _ _ _ _ _ _ _)
      | (with_reducible exact ih2 _ _ _ _)
      | (with_reducible exact ih3 _ _ _ _ _)
      | (with_reducible exact alu_Adc.mono _ _ _ _)
      | (with_reducible exact LeO.refl _)
      | (with_reducible exact LeO.none _)
      | (with_reducible refine LeO.ite ?_ ?_)
      | (with_reducible refine LeO.bind ?_ (fun _ => ?_))
      | exact ih0 _ _ _ _ _ _
      | exact ih1 _ _ _ _ _ _ _
      | exact ih2 _ _ _ _
      | exact ih3 _ _ _ _ _
      | exact alu_Adc.mono _ _ _ _
      | exact LeO.none _
      | refine LeO.ite ?_ ?_
      | refine LeO.bind ?_ (fun _ => ?_)
    · intro y0 y1 y2 y3 y4
      unfold tandemlaw3_AluLongSums.l1
      repeat' first
      | (with_reducible exact ih0 _ _ _ _ _ _)
      | (with_reducible exact ih1 _ _ _ _ _ _ _)
      | (with_reducible exact ih2 _ _ _ _)
      | (with_reducible exact ih3 _ _ _ _ _)
      | (with_reducible exact alu_Adc.mono _ _ _ _)
      | (with_reducible exact LeO.refl _)
      | (with_reducible exact LeO.none _)
      | (with_reducible refine LeO.ite ?_ ?_)
      | (with_reducible refine LeO.bind ?_ (fun _ => ?_))
      | exact ih0 _ _ _ _ _ _
      | exact ih1 _ _ _ _ _ _ _
      | exact ih2 _ _ _ _
      | exact ih3 _ _ _ _ _
      | exact alu_Adc.mono _ _ _ _
      | exact LeO.none _
      | refine LeO.ite ?_ ?_
      | refine LeO.bind ?_ (fun _ => ?_)
theorem tandemlaw3_AluLongSums.mono : ∀ a0 a1 a2 k, LeO (tandemlaw3_AluLongSums.f k a0 a1 a2) (tandemlaw3_AluLongSums.f (k + 1) a0 a1 a2) := by
  intro a0 a1 a2 k
  obtain ⟨ih0, ih1, ih2, ih3⟩ := tandemlaw3_AluLongSums.mono_l k
  unfold tandemlaw3_AluLongSums.f
  repeat' first
      | (with_reducible exact ih0 _ _ _ _ _ _)
      | (with_reducible exact ih1 _ _ _ _ _ _ _)
      | (with_reducible exact ih2 _ _ _ _)
      | (with_reducible exact ih3 _ _ _ _ _)
      | (with_reducible exact alu_Adc.mono _ _ _ _)
      | (with_reducible exact LeO.refl _)
      | (with_reducible exact LeO.none _)
      | (with_reducible refine LeO.ite ?_ ?_)
      | (with_reducible refine LeO.bind ?_ (fun _ => ?_))
      | exact ih0 _ _ _ _ _ _
      | exact ih1 _ _ _ _ _ _ _
      | exact ih2 _ _ _ _
      | exact ih3 _ _ _ _ _
      | exact alu_Adc.mono _ _ _ _
      | exact LeO.none _
      | refine LeO.ite ?_ ?_
      | refine LeO.bind ?_ (fun _ => ?_)
set_option maxHeartbeats 8000000 in
set_option maxRecDepth 100000 in
theorem tandemlaw3_AluLongSums.calls (k : Nat) (a0 : Int) (a1 : Int) (a2 : Int) (r : Bool) (w : World) (h : tandemlaw3_AluLongSums.f k a0 a1 a2 = some r) :
    Calls Try.prog 8 #[.int .u64 a0, .int .u64 a1, .int .u8 a2] w fun e w' => e = .returned (.bool r) ∧ Drawn0 w w' := by
  have H : ((tandemlaw3_with.f a2 false false).bind fun t111 => (tandemlaw3_AluLongSums.l0 k a0 a1 a2 t111 0 0)) = some r := h
  clear h
  replace H := Option.bind_eq_some_iff.mp H
  obtain ⟨t111, A40, H⟩ := H
  replace H : (tandemlaw3_AluLongSums.l0 k a0 a1 a2 t111 0 0) = some r := H
  have A4 := Aside0.mk A40
  clear A40
  have H' := Aside0.mk H
  clear H
  go_enter Try.func8, Try.ntmps8
  go_wp2_with (first | ((with_reducible refine gate_callee (f := 18) rfl ?_); refine goesL_ (some 16) rfl rfl Try.func18 (by kernel_rfl) rfl #[.int .u8 a2, .bool false, .bool false] rfl (by (try simp only [List.map_toArray, List.map_cons, List.map_nil]); first | done | rfl | (simp only [List.length_drop, List.length_take]; rfl)) ?_; (with_reducible refine (tandemlaw3_with.calls a2 false false t111 _ A4.out).mono ?_); rintro e w' ⟨rfl, ⟨nd, rfl⟩⟩; refine ⟨_, rfl, ?_⟩))
  go_loopg [7, 8, 9] k (fun kq v7 v8 v9 w' => ∃ (x7_1 : Int) (x8_1 : Int) (x9_1 : Int), v7 = .int .u8 x7_1 ∧ v8 = .int .u64 x8_1 ∧ v9 = .int .i64 x9_1 ∧ Aside0 (tandemlaw3_AluLongSums.l0 kq a0 a1 a2 x7_1 x8_1 x9_1 = some r) ∧ Aside0 (kq ≤ k) ∧ Drawn0 w w')
  case atStart => exact ⟨(t111), (0), (0), (by first | rfl | (simp; done) | (simp [*]; done)), (by first | rfl | (simp; done) | (simp [*]; done)), (by first | rfl | (simp; done) | (simp [*]; done)), H', ⟨Nat.le_refl _⟩, by repeat (first | exact Drawn0.refl _ | apply Drawn0.step)⟩
  case round =>
    clear H'
    try clear c1
    try clear p2
    obtain ⟨x7_1, x8_1, x9_1, rfl, rfl, rfl, HA, HK1, ⟨m1, rfl⟩⟩ := hrel
    cases gk with
    | zero => exact absurd HA.out (by simp [tandemlaw3_AluLongSums.l0])
    | succ k1 =>
      have H := HA.out
      clear HA
      simp only [tandemlaw3_AluLongSums.l0] at H
      by_cases c5 : x9_1 < 64
      · rw [if_pos c5] at H
        have c5b0 : decide (x9_1 < 64) = true := decide_eq_true c5
        clear c5
        obtain ⟨ji6, hji6⟩ : ∃ j_ : Int, (IntKind.u64.wrap (x9_1)) = j_ := ⟨_, rfl⟩
        replace H : (if 0 ≤ (ji6) then ((alu_Adc.f k1 ((shr .u64 a0 (ji6)) % 256) ((shr .u64 a1 (ji6)) % 256) x7_1).bind fun bt112 => (tandemlaw3_AluLongSums.l0 k1 a0 a1 a2 bt112.2 (Go.bits .or .u64 x8_1 (shl .u64 (IntKind.u64.wrap (bt112.1)) (ji6))) (wrap64 (x9_1 + 8)))) else (none)) = some r := by first | (rw [hji6] at H; exact H) | (simp only [hji6] at H ⊢; exact H)
        by_cases c7 : 0 ≤ (ji6)
        · rw [if_pos c7] at H
          have c7b0 := eq_true c7
          have c7b1 : decide (0 ≤ (ji6)) = true := decide_eq_true c7
          clear c7
          obtain ⟨ji8, hji8⟩ : ∃ j_ : Int, (shr .u64 a0 (ji6)) = j_ := ⟨_, rfl⟩
          replace H : ((alu_Adc.f k1 ((ji8) % 256) ((shr .u64 a1 (ji6)) % 256) x7_1).bind fun bt112 => (tandemlaw3_AluLongSums.l0 k1 a0 a1 a2 bt112.2 (Go.bits .or .u64 x8_1 (shl .u64 (IntKind.u64.wrap (bt112.1)) (ji6))) (wrap64 (x9_1 + 8)))) = some r := by first | (rw [hji8] at H; exact H) | (simp only [hji8] at H ⊢; exact H)
          have hji8_ : (a0 / 2 ^ min (ji6).toNat 64) = ji8 := hji8
          have hji8z : (ji6) ≤ 64 → (a0 / 2 ^ (ji6).toNat) = ji8 := shr_small hji8
          have c9b0 := eq_true (of_decide_eq_true (by first | (with_reducible assumption) | assumption) : 0 ≤ (ji6))
          obtain ⟨ji10, hji10⟩ : ∃ j_ : Int, (shr .u64 a1 (ji6)) = j_ := ⟨_, rfl⟩
          replace H : ((alu_Adc.f k1 ((ji8) % 256) ((ji10) % 256) x7_1).bind fun bt112 => (tandemlaw3_AluLongSums.l0 k1 a0 a1 a2 bt112.2 (Go.bits .or .u64 x8_1 (shl .u64 (IntKind.u64.wrap (bt112.1)) (ji6))) (wrap64 (x9_1 + 8)))) = some r := by first | (rw [hji10] at H; exact H) | (simp only [hji10] at H ⊢; exact H)
          have hji10_ : (a1 / 2 ^ min (ji6).toNat 64) = ji10 := hji10
          have hji10z : (ji6) ≤ 64 → (a1 / 2 ^ (ji6).toNat) = ji10 := shr_small hji10
          replace H := Option.bind_eq_some_iff.mp H
          obtain ⟨⟨t112, t113⟩, A110, H⟩ := H
          replace H : (tandemlaw3_AluLongSums.l0 k1 a0 a1 a2 t113 (Go.bits .or .u64 x8_1 (shl .u64 (IntKind.u64.wrap (t112)) (ji6))) (wrap64 (x9_1 + 8))) = some r := H
          have A11 := Aside0.mk A110
          clear A110
          have c12b0 := eq_true (of_decide_eq_true (by first | (with_reducible assumption) | assumption) : 0 ≤ (ji6))
          obtain ⟨ji13, hji13⟩ : ∃ j_ : Int, (shl .u64 (IntKind.u64.wrap (t112)) (ji6)) = j_ := ⟨_, rfl⟩
          replace H : (tandemlaw3_AluLongSums.l0 k1 a0 a1 a2 t113 (Go.bits .or .u64 x8_1 (ji13)) (wrap64 (x9_1 + 8))) = some r := by first | (rw [hji13] at H; exact H) | (simp only [hji13] at H ⊢; exact H)
          (try rw [hji13] at A11)
          have hji13_ : (IntKind.u64.wrap ((IntKind.u64.wrap (t112)) * 2 ^ min (ji6).toNat 64)) = ji13 := hji13
          have hji13z : (ji6) ≤ 64 → (IntKind.u64.wrap ((IntKind.u64.wrap (t112)) * 2 ^ (ji6).toNat)) = ji13 := shl_small hji13
          have H' := Aside0.mk H
          clear H
          go_wp2_with (first | ((with_reducible refine gate_callee (f := 22) rfl ?_); refine goesL_ (some 33) rfl rfl Try.func22 (by kernel_rfl) rfl #[.int .u8 ((ji8) % 256), .int .u8 ((ji10) % 256), .int .u8 x7_1] rfl (by (try simp only [List.map_toArray, List.map_cons, List.map_nil]); first | done | (simp only [hji10, hji8]; rfl) | rfl | (simp only [List.length_drop, List.length_take]; rfl)) ?_; (with_reducible refine (alu_Adc.calls k1 ((ji8) % 256) ((ji10) % 256) x7_1 t112 t113 _ A11.out).mono ?_); rintro e w' ⟨rfl, ⟨nd, rfl⟩⟩; refine ⟨_, rfl, ?_⟩))
          go_roundg k1
          case measure => have := HK1.out; omega
          case rel => exact ⟨(t113), (Go.bits .or .u64 x8_1 (ji13)), (wrap64 (x9_1 + 8)), (by first | rfl | (simp; done) | (simp [*]; done)), (by first | rfl | (simp; done) | (simp only [← hji13] <;> (first | rfl | simp)) | (simp [*]; done)), (by first | rfl | (simp; done) | (simp [*]; done)), H', ⟨by have := HK1.out; omega⟩, by repeat (first | exact Drawn0.refl _ | apply Drawn0.step)⟩
        · rw [if_neg c7] at H
          exact absurd H (by simp)
      · rw [if_neg c5] at H
        have c5b0 : decide (x9_1 < 64) = false := decide_eq_false c5
        clear c5
        have HC14 := Aside0.mk H
        clear H
        go_upto_region 10 with (fail)
        go_cut [12] (fun v12 wc => ∃ (kq : Nat) (x12_13 : Bool), v12 = .bool x12_13 ∧ Aside0 (tandemlaw3_AluLongSums.j1 kq a0 a1 a2 x7_1 x8_1 (IntKind.u64.wrap (a0 + a1)) x12_13 = some r) ∧ Aside0 (kq ≤ k1) ∧ Drawn0 w wc)
        case first =>
          have H := HC14.out
          clear HC14
          by_cases c15 : (a0 / 9223372036854775808) = (a1 / 9223372036854775808)
          · rw [if_pos c15] at H
            have c15b0 : ((a0 / 9223372036854775808) == (a1 / 9223372036854775808)) = true := beq_iff_eq.mpr c15
            have c15b1 : ((a0 / 9223372036854775808) != (a1 / 9223372036854775808)) = false := bne_eq_false_iff_eq.mpr c15
            clear c15
            (first | rw [c15b0] | (simp only [i64_w, i32_w]; rw [c15b0]) | skip)
            have H' := Aside0.mk H
            clear H
            go_wp2
            go_meet
            case rel => exact ⟨_, ((((IntKind.u64.wrap (a0 + a1)) / 9223372036854775808) != (a0 / 9223372036854775808))), (by first | rfl | (simp; done) | (simp [*]; done)), H', ⟨by have := HK1.out; first | omega | exact Nat.le_refl _⟩, by repeat (first | exact Drawn0.refl _ | apply Drawn0.step)⟩
          · rw [if_neg c15] at H
            have c15b0 : ((a0 / 9223372036854775808) == (a1 / 9223372036854775808)) = false := beq_eq_false_iff_ne.mpr c15
            have c15b1 : ((a0 / 9223372036854775808) != (a1 / 9223372036854775808)) = true := bne_iff_ne.mpr c15
            (first | rw [c15b0] | (simp only [i64_w, i32_w]; rw [c15b0]) | skip)
            have H' := Aside0.mk H
            clear H
            go_wp2
            go_meet
            case rel => exact ⟨_, (false), (by first | rfl | (simp; done) | (simp [*]; done)), H', ⟨by have := HK1.out; first | omega | exact Nat.le_refl _⟩, by repeat (first | exact Drawn0.refl _ | apply Drawn0.step)⟩
        case rest =>
          clear HC14
          try clear c1
          try clear c2
          try clear p2
          try clear c5
          try clear c5b0
          try clear p6
          try clear c7
          try clear c7b0
          try clear c7b1
          try clear c8
          try clear c9
          try clear c9b0
          try clear c12
          try clear c12b0
          try clear c15
          try clear c15b0
          try clear c15b1
          try clear p2
          obtain ⟨kq, x12_13, rfl, HA, HJ13, ⟨mc13, rfl⟩⟩ := hcut
          cases kq with
          | zero => exact absurd HA.out (by simp [tandemlaw3_AluLongSums.j1])
          | succ kj13 =>
            have H := HA.out
            clear HA
            simp only [tandemlaw3_AluLongSums.j1] at H
            have HC16 := Aside0.mk H
            clear H
            go_upto_region 11 with (fail)
            go_cut [82] (fun v82 wc => ∃ (kq : Nat) (x82_15 : Bool), v82 = .bool x82_15 ∧ Aside0 (tandemlaw3_AluLongSums.j2 kq a0 a1 a2 x82_15 = some r) ∧ Aside0 (kq ≤ kj13) ∧ Drawn0 w wc)
            case first =>
              have H := HC16.out
              clear HC16
              by_cases c17 : x8_1 = (IntKind.u64.wrap (a0 + a1))
              · rw [if_pos c17] at H
                have c17b0 : (x8_1 == (IntKind.u64.wrap (a0 + a1))) = true := beq_iff_eq.mpr c17
                have c17b1 : (x8_1 != (IntKind.u64.wrap (a0 + a1))) = false := bne_eq_false_iff_eq.mpr c17
                clear c17
                (first | rw [c17b0] | (simp only [i64_w, i32_w]; rw [c17b0]) | skip)
                replace H := Option.bind_eq_some_iff.mp H
                obtain ⟨t114, A180, H⟩ := H
                replace H : (if (t114 != (decide ((IntKind.u64.wrap (a0 + a1)) < a0))) = true then (tandemlaw3_AluLongSums.j2 kj13 a0 a1 a2 true) else ((tandemlaw3_has.f x7_1 64).bind fun t115 => (if (t115 != x12_13) = true then (tandemlaw3_AluLongSums.j2 kj13 a0 a1 a2 true) else ((tandemlaw3_has.f x7_1 128).bind fun t116 => (tandemlaw3_AluLongSums.j2 kj13 a0 a1 a2 (t116 != (((IntKind.u64.wrap (a0 + a1)) / 9223372036854775808) == 1))))))) = some r := H
                have A18 := Aside0.mk A180
                clear A180
                by_cases c19 : (t114 != (decide ((IntKind.u64.wrap (a0 + a1)) < a0))) = true
                · rw [if_pos c19] at H
                  have c19b0 : (t114 != (decide ((IntKind.u64.wrap (a0 + a1)) < a0))) = true := c19
                  (try (have c19b1 : decide (t114 = (decide ((IntKind.u64.wrap (a0 + a1)) < a0))) = false := by simpa using c19))
                  (try (have c19b2 : (t114 == (decide ((IntKind.u64.wrap (a0 + a1)) < a0))) = false := by simpa using c19))
                  (try (have c19b3 : ¬ (t114 = (decide ((IntKind.u64.wrap (a0 + a1)) < a0))) := by simpa using c19))
                  clear c19
                  have H' := Aside0.mk H
                  clear H
                  go_wp2_with (first | (go_at_call 15; (with_reducible refine (tandemlaw3_has.calls x7_1 1 t114 _ A18.out).mono ?_); rintro e w' ⟨rfl, ⟨nd, rfl⟩⟩))
                  go_meet
                  case rel => exact ⟨_, (true), (by first | rfl | (simp; done) | (simp [*]; done)), H', ⟨by have := HK1.out; have := HJ13.out; first | omega | exact Nat.le_refl _⟩, by repeat (first | exact Drawn0.refl _ | apply Drawn0.step)⟩
                · rw [if_neg c19] at H
                  have c19b0 : (t114 != (decide ((IntKind.u64.wrap (a0 + a1)) < a0))) = false := by simpa using c19
                  (try (have c19b1 : decide (t114 = (decide ((IntKind.u64.wrap (a0 + a1)) < a0))) = true := by simpa using c19))
                  (try (have c19b2 : (t114 == (decide ((IntKind.u64.wrap (a0 + a1)) < a0))) = true := by simpa using c19))
                  clear c19
                  replace H := Option.bind_eq_some_iff.mp H
                  obtain ⟨t115, A200, H⟩ := H
                  replace H : (if (t115 != x12_13) = true then (tandemlaw3_AluLongSums.j2 kj13 a0 a1 a2 true) else ((tandemlaw3_has.f x7_1 128).bind fun t116 => (tandemlaw3_AluLongSums.j2 kj13 a0 a1 a2 (t116 != (((IntKind.u64.wrap (a0 + a1)) / 9223372036854775808) == 1))))) = some r := H
                  have A20 := Aside0.mk A200
                  clear A200
                  by_cases c21 : (t115 != x12_13) = true
                  · rw [if_pos c21] at H
                    have c21b0 : (t115 != x12_13) = true := c21
                    (try (have c21b1 : decide (t115 = x12_13) = false := by simpa using c21))
                    (try (have c21b2 : (t115 == x12_13) = false := by simpa using c21))
                    (try (have c21b3 : ¬ (t115 = x12_13) := by simpa using c21))
                    clear c21
                    have H' := Aside0.mk H
                    clear H
                    go_wp2_with (first | (go_at_call 15; (with_reducible refine (tandemlaw3_has.calls x7_1 1 t114 _ A18.out).mono ?_); rintro e w' ⟨rfl, ⟨nd, rfl⟩⟩) | (go_at_call 15; (with_reducible refine (tandemlaw3_has.calls x7_1 64 t115 _ A20.out).mono ?_); rintro e w' ⟨rfl, ⟨nd, rfl⟩⟩))
                    go_meet
                    case rel => exact ⟨_, (true), (by first | rfl | (simp; done) | (simp [*]; done)), H', ⟨by have := HK1.out; have := HJ13.out; first | omega | exact Nat.le_refl _⟩, by repeat (first | exact Drawn0.refl _ | apply Drawn0.step)⟩
                  · rw [if_neg c21] at H
                    have c21b0 : (t115 != x12_13) = false := by simpa using c21
                    (try (have c21b1 : decide (t115 = x12_13) = true := by simpa using c21))
                    (try (have c21b2 : (t115 == x12_13) = true := by simpa using c21))
                    clear c21
                    replace H := Option.bind_eq_some_iff.mp H
                    obtain ⟨t116, A220, H⟩ := H
                    replace H : (tandemlaw3_AluLongSums.j2 kj13 a0 a1 a2 (t116 != (((IntKind.u64.wrap (a0 + a1)) / 9223372036854775808) == 1))) = some r := H
                    have A22 := Aside0.mk A220
                    clear A220
                    have H' := Aside0.mk H
                    clear H
                    go_wp2_with (first | (go_at_call 15; (with_reducible refine (tandemlaw3_has.calls x7_1 1 t114 _ A18.out).mono ?_); rintro e w' ⟨rfl, ⟨nd, rfl⟩⟩) | (go_at_call 15; (with_reducible refine (tandemlaw3_has.calls x7_1 64 t115 _ A20.out).mono ?_); rintro e w' ⟨rfl, ⟨nd, rfl⟩⟩) | (go_at_call 15; (with_reducible refine (tandemlaw3_has.calls x7_1 128 t116 _ A22.out).mono ?_); rintro e w' ⟨rfl, ⟨nd, rfl⟩⟩))
                    go_meet
                    case rel => exact ⟨_, ((t116 != (((IntKind.u64.wrap (a0 + a1)) / 9223372036854775808) == 1))), (by first | rfl | (simp; done) | (simp [*]; done)), H', ⟨by have := HK1.out; have := HJ13.out; first | omega | exact Nat.le_refl _⟩, by repeat (first | exact Drawn0.refl _ | apply Drawn0.step)⟩
              · rw [if_neg c17] at H
                have c17b0 : (x8_1 == (IntKind.u64.wrap (a0 + a1))) = false := beq_eq_false_iff_ne.mpr c17
                have c17b1 : (x8_1 != (IntKind.u64.wrap (a0 + a1))) = true := bne_iff_ne.mpr c17
                (first | rw [c17b0] | (simp only [i64_w, i32_w]; rw [c17b0]) | skip)
                have H' := Aside0.mk H
                clear H
                go_wp2
                go_meet
                case rel => exact ⟨_, (true), (by first | rfl | (simp; done) | (simp [*]; done)), H', ⟨by have := HK1.out; have := HJ13.out; first | omega | exact Nat.le_refl _⟩, by repeat (first | exact Drawn0.refl _ | apply Drawn0.step)⟩
            case rest =>
              clear HC16
              try clear c1
              try clear c2
              try clear p2
              try clear c5
              try clear c5b0
              try clear p6
              try clear c7
              try clear c7b0
              try clear c7b1
              try clear c8
              try clear c9
              try clear c9b0
              try clear c12
              try clear c12b0
              try clear c13
              try clear c15
              try clear c15b0
              try clear c15b1
              try clear c17
              try clear c17b0
              try clear c17b1
              try clear c18
              try clear c19
              try clear c19b0
              try clear c19b1
              try clear c19b2
              try clear c21
              try clear c21b0
              try clear c21b1
              try clear c21b2
              try clear c22
              try clear p2
              try clear p6
              obtain ⟨kq, x82_15, rfl, HA, HJ15, ⟨mc15, rfl⟩⟩ := hcut
              cases kq with
              | zero => exact absurd HA.out (by simp [tandemlaw3_AluLongSums.j2])
              | succ kj15 =>
                have H := HA.out
                clear HA
                simp only [tandemlaw3_AluLongSums.j2] at H
                by_cases c23 : x82_15 = true
                · subst c23
                  have H1 : (some false) = some r := by rw [if_pos rfl] at H; exact H
                  clear H
                  have H := H1
                  clear H1
                  obtain rfl := Option.some.inj H
                  go_wp2
                  go_ret
                  exact ⟨by first | rfl | (simp; done) | (simp [*]; done), by repeat (first | exact Drawn0.refl _ | apply Drawn0.step)⟩
                · replace c23 := Bool.eq_false_iff.mpr c23
                  subst c23
                  have H1 : ((tandemlaw3_with.f a2 false true).bind fun t117 => (tandemlaw3_AluLongSums.l1 kj15 (Int.tmod a0 10000000000000000) (Int.tmod a1 10000000000000000) t117 (IntKind.u64.wrap ((Int.tmod a0 10000000000000000) + (Int.tmod a1 10000000000000000))) 0)) = some r := by rw [if_neg (show ¬ (false = true) by decide)] at H; exact H
                  clear H
                  have H := H1
                  clear H1
                  replace H := Option.bind_eq_some_iff.mp H
                  obtain ⟨t117, A240, H⟩ := H
                  replace H : (tandemlaw3_AluLongSums.l1 kj15 (Int.tmod a0 10000000000000000) (Int.tmod a1 10000000000000000) t117 (IntKind.u64.wrap ((Int.tmod a0 10000000000000000) + (Int.tmod a1 10000000000000000))) 0) = some r := H
                  have A24 := Aside0.mk A240
                  clear A240
                  have H' := Aside0.mk H
                  clear H
                  go_wp2_with (first | ((with_reducible refine gate_callee (f := 18) rfl ?_); refine goesL_ (some 91) rfl rfl Try.func18 (by kernel_rfl) rfl #[.int .u8 a2, .bool false, .bool true] rfl (by (try simp only [List.map_toArray, List.map_cons, List.map_nil]); first | done | rfl | (simp only [List.length_drop, List.length_take]; rfl)) ?_; (with_reducible refine (tandemlaw3_with.calls a2 false true t117 _ A24.out).mono ?_); rintro e w' ⟨rfl, ⟨nd, rfl⟩⟩; refine ⟨_, rfl, ?_⟩))
                  go_loopg [0, 1, 7, 11, 13] kj15 (fun kq v0 v1 v7 v11 v13 w' => ∃ (x0_4 : Int) (x1_4 : Int) (x7_4 : Int) (x11_4 : Int) (x13_4 : Int), v0 = .int .u64 x0_4 ∧ v1 = .int .u64 x1_4 ∧ v7 = .int .u8 x7_4 ∧ v11 = .int .u64 x11_4 ∧ v13 = .int .i64 x13_4 ∧ Aside0 (tandemlaw3_AluLongSums.l1 kq x0_4 x1_4 x7_4 x11_4 x13_4 = some r) ∧ Aside0 (kq ≤ kj15) ∧ Drawn0 w w')
                  case atStart => exact ⟨(Int.tmod a0 10000000000000000), (Int.tmod a1 10000000000000000), (t117), (IntKind.u64.wrap ((Int.tmod a0 10000000000000000) + (Int.tmod a1 10000000000000000))), (0), (by first | rfl | (simp; done) | (simp [*]; done)), (by first | rfl | (simp; done) | (simp [*]; done)), (by first | rfl | (simp; done) | (simp [*]; done)), (by first | rfl | (simp; done) | (simp [*]; done)), (by first | rfl | (simp; done) | (simp [*]; done)), H', ⟨Nat.le_refl _⟩, by repeat (first | exact Drawn0.refl _ | apply Drawn0.step)⟩
                  case round =>
                    clear H'
                    try clear c1
                    try clear c2
                    try clear p2
                    try clear c5
                    try clear c5b0
                    try clear p6
                    try clear c7
                    try clear c7b0
                    try clear c7b1
                    try clear c8
                    try clear c9
                    try clear c9b0
                    try clear c12
                    try clear c12b0
                    try clear c13
                    try clear c15
                    try clear c15b0
                    try clear c15b1
                    try clear c17
                    try clear c17b0
                    try clear c17b1
                    try clear c18
                    try clear c19
                    try clear c19b0
                    try clear c19b1
                    try clear c19b2
                    try clear c21
                    try clear c21b0
                    try clear c21b1
                    try clear c21b2
                    try clear c22
                    try clear c23
                    try clear p2
                    try clear p6
                    obtain ⟨x0_4, x1_4, x7_4, x11_4, x13_4, rfl, rfl, rfl, rfl, rfl, HA, HK4, ⟨m4, rfl⟩⟩ := hrel
                    cases gk with
                    | zero => exact absurd HA.out (by simp [tandemlaw3_AluLongSums.l1])
                    | succ k4 =>
                      have H := HA.out
                      clear HA
                      simp only [tandemlaw3_AluLongSums.l1] at H
                      by_cases c25 : x13_4 < 8
                      · rw [if_pos c25] at H
                        have c25b0 : decide (x13_4 < 8) = true := decide_eq_true c25
                        clear c25
                        replace H := Option.bind_eq_some_iff.mp H
                        obtain ⟨t119, A260, H⟩ := H
                        replace H : ((tandemlaw3_digits.f (wrap64 (Int.tmod x1_4 100))).bind fun t120 => ((alu_Adc.f k4 t119 t120 x7_4).bind fun bt121 => ((tandemlaw3_digits.f (wrap64 (Int.tmod x11_4 100))).bind fun t123 => (if bt121.1 = t123 then (tandemlaw3_AluLongSums.l1 k4 (IntKind.u64.wrap (Int.tdiv x0_4 100)) (IntKind.u64.wrap (Int.tdiv x1_4 100)) bt121.2 (IntKind.u64.wrap (Int.tdiv x11_4 100)) (wrap64 (x13_4 + 1))) else (some false))))) = some r := H
                        have A26 := Aside0.mk A260
                        clear A260
                        replace H := Option.bind_eq_some_iff.mp H
                        obtain ⟨t120, A270, H⟩ := H
                        replace H : ((alu_Adc.f k4 t119 t120 x7_4).bind fun bt121 => ((tandemlaw3_digits.f (wrap64 (Int.tmod x11_4 100))).bind fun t123 => (if bt121.1 = t123 then (tandemlaw3_AluLongSums.l1 k4 (IntKind.u64.wrap (Int.tdiv x0_4 100)) (IntKind.u64.wrap (Int.tdiv x1_4 100)) bt121.2 (IntKind.u64.wrap (Int.tdiv x11_4 100)) (wrap64 (x13_4 + 1))) else (some false)))) = some r := H
                        have A27 := Aside0.mk A270
                        clear A270
                        replace H := Option.bind_eq_some_iff.mp H
                        obtain ⟨⟨t121, t122⟩, A280, H⟩ := H
                        replace H : ((tandemlaw3_digits.f (wrap64 (Int.tmod x11_4 100))).bind fun t123 => (if t121 = t123 then (tandemlaw3_AluLongSums.l1 k4 (IntKind.u64.wrap (Int.tdiv x0_4 100)) (IntKind.u64.wrap (Int.tdiv x1_4 100)) t122 (IntKind.u64.wrap (Int.tdiv x11_4 100)) (wrap64 (x13_4 + 1))) else (some false))) = some r := H
                        have A28 := Aside0.mk A280
                        clear A280
                        replace H := Option.bind_eq_some_iff.mp H
                        obtain ⟨t123, A290, H⟩ := H
                        replace H : (if t121 = t123 then (tandemlaw3_AluLongSums.l1 k4 (IntKind.u64.wrap (Int.tdiv x0_4 100)) (IntKind.u64.wrap (Int.tdiv x1_4 100)) t122 (IntKind.u64.wrap (Int.tdiv x11_4 100)) (wrap64 (x13_4 + 1))) else (some false)) = some r := H
                        have A29 := Aside0.mk A290
                        clear A290
                        by_cases c30 : t121 = t123
                        · rw [if_pos c30] at H
                          have c30b0 : (t121 == t123) = true := beq_iff_eq.mpr c30
                          have c30b1 : (t121 != t123) = false := bne_eq_false_iff_eq.mpr c30
                          clear c30
                          have H' := Aside0.mk H
                          clear H
                          go_wp2_with (first | ((with_reducible refine gate_callee (f := 17) rfl ?_); refine goesL_ (some 100) rfl rfl Try.func17 (by kernel_rfl) rfl #[.int .i64 (wrap64 (Int.tmod x0_4 100))] rfl (by (try simp only [List.map_toArray, List.map_cons, List.map_nil]); first | done | rfl | (simp only [List.length_drop, List.length_take]; rfl)) ?_; (with_reducible refine (tandemlaw3_digits.calls (wrap64 (Int.tmod x0_4 100)) t119 _ A26.out).mono ?_); rintro e w' ⟨rfl, ⟨nd, rfl⟩⟩; refine ⟨_, rfl, ?_⟩) | ((with_reducible refine gate_callee (f := 17) rfl ?_); refine goesL_ (some 104) rfl rfl Try.func17 (by kernel_rfl) rfl #[.int .i64 (wrap64 (Int.tmod x1_4 100))] rfl (by (try simp only [List.map_toArray, List.map_cons, List.map_nil]); first | done | rfl | (simp only [List.length_drop, List.length_take]; rfl)) ?_; (with_reducible refine (tandemlaw3_digits.calls (wrap64 (Int.tmod x1_4 100)) t120 _ A27.out).mono ?_); rintro e w' ⟨rfl, ⟨nd, rfl⟩⟩; refine ⟨_, rfl, ?_⟩) | ((with_reducible refine gate_callee (f := 22) rfl ?_); refine goesL_ (some 106) rfl rfl Try.func22 (by kernel_rfl) rfl #[.int .u8 t119, .int .u8 t120, .int .u8 x7_4] rfl (by (try simp only [List.map_toArray, List.map_cons, List.map_nil]); first | done | rfl | (simp only [List.length_drop, List.length_take]; rfl)) ?_; (with_reducible refine (alu_Adc.calls k4 t119 t120 x7_4 t121 t122 _ A28.out).mono ?_); rintro e w' ⟨rfl, ⟨nd, rfl⟩⟩; refine ⟨_, rfl, ?_⟩) | ((with_reducible refine gate_callee (f := 17) rfl ?_); refine goesL_ (some 113) rfl rfl Try.func17 (by kernel_rfl) rfl #[.int .i64 (wrap64 (Int.tmod x11_4 100))] rfl (by (try simp only [List.map_toArray, List.map_cons, List.map_nil]); first | done | rfl | (simp only [List.length_drop, List.length_take]; rfl)) ?_; (with_reducible refine (tandemlaw3_digits.calls (wrap64 (Int.tmod x11_4 100)) t123 _ A29.out).mono ?_); rintro e w' ⟨rfl, ⟨nd, rfl⟩⟩; refine ⟨_, rfl, ?_⟩))
                          go_roundg k4
                          case measure => have := HK1.out; have := HJ13.out; have := HJ15.out; have := HK4.out; omega
                          case rel => exact ⟨(IntKind.u64.wrap (Int.tdiv x0_4 100)), (IntKind.u64.wrap (Int.tdiv x1_4 100)), (t122), (IntKind.u64.wrap (Int.tdiv x11_4 100)), (wrap64 (x13_4 + 1)), (by first | rfl | (simp; done) | (simp [*]; done)), (by first | rfl | (simp; done) | (simp [*]; done)), (by first | rfl | (simp; done) | (simp [*]; done)), (by first | rfl | (simp; done) | (simp [*]; done)), (by first | rfl | (simp; done) | (simp [*]; done)), H', ⟨by have := HK1.out; have := HJ13.out; have := HJ15.out; have := HK4.out; omega⟩, by repeat (first | exact Drawn0.refl _ | apply Drawn0.step)⟩
                        · rw [if_neg c30] at H
                          have c30b0 : (t121 == t123) = false := beq_eq_false_iff_ne.mpr c30
                          have c30b1 : (t121 != t123) = true := bne_iff_ne.mpr c30
                          obtain rfl := Option.some.inj H
                          go_wp2_with (first | ((with_reducible refine gate_callee (f := 17) rfl ?_); refine goesL_ (some 100) rfl rfl Try.func17 (by kernel_rfl) rfl #[.int .i64 (wrap64 (Int.tmod x0_4 100))] rfl (by (try simp only [List.map_toArray, List.map_cons, List.map_nil]); first | done | rfl | (simp only [List.length_drop, List.length_take]; rfl)) ?_; (with_reducible refine (tandemlaw3_digits.calls (wrap64 (Int.tmod x0_4 100)) t119 _ A26.out).mono ?_); rintro e w' ⟨rfl, ⟨nd, rfl⟩⟩; refine ⟨_, rfl, ?_⟩) | ((with_reducible refine gate_callee (f := 17) rfl ?_); refine goesL_ (some 104) rfl rfl Try.func17 (by kernel_rfl) rfl #[.int .i64 (wrap64 (Int.tmod x1_4 100))] rfl (by (try simp only [List.map_toArray, List.map_cons, List.map_nil]); first | done | rfl | (simp only [List.length_drop, List.length_take]; rfl)) ?_; (with_reducible refine (tandemlaw3_digits.calls (wrap64 (Int.tmod x1_4 100)) t120 _ A27.out).mono ?_); rintro e w' ⟨rfl, ⟨nd, rfl⟩⟩; refine ⟨_, rfl, ?_⟩) | ((with_reducible refine gate_callee (f := 22) rfl ?_); refine goesL_ (some 106) rfl rfl Try.func22 (by kernel_rfl) rfl #[.int .u8 t119, .int .u8 t120, .int .u8 x7_4] rfl (by (try simp only [List.map_toArray, List.map_cons, List.map_nil]); first | done | rfl | (simp only [List.length_drop, List.length_take]; rfl)) ?_; (with_reducible refine (alu_Adc.calls k4 t119 t120 x7_4 t121 t122 _ A28.out).mono ?_); rintro e w' ⟨rfl, ⟨nd, rfl⟩⟩; refine ⟨_, rfl, ?_⟩) | ((with_reducible refine gate_callee (f := 17) rfl ?_); refine goesL_ (some 113) rfl rfl Try.func17 (by kernel_rfl) rfl #[.int .i64 (wrap64 (Int.tmod x11_4 100))] rfl (by (try simp only [List.map_toArray, List.map_cons, List.map_nil]); first | done | rfl | (simp only [List.length_drop, List.length_take]; rfl)) ?_; (with_reducible refine (tandemlaw3_digits.calls (wrap64 (Int.tmod x11_4 100)) t123 _ A29.out).mono ?_); rintro e w' ⟨rfl, ⟨nd, rfl⟩⟩; refine ⟨_, rfl, ?_⟩))
                          go_ret
                          exact ⟨by first | rfl | (simp; done) | (simp [*]; done), by repeat (first | exact Drawn0.refl _ | apply Drawn0.step)⟩
                      · rw [if_neg c25] at H
                        have c25b0 : decide (x13_4 < 8) = false := decide_eq_false c25
                        clear c25
                        replace H := Option.bind_eq_some_iff.mp H
                        obtain ⟨t118, A310, H⟩ := H
                        replace H : (some (t118 == (decide (x11_4 > 0)))) = some r := H
                        have A31 := Aside0.mk A310
                        clear A310
                        obtain rfl := Option.some.inj H
                        go_wp2_with (first | ((with_reducible refine gate_callee (f := 15) rfl ?_); refine goesL_ (some 122) rfl rfl Try.func15 (by kernel_rfl) rfl #[.int .u8 x7_4, .int .u8 1] rfl (by (try simp only [List.map_toArray, List.map_cons, List.map_nil]); first | done | rfl | (simp only [List.length_drop, List.length_take]; rfl)) ?_; (with_reducible refine (tandemlaw3_has.calls x7_4 1 t118 _ A31.out).mono ?_); rintro e w' ⟨rfl, ⟨nd, rfl⟩⟩; refine ⟨_, rfl, ?_⟩))
                        go_ret
                        exact ⟨by first | rfl | (simp; done) | (simp [*]; done), by repeat (first | exact Drawn0.refl _ | apply Drawn0.step)⟩

/-- THE ONE PURE STATEMENT of tandemlaw3_AluLongSums: yours. -/
def tandemlaw3_AluLongSums.Pure : Prop := ∀ (a0 : Int) (a1 : Int) (a2 : Int), (Lit.int .u64 a0).wf = true → (Lit.int .u64 a1).wf = true → (Lit.int .u8 a2).wf = true → ∃ k, tandemlaw3_AluLongSums.f k a0 a1 a2 = some true
theorem tandemlaw3_AluLongSums.walk (P : tandemlaw3_AluLongSums.Pure) (a0 : Int) (a1 : Int) (a2 : Int) (w : World) (w0 : (Lit.int .u64 a0).wf = true) (w1 : (Lit.int .u64 a1).wf = true) (w2 : (Lit.int .u8 a2).wf = true) :
    Calls Try.prog 8 #[.int .u64 a0, .int .u64 a1, .int .u8 a2] w fun e w' => e = .returned (.bool true) ∧ Below w.heap.size w w' := by
  obtain ⟨k, h⟩ := P a0 a1 a2 w0 w1 w2
  refine (tandemlaw3_AluLongSums.calls k a0 a1 a2 true w h).mono ?_
  rintro e w' ⟨rfl, hd⟩
  exact ⟨rfl, hd.below⟩

end Go.Proofs.Ytajffjhfecckbaa.PAluLongSums
