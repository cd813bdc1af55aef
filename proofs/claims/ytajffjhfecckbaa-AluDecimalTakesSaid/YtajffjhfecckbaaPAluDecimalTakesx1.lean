-- PRINTED BY print.sh 35421559b90ae4d0a3588c463048766b98c2df88dd9212a6774a882060cdf62d: not written by this session
import Derived.Test.YtajffjhfecckbaaPAluDecimalTakesx0
namespace Go.Proofs.Ytajffjhfecckbaa.PAluDecimalTakes
open Go.RowKit Go.Proofs.YtajffjhfecckbaaW.PrintWords Go.Proofs.YtajffjhfecckbaaW.PrintLast Go.Proofs.YtajffjhfecckbaaW.PrintMore
attribute [local go_sem] max2_int min2_int max_two min_two max_three min_three max_four min_four   -- for this text's walks alone
set_option linter.unusedVariables false
set_option linter.unusedSimpArgs false

/-! ### tandemlaw3_has: function 15 -/
def tandemlaw3_has.f (a0 : Int) (a1 : Int) : Option (Bool) := some ((Go.bits .and .u8 a0 a1) != 0)
set_option maxHeartbeats 8000000 in
set_option maxRecDepth 100000 in
theorem tandemlaw3_has.calls (a0 : Int) (a1 : Int) (r : Bool) (w : World) (h : tandemlaw3_has.f a0 a1 = some r) :
    Calls Try.prog 15 #[.int .u8 a0, .int .u8 a1] w fun e w' => e = .returned (.bool r) ∧ Drawn0 w w' := by
  have H : (some ((Go.bits .and .u8 a0 a1) != 0)) = some r := h
  clear h
  obtain rfl := Option.some.inj H
  go_enter Try.func15, Try.ntmps15
  go_wp2
  go_ret
  exact ⟨by first | rfl | (simp; done) | (simp [*]; done), by repeat (first | exact Drawn0.refl _ | apply Drawn0.step)⟩

/-! ### alu_Nz: function 25 -/
def alu_Nz.f (a0 : Int) (a1 : Int) : Option (Int) := if a0 = 0 then (some (Go.bits .or .u8 (Go.bits .or .u8 (Go.bits .andNot .u8 a1 130) 2) (Go.bits .and .u8 a0 128))) else (some (Go.bits .or .u8 (Go.bits .andNot .u8 a1 130) (Go.bits .and .u8 a0 128)))
set_option maxHeartbeats 8000000 in
set_option maxRecDepth 100000 in
theorem alu_Nz.calls (a0 : Int) (a1 : Int) (r : Int) (w : World) (h : alu_Nz.f a0 a1 = some r) :
    Calls Try.prog 25 #[.int .u8 a0, .int .u8 a1] w fun e w' => e = .returned (.int .u8 r) ∧ Drawn0 w w' := by
  have H : (if a0 = 0 then (some (Go.bits .or .u8 (Go.bits .or .u8 (Go.bits .andNot .u8 a1 130) 2) (Go.bits .and .u8 a0 128))) else (some (Go.bits .or .u8 (Go.bits .andNot .u8 a1 130) (Go.bits .and .u8 a0 128)))) = some r := h
  clear h
  by_cases c3 : a0 = 0
  · rw [if_pos c3] at H
    have c3b0 : (a0 == 0) = true := beq_iff_eq.mpr c3
    have c3b1 : (a0 != 0) = false := bne_eq_false_iff_eq.mpr c3
    clear c3
    obtain rfl := Option.some.inj H
    go_enter Try.func25, Try.ntmps25
    go_wp2
    go_ret
    exact ⟨by first | rfl | (simp; done) | (simp [*]; done), by repeat (first | exact Drawn0.refl _ | apply Drawn0.step)⟩
  · rw [if_neg c3] at H
    have c3b0 : (a0 == 0) = false := beq_eq_false_iff_ne.mpr c3
    have c3b1 : (a0 != 0) = true := bne_iff_ne.mpr c3
    obtain rfl := Option.some.inj H
    go_enter Try.func25, Try.ntmps25
    go_wp2
    go_ret
    exact ⟨by first | rfl | (simp; done) | (simp [*]; done), by repeat (first | exact Drawn0.refl _ | apply Drawn0.step)⟩

/-! ### alu_put: function 36 -/
def alu_put.f (a0 : Int) (a1 : Int) (a2 : Bool) : Option (Int) := if a2 = true then (some (Go.bits .or .u8 a0 a1)) else (some (Go.bits .andNot .u8 a0 a1))
set_option maxHeartbeats 8000000 in
set_option maxRecDepth 100000 in
theorem alu_put.calls (a0 : Int) (a1 : Int) (a2 : Bool) (r : Int) (w : World) (h : alu_put.f a0 a1 a2 = some r) :
    Calls Try.prog 36 #[.int .u8 a0, .int .u8 a1, .bool a2] w fun e w' => e = .returned (.int .u8 r) ∧ Drawn0 w w' := by
  have H : (if a2 = true then (some (Go.bits .or .u8 a0 a1)) else (some (Go.bits .andNot .u8 a0 a1))) = some r := h
  clear h
  by_cases c4 : a2 = true
  · subst c4
    have H1 : (some (Go.bits .or .u8 a0 a1)) = some r := by rw [if_pos rfl] at H; exact H
    clear H
    have H := H1
    clear H1
    obtain rfl := Option.some.inj H
    go_enter Try.func36, Try.ntmps36
    go_wp2
    go_ret
    exact ⟨by first | rfl | (simp; done) | (simp [*]; done), by repeat (first | exact Drawn0.refl _ | apply Drawn0.step)⟩
  · replace c4 := Bool.eq_false_iff.mpr c4
    subst c4
    have H1 : (some (Go.bits .andNot .u8 a0 a1)) = some r := by rw [if_neg (show ¬ (false = true) by decide)] at H; exact H
    clear H
    have H := H1
    clear H1
    obtain rfl := Option.some.inj H
    go_enter Try.func36, Try.ntmps36
    go_wp2
    go_ret
    exact ⟨by first | rfl | (simp; done) | (simp [*]; done), by repeat (first | exact Drawn0.refl _ | apply Drawn0.step)⟩

/-! ### alu_carry: function 37 -/
def alu_carry.f (a0 : Int) : Option (Int) := some (wrap64 (Go.bits .and .u8 a0 1))
set_option maxHeartbeats 8000000 in
set_option maxRecDepth 100000 in
theorem alu_carry.calls (a0 : Int) (r : Int) (w : World) (h : alu_carry.f a0 = some r) :
    Calls Try.prog 37 #[.int .u8 a0] w fun e w' => e = .returned (.int .i64 r) ∧ Drawn0 w w' := by
  have H : (some (wrap64 (Go.bits .and .u8 a0 1))) = some r := h
  clear h
  obtain rfl := Option.some.inj H
  go_enter Try.func37, Try.ntmps37
  go_wp2
  go_ret
  exact ⟨by first | rfl | (simp; done) | (simp [*]; done), by repeat (first | exact Drawn0.refl _ | apply Drawn0.step)⟩

/-! ### alu_Sbc: function 16 -/
def alu_Sbc.f (a0 : Int) (a1 : Int) (a2 : Int) : Option (Int × Int) := (alu_carry.f a2).bind fun t101 => ((alu_put.f a2 1 (decide ((wrap64 ((wrap64 ((wrap64 (a0)) - (wrap64 (a1)))) - (wrap64 (1 - t101)))) ≥ 0))).bind fun t102 => ((alu_put.f t102 64 ((Go.bits .and .u8 (Go.bits .and .u8 (Go.bits .xor .u8 a0 a1) (Go.bits .xor .u8 a0 ((wrap64 ((wrap64 ((wrap64 (a0)) - (wrap64 (a1)))) - (wrap64 (1 - t101)))) % 256))) 128) != 0)).bind fun t103 => ((alu_Nz.f ((wrap64 ((wrap64 ((wrap64 (a0)) - (wrap64 (a1)))) - (wrap64 (1 - t101)))) % 256) t103).bind fun t104 => (if (Go.bits .and .u8 a2 8) = 0 then (some ((wrap64 ((wrap64 ((wrap64 (a0)) - (wrap64 (a1)))) - (wrap64 (1 - t101)))) % 256, t104)) else (if (wrap64 ((wrap64 ((wrap64 (Go.bits .and .u8 a0 15)) - (wrap64 (Go.bits .and .u8 a1 15)))) - (wrap64 (1 - t101)))) < 0 then (if (wrap64 ((wrap64 ((wrap64 (Go.bits .and .u8 a0 240)) - (wrap64 (Go.bits .and .u8 a1 240)))) + (wrap64 ((Go.bits .and .i64 (wrap64 ((wrap64 ((wrap64 ((wrap64 (Go.bits .and .u8 a0 15)) - (wrap64 (Go.bits .and .u8 a1 15)))) - (wrap64 (1 - t101)))) - 6)) 15) - 16)))) < 0 then (some ((wrap64 ((wrap64 ((wrap64 ((wrap64 (Go.bits .and .u8 a0 240)) - (wrap64 (Go.bits .and .u8 a1 240)))) + (wrap64 ((Go.bits .and .i64 (wrap64 ((wrap64 ((wrap64 ((wrap64 (Go.bits .and .u8 a0 15)) - (wrap64 (Go.bits .and .u8 a1 15)))) - (wrap64 (1 - t101)))) - 6)) 15) - 16)))) - 96)) % 256, t104)) else (some ((wrap64 ((wrap64 ((wrap64 (Go.bits .and .u8 a0 240)) - (wrap64 (Go.bits .and .u8 a1 240)))) + (wrap64 ((Go.bits .and .i64 (wrap64 ((wrap64 ((wrap64 ((wrap64 (Go.bits .and .u8 a0 15)) - (wrap64 (Go.bits .and .u8 a1 15)))) - (wrap64 (1 - t101)))) - 6)) 15) - 16)))) % 256, t104))) else (if (wrap64 ((wrap64 ((wrap64 (Go.bits .and .u8 a0 240)) - (wrap64 (Go.bits .and .u8 a1 240)))) + (wrap64 ((wrap64 ((wrap64 (Go.bits .and .u8 a0 15)) - (wrap64 (Go.bits .and .u8 a1 15)))) - (wrap64 (1 - t101)))))) < 0 then (some ((wrap64 ((wrap64 ((wrap64 ((wrap64 (Go.bits .and .u8 a0 240)) - (wrap64 (Go.bits .and .u8 a1 240)))) + (wrap64 ((wrap64 ((wrap64 (Go.bits .and .u8 a0 15)) - (wrap64 (Go.bits .and .u8 a1 15)))) - (wrap64 (1 - t101)))))) - 96)) % 256, t104)) else (some ((wrap64 ((wrap64 ((wrap64 (Go.bits .and .u8 a0 240)) - (wrap64 (Go.bits .and .u8 a1 240)))) + (wrap64 ((wrap64 ((wrap64 (Go.bits .and .u8 a0 15)) - (wrap64 (Go.bits .and .u8 a1 15)))) - (wrap64 (1 - t101)))))) % 256, t104))))))))
set_option maxHeartbeats 8000000 in
set_option maxRecDepth 100000 in
theorem alu_Sbc.calls (a0 : Int) (a1 : Int) (a2 : Int) (r1 : Int) (r2 : Int) (w : World) (h : alu_Sbc.f a0 a1 a2 = some (r1, r2)) :
    Calls Try.prog 16 #[.int .u8 a0, .int .u8 a1, .int .u8 a2] w fun e w' => e = .returned (.tuple #[.int .u8 r1, .int .u8 r2]) ∧ Drawn0 w w' := by
  have H : ((alu_carry.f a2).bind fun t101 => ((alu_put.f a2 1 (decide ((wrap64 ((wrap64 ((wrap64 (a0)) - (wrap64 (a1)))) - (wrap64 (1 - t101)))) ≥ 0))).bind fun t102 => ((alu_put.f t102 64 ((Go.bits .and .u8 (Go.bits .and .u8 (Go.bits .xor .u8 a0 a1) (Go.bits .xor .u8 a0 ((wrap64 ((wrap64 ((wrap64 (a0)) - (wrap64 (a1)))) - (wrap64 (1 - t101)))) % 256))) 128) != 0)).bind fun t103 => ((alu_Nz.f ((wrap64 ((wrap64 ((wrap64 (a0)) - (wrap64 (a1)))) - (wrap64 (1 - t101)))) % 256) t103).bind fun t104 => (if (Go.bits .and .u8 a2 8) = 0 then (some ((wrap64 ((wrap64 ((wrap64 (a0)) - (wrap64 (a1)))) - (wrap64 (1 - t101)))) % 256, t104)) else (if (wrap64 ((wrap64 ((wrap64 (Go.bits .and .u8 a0 15)) - (wrap64 (Go.bits .and .u8 a1 15)))) - (wrap64 (1 - t101)))) < 0 then (if (wrap64 ((wrap64 ((wrap64 (Go.bits .and .u8 a0 240)) - (wrap64 (Go.bits .and .u8 a1 240)))) + (wrap64 ((Go.bits .and .i64 (wrap64 ((wrap64 ((wrap64 ((wrap64 (Go.bits .and .u8 a0 15)) - (wrap64 (Go.bits .and .u8 a1 15)))) - (wrap64 (1 - t101)))) - 6)) 15) - 16)))) < 0 then (some ((wrap64 ((wrap64 ((wrap64 ((wrap64 (Go.bits .and .u8 a0 240)) - (wrap64 (Go.bits .and .u8 a1 240)))) + (wrap64 ((Go.bits .and .i64 (wrap64 ((wrap64 ((wrap64 ((wrap64 (Go.bits .and .u8 a0 15)) - (wrap64 (Go.bits .and .u8 a1 15)))) - (wrap64 (1 - t101)))) - 6)) 15) - 16)))) - 96)) % 256, t104)) else (some ((wrap64 ((wrap64 ((wrap64 (Go.bits .and .u8 a0 240)) - (wrap64 (Go.bits .and .u8 a1 240)))) + (wrap64 ((Go.bits .and .i64 (wrap64 ((wrap64 ((wrap64 ((wrap64 (Go.bits .and .u8 a0 15)) - (wrap64 (Go.bits .and .u8 a1 15)))) - (wrap64 (1 - t101)))) - 6)) 15) - 16)))) % 256, t104))) else (if (wrap64 ((wrap64 ((wrap64 (Go.bits .and .u8 a0 240)) - (wrap64 (Go.bits .and .u8 a1 240)))) + (wrap64 ((wrap64 ((wrap64 (Go.bits .and .u8 a0 15)) - (wrap64 (Go.bits .and .u8 a1 15)))) - (wrap64 (1 - t101)))))) < 0 then (some ((wrap64 ((wrap64 ((wrap64 ((wrap64 (Go.bits .and .u8 a0 240)) - (wrap64 (Go.bits .and .u8 a1 240)))) + (wrap64 ((wrap64 ((wrap64 (Go.bits .and .u8 a0 15)) - (wrap64 (Go.bits .and .u8 a1 15)))) - (wrap64 (1 - t101)))))) - 96)) % 256, t104)) else (some ((wrap64 ((wrap64 ((wrap64 (Go.bits .and .u8 a0 240)) - (wrap64 (Go.bits .and .u8 a1 240)))) + (wrap64 ((wrap64 ((wrap64 (Go.bits .and .u8 a0 15)) - (wrap64 (Go.bits .and .u8 a1 15)))) - (wrap64 (1 - t101)))))) % 256, t104))))))))) = some (r1, r2) := h
  clear h
  replace H := Option.bind_eq_some_iff.mp H
  obtain ⟨t101, A40, H⟩ := H
  replace H : ((alu_put.f a2 1 (decide ((wrap64 ((wrap64 ((wrap64 (a0)) - (wrap64 (a1)))) - (wrap64 (1 - t101)))) ≥ 0))).bind fun t102 => ((alu_put.f t102 64 ((Go.bits .and .u8 (Go.bits .and .u8 (Go.bits .xor .u8 a0 a1) (Go.bits .xor .u8 a0 ((wrap64 ((wrap64 ((wrap64 (a0)) - (wrap64 (a1)))) - (wrap64 (1 - t101)))) % 256))) 128) != 0)).bind fun t103 => ((alu_Nz.f ((wrap64 ((wrap64 ((wrap64 (a0)) - (wrap64 (a1)))) - (wrap64 (1 - t101)))) % 256) t103).bind fun t104 => (if (Go.bits .and .u8 a2 8) = 0 then (some ((wrap64 ((wrap64 ((wrap64 (a0)) - (wrap64 (a1)))) - (wrap64 (1 - t101)))) % 256, t104)) else (if (wrap64 ((wrap64 ((wrap64 (Go.bits .and .u8 a0 15)) - (wrap64 (Go.bits .and .u8 a1 15)))) - (wrap64 (1 - t101)))) < 0 then (if (wrap64 ((wrap64 ((wrap64 (Go.bits .and .u8 a0 240)) - (wrap64 (Go.bits .and .u8 a1 240)))) + (wrap64 ((Go.bits .and .i64 (wrap64 ((wrap64 ((wrap64 ((wrap64 (Go.bits .and .u8 a0 15)) - (wrap64 (Go.bits .and .u8 a1 15)))) - (wrap64 (1 - t101)))) - 6)) 15) - 16)))) < 0 then (some ((wrap64 ((wrap64 ((wrap64 ((wrap64 (Go.bits .and .u8 a0 240)) - (wrap64 (Go.bits .and .u8 a1 240)))) + (wrap64 ((Go.bits .and .i64 (wrap64 ((wrap64 ((wrap64 ((wrap64 (Go.bits .and .u8 a0 15)) - (wrap64 (Go.bits .and .u8 a1 15)))) - (wrap64 (1 - t101)))) - 6)) 15) - 16)))) - 96)) % 256, t104)) else (some ((wrap64 ((wrap64 ((wrap64 (Go.bits .and .u8 a0 240)) - (wrap64 (Go.bits .and .u8 a1 240)))) + (wrap64 ((Go.bits .and .i64 (wrap64 ((wrap64 ((wrap64 ((wrap64 (Go.bits .and .u8 a0 15)) - (wrap64 (Go.bits .and .u8 a1 15)))) - (wrap64 (1 - t101)))) - 6)) 15) - 16)))) % 256, t104))) else (if (wrap64 ((wrap64 ((wrap64 (Go.bits .and .u8 a0 240)) - (wrap64 (Go.bits .and .u8 a1 240)))) + (wrap64 ((wrap64 ((wrap64 (Go.bits .and .u8 a0 15)) - (wrap64 (Go.bits .and .u8 a1 15)))) - (wrap64 (1 - t101)))))) < 0 then (some ((wrap64 ((wrap64 ((wrap64 ((wrap64 (Go.bits .and .u8 a0 240)) - (wrap64 (Go.bits .and .u8 a1 240)))) + (wrap64 ((wrap64 ((wrap64 (Go.bits .and .u8 a0 15)) - (wrap64 (Go.bits .and .u8 a1 15)))) - (wrap64 (1 - t101)))))) - 96)) % 256, t104)) else (some ((wrap64 ((wrap64 ((wrap64 (Go.bits .and .u8 a0 240)) - (wrap64 (Go.bits .and .u8 a1 240)))) + (wrap64 ((wrap64 ((wrap64 (Go.bits .and .u8 a0 15)) - (wrap64 (Go.bits .and .u8 a1 15)))) - (wrap64 (1 - t101)))))) % 256, t104)))))))) = some (r1, r2) := H
  have A4 := Aside0.mk A40
  clear A40
  replace H := Option.bind_eq_some_iff.mp H
  obtain ⟨t102, A50, H⟩ := H
  replace H : ((alu_put.f t102 64 ((Go.bits .and .u8 (Go.bits .and .u8 (Go.bits .xor .u8 a0 a1) (Go.bits .xor .u8 a0 ((wrap64 ((wrap64 ((wrap64 (a0)) - (wrap64 (a1)))) - (wrap64 (1 - t101)))) % 256))) 128) != 0)).bind fun t103 => ((alu_Nz.f ((wrap64 ((wrap64 ((wrap64 (a0)) - (wrap64 (a1)))) - (wrap64 (1 - t101)))) % 256) t103).bind fun t104 => (if (Go.bits .and .u8 a2 8) = 0 then (some ((wrap64 ((wrap64 ((wrap64 (a0)) - (wrap64 (a1)))) - (wrap64 (1 - t101)))) % 256, t104)) else (if (wrap64 ((wrap64 ((wrap64 (Go.bits .and .u8 a0 15)) - (wrap64 (Go.bits .and .u8 a1 15)))) - (wrap64 (1 - t101)))) < 0 then (if (wrap64 ((wrap64 ((wrap64 (Go.bits .and .u8 a0 240)) - (wrap64 (Go.bits .and .u8 a1 240)))) + (wrap64 ((Go.bits .and .i64 (wrap64 ((wrap64 ((wrap64 ((wrap64 (Go.bits .and .u8 a0 15)) - (wrap64 (Go.bits .and .u8 a1 15)))) - (wrap64 (1 - t101)))) - 6)) 15) - 16)))) < 0 then (some ((wrap64 ((wrap64 ((wrap64 ((wrap64 (Go.bits .and .u8 a0 240)) - (wrap64 (Go.bits .and .u8 a1 240)))) + (wrap64 ((Go.bits .and .i64 (wrap64 ((wrap64 ((wrap64 ((wrap64 (Go.bits .and .u8 a0 15)) - (wrap64 (Go.bits .and .u8 a1 15)))) - (wrap64 (1 - t101)))) - 6)) 15) - 16)))) - 96)) % 256, t104)) else (some ((wrap64 ((wrap64 ((wrap64 (Go.bits .and .u8 a0 240)) - (wrap64 (Go.bits .and .u8 a1 240)))) + (wrap64 ((Go.bits .and .i64 (wrap64 ((wrap64 ((wrap64 ((wrap64 (Go.bits .and .u8 a0 15)) - (wrap64 (Go.bits .and .u8 a1 15)))) - (wrap64 (1 - t101)))) - 6)) 15) - 16)))) % 256, t104))) else (if (wrap64 ((wrap64 ((wrap64 (Go.bits .and .u8 a0 240)) - (wrap64 (Go.bits .and .u8 a1 240)))) + (wrap64 ((wrap64 ((wrap64 (Go.bits .and .u8 a0 15)) - (wrap64 (Go.bits .and .u8 a1 15)))) - (wrap64 (1 - t101)))))) < 0 then (some ((wrap64 ((wrap64 ((wrap64 ((wrap64 (Go.bits .and .u8 a0 240)) - (wrap64 (Go.bits .and .u8 a1 240)))) + (wrap64 ((wrap64 ((wrap64 (Go.bits .and .u8 a0 15)) - (wrap64 (Go.bits .and .u8 a1 15)))) - (wrap64 (1 - t101)))))) - 96)) % 256, t104)) else (some ((wrap64 ((wrap64 ((wrap64 (Go.bits .and .u8 a0 240)) - (wrap64 (Go.bits .and .u8 a1 240)))) + (wrap64 ((wrap64 ((wrap64 (Go.bits .and .u8 a0 15)) - (wrap64 (Go.bits .and .u8 a1 15)))) - (wrap64 (1 - t101)))))) % 256, t104))))))) = some (r1, r2) := H
  have A5 := Aside0.mk A50
  clear A50
  replace H := Option.bind_eq_some_iff.mp H
  obtain ⟨t103, A60, H⟩ := H
  replace H : ((alu_Nz.f ((wrap64 ((wrap64 ((wrap64 (a0)) - (wrap64 (a1)))) - (wrap64 (1 - t101)))) % 256) t103).bind fun t104 => (if (Go.bits .and .u8 a2 8) = 0 then (some ((wrap64 ((wrap64 ((wrap64 (a0)) - (wrap64 (a1)))) - (wrap64 (1 - t101)))) % 256, t104)) else (if (wrap64 ((wrap64 ((wrap64 (Go.bits .and .u8 a0 15)) - (wrap64 (Go.bits .and .u8 a1 15)))) - (wrap64 (1 - t101)))) < 0 then (if (wrap64 ((wrap64 ((wrap64 (Go.bits .and .u8 a0 240)) - (wrap64 (Go.bits .and .u8 a1 240)))) + (wrap64 ((Go.bits .and .i64 (wrap64 ((wrap64 ((wrap64 ((wrap64 (Go.bits .and .u8 a0 15)) - (wrap64 (Go.bits .and .u8 a1 15)))) - (wrap64 (1 - t101)))) - 6)) 15) - 16)))) < 0 then (some ((wrap64 ((wrap64 ((wrap64 ((wrap64 (Go.bits .and .u8 a0 240)) - (wrap64 (Go.bits .and .u8 a1 240)))) + (wrap64 ((Go.bits .and .i64 (wrap64 ((wrap64 ((wrap64 ((wrap64 (Go.bits .and .u8 a0 15)) - (wrap64 (Go.bits .and .u8 a1 15)))) - (wrap64 (1 - t101)))) - 6)) 15) - 16)))) - 96)) % 256, t104)) else (some ((wrap64 ((wrap64 ((wrap64 (Go.bits .and .u8 a0 240)) - (wrap64 (Go.bits .and .u8 a1 240)))) + (wrap64 ((Go.bits .and .i64 (wrap64 ((wrap64 ((wrap64 ((wrap64 (Go.bits .and .u8 a0 15)) - (wrap64 (Go.bits .and .u8 a1 15)))) - (wrap64 (1 - t101)))) - 6)) 15) - 16)))) % 256, t104))) else (if (wrap64 ((wrap64 ((wrap64 (Go.bits .and .u8 a0 240)) - (wrap64 (Go.bits .and .u8 a1 240)))) + (wrap64 ((wrap64 ((wrap64 (Go.bits .and .u8 a0 15)) - (wrap64 (Go.bits .and .u8 a1 15)))) - (wrap64 (1 - t101)))))) < 0 then (some ((wrap64 ((wrap64 ((wrap64 ((wrap64 (Go.bits .and .u8 a0 240)) - (wrap64 (Go.bits .and .u8 a1 240)))) + (wrap64 ((wrap64 ((wrap64 (Go.bits .and .u8 a0 15)) - (wrap64 (Go.bits .and .u8 a1 15)))) - (wrap64 (1 - t101)))))) - 96)) % 256, t104)) else (some ((wrap64 ((wrap64 ((wrap64 (Go.bits .and .u8 a0 240)) - (wrap64 (Go.bits .and .u8 a1 240)))) + (wrap64 ((wrap64 ((wrap64 (Go.bits .and .u8 a0 15)) - (wrap64 (Go.bits .and .u8 a1 15)))) - (wrap64 (1 - t101)))))) % 256, t104)))))) = some (r1, r2) := H
  have A6 := Aside0.mk A60
  clear A60
  replace H := Option.bind_eq_some_iff.mp H
  obtain ⟨t104, A70, H⟩ := H
  replace H : (if (Go.bits .and .u8 a2 8) = 0 then (some ((wrap64 ((wrap64 ((wrap64 (a0)) - (wrap64 (a1)))) - (wrap64 (1 - t101)))) % 256, t104)) else (if (wrap64 ((wrap64 ((wrap64 (Go.bits .and .u8 a0 15)) - (wrap64 (Go.bits .and .u8 a1 15)))) - (wrap64 (1 - t101)))) < 0 then (if (wrap64 ((wrap64 ((wrap64 (Go.bits .and .u8 a0 240)) - (wrap64 (Go.bits .and .u8 a1 240)))) + (wrap64 ((Go.bits .and .i64 (wrap64 ((wrap64 ((wrap64 ((wrap64 (Go.bits .and .u8 a0 15)) - (wrap64 (Go.bits .and .u8 a1 15)))) - (wrap64 (1 - t101)))) - 6)) 15) - 16)))) < 0 then (some ((wrap64 ((wrap64 ((wrap64 ((wrap64 (Go.bits .and .u8 a0 240)) - (wrap64 (Go.bits .and .u8 a1 240)))) + (wrap64 ((Go.bits .and .i64 (wrap64 ((wrap64 ((wrap64 ((wrap64 (Go.bits .and .u8 a0 15)) - (wrap64 (Go.bits .and .u8 a1 15)))) - (wrap64 (1 - t101)))) - 6)) 15) - 16)))) - 96)) % 256, t104)) else (some ((wrap64 ((wrap64 ((wrap64 (Go.bits .and .u8 a0 240)) - (wrap64 (Go.bits .and .u8 a1 240)))) + (wrap64 ((Go.bits .and .i64 (wrap64 ((wrap64 ((wrap64 ((wrap64 (Go.bits .and .u8 a0 15)) - (wrap64 (Go.bits .and .u8 a1 15)))) - (wrap64 (1 - t101)))) - 6)) 15) - 16)))) % 256, t104))) else (if (wrap64 ((wrap64 ((wrap64 (Go.bits .and .u8 a0 240)) - (wrap64 (Go.bits .and .u8 a1 240)))) + (wrap64 ((wrap64 ((wrap64 (Go.bits .and .u8 a0 15)) - (wrap64 (Go.bits .and .u8 a1 15)))) - (wrap64 (1 - t101)))))) < 0 then (some ((wrap64 ((wrap64 ((wrap64 ((wrap64 (Go.bits .and .u8 a0 240)) - (wrap64 (Go.bits .and .u8 a1 240)))) + (wrap64 ((wrap64 ((wrap64 (Go.bits .and .u8 a0 15)) - (wrap64 (Go.bits .and .u8 a1 15)))) - (wrap64 (1 - t101)))))) - 96)) % 256, t104)) else (some ((wrap64 ((wrap64 ((wrap64 (Go.bits .and .u8 a0 240)) - (wrap64 (Go.bits .and .u8 a1 240)))) + (wrap64 ((wrap64 ((wrap64 (Go.bits .and .u8 a0 15)) - (wrap64 (Go.bits .and .u8 a1 15)))) - (wrap64 (1 - t101)))))) % 256, t104))))) = some (r1, r2) := H
  have A7 := Aside0.mk A70
  clear A70
  by_cases c8 : (Go.bits .and .u8 a2 8) = 0
  · rw [if_pos c8] at H
    have c8b0 : ((Go.bits .and .u8 a2 8) == 0) = true := beq_iff_eq.mpr c8
    have c8b1 : ((Go.bits .and .u8 a2 8) != 0) = false := bne_eq_false_iff_eq.mpr c8
    clear c8
    simp only [Option.some.injEq, Prod.mk.injEq] at H
    obtain ⟨rfl, rfl⟩ := H
    go_enter Try.func16, Try.ntmps16
    go_wp2_with (first | ((with_reducible refine gate_callee (f := 37) rfl ?_); refine goesL_ (some 15) rfl rfl Try.func37 (by kernel_rfl) rfl #[.int .u8 a2] rfl (by (try simp only [List.map_toArray, List.map_cons, List.map_nil]); first | done | rfl | (simp only [List.length_drop, List.length_take]; rfl)) ?_; (with_reducible refine (alu_carry.calls a2 t101 _ A4.out).mono ?_); rintro e w' ⟨rfl, ⟨nd, rfl⟩⟩; refine ⟨_, rfl, ?_⟩) | ((with_reducible refine gate_callee (f := 36) rfl ?_); refine goesL_ (some 29) rfl rfl Try.func36 (by kernel_rfl) rfl #[.int .u8 a2, .int .u8 1, .bool (decide ((wrap64 ((wrap64 ((wrap64 (a0)) - (wrap64 (a1)))) - (wrap64 (1 - t101)))) ≥ 0))] rfl (by (try simp only [List.map_toArray, List.map_cons, List.map_nil]); first | done | rfl | (simp only [List.length_drop, List.length_take]; rfl)) ?_; (with_reducible refine (alu_put.calls a2 1 (decide ((wrap64 ((wrap64 ((wrap64 (a0)) - (wrap64 (a1)))) - (wrap64 (1 - t101)))) ≥ 0)) t102 _ A5.out).mono ?_); rintro e w' ⟨rfl, ⟨nd, rfl⟩⟩; refine ⟨_, rfl, ?_⟩) | ((with_reducible refine gate_callee (f := 36) rfl ?_); refine goesL_ (some 40) rfl rfl Try.func36 (by kernel_rfl) rfl #[.int .u8 t102, .int .u8 64, .bool ((Go.bits .and .u8 (Go.bits .and .u8 (Go.bits .xor .u8 a0 a1) (Go.bits .xor .u8 a0 ((wrap64 ((wrap64 ((wrap64 (a0)) - (wrap64 (a1)))) - (wrap64 (1 - t101)))) % 256))) 128) != 0)] rfl (by (try simp only [List.map_toArray, List.map_cons, List.map_nil]); first | done | rfl | (simp only [List.length_drop, List.length_take]; rfl)) ?_; (with_reducible refine (alu_put.calls t102 64 ((Go.bits .and .u8 (Go.bits .and .u8 (Go.bits .xor .u8 a0 a1) (Go.bits .xor .u8 a0 ((wrap64 ((wrap64 ((wrap64 (a0)) - (wrap64 (a1)))) - (wrap64 (1 - t101)))) % 256))) 128) != 0) t103 _ A6.out).mono ?_); rintro e w' ⟨rfl, ⟨nd, rfl⟩⟩; refine ⟨_, rfl, ?_⟩) | ((with_reducible refine gate_callee (f := 25) rfl ?_); refine goesL_ (some 43) rfl rfl Try.func25 (by kernel_rfl) rfl #[.int .u8 ((wrap64 ((wrap64 ((wrap64 (a0)) - (wrap64 (a1)))) - (wrap64 (1 - t101)))) % 256), .int .u8 t103] rfl (by (try simp only [List.map_toArray, List.map_cons, List.map_nil]); first | done | rfl | (simp only [List.length_drop, List.length_take]; rfl)) ?_; (with_reducible refine (alu_Nz.calls ((wrap64 ((wrap64 ((wrap64 (a0)) - (wrap64 (a1)))) - (wrap64 (1 - t101)))) % 256) t103 t104 _ A7.out).mono ?_); rintro e w' ⟨rfl, ⟨nd, rfl⟩⟩; refine ⟨_, rfl, ?_⟩))
    go_ret2
    exact ⟨by first | rfl | (simp; done) | (simp [*]; done), by repeat (first | exact Drawn0.refl _ | apply Drawn0.step)⟩
  · rw [if_neg c8] at H
    have c8b0 : ((Go.bits .and .u8 a2 8) == 0) = false := beq_eq_false_iff_ne.mpr c8
    have c8b1 : ((Go.bits .and .u8 a2 8) != 0) = true := bne_iff_ne.mpr c8
    by_cases c9 : (wrap64 ((wrap64 ((wrap64 (Go.bits .and .u8 a0 15)) - (wrap64 (Go.bits .and .u8 a1 15)))) - (wrap64 (1 - t101)))) < 0
    · rw [if_pos c9] at H
      have c9b0 : decide ((wrap64 ((wrap64 ((wrap64 (Go.bits .and .u8 a0 15)) - (wrap64 (Go.bits .and .u8 a1 15)))) - (wrap64 (1 - t101)))) < 0) = true := decide_eq_true c9
      clear c9
      by_cases c10 : (wrap64 ((wrap64 ((wrap64 (Go.bits .and .u8 a0 240)) - (wrap64 (Go.bits .and .u8 a1 240)))) + (wrap64 ((Go.bits .and .i64 (wrap64 ((wrap64 ((wrap64 ((wrap64 (Go.bits .and .u8 a0 15)) - (wrap64 (Go.bits .and .u8 a1 15)))) - (wrap64 (1 - t101)))) - 6)) 15) - 16)))) < 0
      · rw [if_pos c10] at H
        have c10b0 : decide ((wrap64 ((wrap64 ((wrap64 (Go.bits .and .u8 a0 240)) - (wrap64 (Go.bits .and .u8 a1 240)))) + (wrap64 ((Go.bits .and .i64 (wrap64 ((wrap64 ((wrap64 ((wrap64 (Go.bits .and .u8 a0 15)) - (wrap64 (Go.bits .and .u8 a1 15)))) - (wrap64 (1 - t101)))) - 6)) 15) - 16)))) < 0) = true := decide_eq_true c10
        clear c10
        simp only [Option.some.injEq, Prod.mk.injEq] at H
        obtain ⟨rfl, rfl⟩ := H
        go_enter Try.func16, Try.ntmps16
        go_wp2_with (first | ((with_reducible refine gate_callee (f := 37) rfl ?_); refine goesL_ (some 15) rfl rfl Try.func37 (by kernel_rfl) rfl #[.int .u8 a2] rfl (by (try simp only [List.map_toArray, List.map_cons, List.map_nil]); first | done | rfl | (simp only [List.length_drop, List.length_take]; rfl)) ?_; (with_reducible refine (alu_carry.calls a2 t101 _ A4.out).mono ?_); rintro e w' ⟨rfl, ⟨nd, rfl⟩⟩; refine ⟨_, rfl, ?_⟩) | ((with_reducible refine gate_callee (f := 36) rfl ?_); refine goesL_ (some 29) rfl rfl Try.func36 (by kernel_rfl) rfl #[.int .u8 a2, .int .u8 1, .bool (decide ((wrap64 ((wrap64 ((wrap64 (a0)) - (wrap64 (a1)))) - (wrap64 (1 - t101)))) ≥ 0))] rfl (by (try simp only [List.map_toArray, List.map_cons, List.map_nil]); first | done | rfl | (simp only [List.length_drop, List.length_take]; rfl)) ?_; (with_reducible refine (alu_put.calls a2 1 (decide ((wrap64 ((wrap64 ((wrap64 (a0)) - (wrap64 (a1)))) - (wrap64 (1 - t101)))) ≥ 0)) t102 _ A5.out).mono ?_); rintro e w' ⟨rfl, ⟨nd, rfl⟩⟩; refine ⟨_, rfl, ?_⟩) | ((with_reducible refine gate_callee (f := 36) rfl ?_); refine goesL_ (some 40) rfl rfl Try.func36 (by kernel_rfl) rfl #[.int .u8 t102, .int .u8 64, .bool ((Go.bits .and .u8 (Go.bits .and .u8 (Go.bits .xor .u8 a0 a1) (Go.bits .xor .u8 a0 ((wrap64 ((wrap64 ((wrap64 (a0)) - (wrap64 (a1)))) - (wrap64 (1 - t101)))) % 256))) 128) != 0)] rfl (by (try simp only [List.map_toArray, List.map_cons, List.map_nil]); first | done | rfl | (simp only [List.length_drop, List.length_take]; rfl)) ?_; (with_reducible refine (alu_put.calls t102 64 ((Go.bits .and .u8 (Go.bits .and .u8 (Go.bits .xor .u8 a0 a1) (Go.bits .xor .u8 a0 ((wrap64 ((wrap64 ((wrap64 (a0)) - (wrap64 (a1)))) - (wrap64 (1 - t101)))) % 256))) 128) != 0) t103 _ A6.out).mono ?_); rintro e w' ⟨rfl, ⟨nd, rfl⟩⟩; refine ⟨_, rfl, ?_⟩) | ((with_reducible refine gate_callee (f := 25) rfl ?_); refine goesL_ (some 43) rfl rfl Try.func25 (by kernel_rfl) rfl #[.int .u8 ((wrap64 ((wrap64 ((wrap64 (a0)) - (wrap64 (a1)))) - (wrap64 (1 - t101)))) % 256), .int .u8 t103] rfl (by (try simp only [List.map_toArray, List.map_cons, List.map_nil]); first | done | rfl | (simp only [List.length_drop, List.length_take]; rfl)) ?_; (with_reducible refine (alu_Nz.calls ((wrap64 ((wrap64 ((wrap64 (a0)) - (wrap64 (a1)))) - (wrap64 (1 - t101)))) % 256) t103 t104 _ A7.out).mono ?_); rintro e w' ⟨rfl, ⟨nd, rfl⟩⟩; refine ⟨_, rfl, ?_⟩))
        go_ret2
        exact ⟨by first | rfl | (simp; done) | (simp [*]; done), by repeat (first | exact Drawn0.refl _ | apply Drawn0.step)⟩
      · rw [if_neg c10] at H
        have c10b0 : decide ((wrap64 ((wrap64 ((wrap64 (Go.bits .and .u8 a0 240)) - (wrap64 (Go.bits .and .u8 a1 240)))) + (wrap64 ((Go.bits .and .i64 (wrap64 ((wrap64 ((wrap64 ((wrap64 (Go.bits .and .u8 a0 15)) - (wrap64 (Go.bits .and .u8 a1 15)))) - (wrap64 (1 - t101)))) - 6)) 15) - 16)))) < 0) = false := decide_eq_false c10
        clear c10
        simp only [Option.some.injEq, Prod.mk.injEq] at H
        obtain ⟨rfl, rfl⟩ := H
        go_enter Try.func16, Try.ntmps16
        go_wp2_with (first | ((with_reducible refine gate_callee (f := 37) rfl ?_); refine goesL_ (some 15) rfl rfl Try.func37 (by kernel_rfl) rfl #[.int .u8 a2] rfl (by (try simp only [List.map_toArray, List.map_cons, List.map_nil]); first | done | rfl | (simp only [List.length_drop, List.length_take]; rfl)) ?_; (with_reducible refine (alu_carry.calls a2 t101 _ A4.out).mono ?_); rintro e w' ⟨rfl, ⟨nd, rfl⟩⟩; refine ⟨_, rfl, ?_⟩) | ((with_reducible refine gate_callee (f := 36) rfl ?_); refine goesL_ (some 29) rfl rfl Try.func36 (by kernel_rfl) rfl #[.int .u8 a2, .int .u8 1, .bool (decide ((wrap64 ((wrap64 ((wrap64 (a0)) - (wrap64 (a1)))) - (wrap64 (1 - t101)))) ≥ 0))] rfl (by (try simp only [List.map_toArray, List.map_cons, List.map_nil]); first | done | rfl | (simp only [List.length_drop, List.length_take]; rfl)) ?_; (with_reducible refine (alu_put.calls a2 1 (decide ((wrap64 ((wrap64 ((wrap64 (a0)) - (wrap64 (a1)))) - (wrap64 (1 - t101)))) ≥ 0)) t102 _ A5.out).mono ?_); rintro e w' ⟨rfl, ⟨nd, rfl⟩⟩; refine ⟨_, rfl, ?_⟩) | ((with_reducible refine gate_callee (f := 36) rfl ?_); refine goesL_ (some 40) rfl rfl Try.func36 (by kernel_rfl) rfl #[.int .u8 t102, .int .u8 64, .bool ((Go.bits .and .u8 (Go.bits .and .u8 (Go.bits .xor .u8 a0 a1) (Go.bits .xor .u8 a0 ((wrap64 ((wrap64 ((wrap64 (a0)) - (wrap64 (a1)))) - (wrap64 (1 - t101)))) % 256))) 128) != 0)] rfl (by (try simp only [List.map_toArray, List.map_cons, List.map_nil]); first | done | rfl | (simp only [List.length_drop, List.length_take]; rfl)) ?_; (with_reducible refine (alu_put.calls t102 64 ((Go.bits .and .u8 (Go.bits .and .u8 (Go.bits .xor .u8 a0 a1) (Go.bits .xor .u8 a0 ((wrap64 ((wrap64 ((wrap64 (a0)) - (wrap64 (a1)))) - (wrap64 (1 - t101)))) % 256))) 128) != 0) t103 _ A6.out).mono ?_); rintro e w' ⟨rfl, ⟨nd, rfl⟩⟩; refine ⟨_, rfl, ?_⟩) | ((with_reducible refine gate_callee (f := 25) rfl ?_); refine goesL_ (some 43) rfl rfl Try.func25 (by kernel_rfl) rfl #[.int .u8 ((wrap64 ((wrap64 ((wrap64 (a0)) - (wrap64 (a1)))) - (wrap64 (1 - t101)))) % 256), .int .u8 t103] rfl (by (try simp only [List.map_toArray, List.map_cons, List.map_nil]); first | done | rfl | (simp only [List.length_drop, List.length_take]; rfl)) ?_; (with_reducible refine (alu_Nz.calls ((wrap64 ((wrap64 ((wrap64 (a0)) - (wrap64 (a1)))) - (wrap64 (1 - t101)))) % 256) t103 t104 _ A7.out).mono ?_); rintro e w' ⟨rfl, ⟨nd, rfl⟩⟩; refine ⟨_, rfl, ?_⟩))
        go_ret2
        exact ⟨by first | rfl | (simp; done) | (simp [*]; done), by repeat (first | exact Drawn0.refl _ | apply Drawn0.step)⟩
    · rw [if_neg c9] at H
      have c9b0 : decide ((wrap64 ((wrap64 ((wrap64 (Go.bits .and .u8 a0 15)) - (wrap64 (Go.bits .and .u8 a1 15)))) - (wrap64 (1 - t101)))) < 0) = false := decide_eq_false c9
      clear c9
      by_cases c11 : (wrap64 ((wrap64 ((wrap64 (Go.bits .and .u8 a0 240)) - (wrap64 (Go.bits .and .u8 a1 240)))) + (wrap64 ((wrap64 ((wrap64 (Go.bits .and .u8 a0 15)) - (wrap64 (Go.bits .and .u8 a1 15)))) - (wrap64 (1 - t101)))))) < 0
      · rw [if_pos c11] at H
        have c11b0 : decide ((wrap64 ((wrap64 ((wrap64 (Go.bits .and .u8 a0 240)) - (wrap64 (Go.bits .and .u8 a1 240)))) + (wrap64 ((wrap64 ((wrap64 (Go.bits .and .u8 a0 15)) - (wrap64 (Go.bits .and .u8 a1 15)))) - (wrap64 (1 - t101)))))) < 0) = true := decide_eq_true c11
        clear c11
        simp only [Option.some.injEq, Prod.mk.injEq] at H
        obtain ⟨rfl, rfl⟩ := H
        go_enter Try.func16, Try.ntmps16
        go_wp2_with (first | ((with_reducible refine gate_callee (f := 37) rfl ?_); refine goesL_ (some 15) rfl rfl Try.func37 (by kernel_rfl) rfl #[.int .u8 a2] rfl (by (try simp only [List.map_toArray, List.map_cons, List.map_nil]); first | done | rfl | (simp only [List.length_drop, List.length_take]; rfl)) ?_; (with_reducible refine (alu_carry.calls a2 t101 _ A4.out).mono ?_); rintro e w' ⟨rfl, ⟨nd, rfl⟩⟩; refine ⟨_, rfl, ?_⟩) | ((with_reducible refine gate_callee (f := 36) rfl ?_); refine goesL_ (some 29) rfl rfl Try.func36 (by kernel_rfl) rfl #[.int .u8 a2, .int .u8 1, .bool (decide ((wrap64 ((wrap64 ((wrap64 (a0)) - (wrap64 (a1)))) - (wrap64 (1 - t101)))) ≥ 0))] rfl (by (try simp only [List.map_toArray, List.map_cons, List.map_nil]); first | done | rfl | (simp only [List.length_drop, List.length_take]; rfl)) ?_; (with_reducible refine (alu_put.calls a2 1 (decide ((wrap64 ((wrap64 ((wrap64 (a0)) - (wrap64 (a1)))) - (wrap64 (1 - t101)))) ≥ 0)) t102 _ A5.out).mono ?_); rintro e w' ⟨rfl, ⟨nd, rfl⟩⟩; refine ⟨_, rfl, ?_⟩) | ((with_reducible refine gate_callee (f := 36) rfl ?_); refine goesL_ (some 40) rfl rfl Try.func36 (by kernel_rfl) rfl #[.int .u8 t102, .int .u8 64, .bool ((Go.bits .and .u8 (Go.bits .and .u8 (Go.bits .xor .u8 a0 a1) (Go.bits .xor .u8 a0 ((wrap64 ((wrap64 ((wrap64 (a0)) - (wrap64 (a1)))) - (wrap64 (1 - t101)))) % 256))) 128) != 0)] rfl (by (try simp only [List.map_toArray, List.map_cons, List.map_nil]); first | done | rfl | (simp only [List.length_drop, List.length_take]; rfl)) ?_; (with_reducible refine (alu_put.calls t102 64 ((Go.bits .and .u8 (Go.bits .and .u8 (Go.bits .xor .u8 a0 a1) (Go.bits .xor .u8 a0 ((wrap64 ((wrap64 ((wrap64 (a0)) - (wrap64 (a1)))) - (wrap64 (1 - t101)))) % 256))) 128) != 0) t103 _ A6.out).mono ?_); rintro e w' ⟨rfl, ⟨nd, rfl⟩⟩; refine ⟨_, rfl, ?_⟩) | ((with_reducible refine gate_callee (f := 25) rfl ?_); refine goesL_ (some 43) rfl rfl Try.func25 (by kernel_rfl) rfl #[.int .u8 ((wrap64 ((wrap64 ((wrap64 (a0)) - (wrap64 (a1)))) - (wrap64 (1 - t101)))) % 256), .int .u8 t103] rfl (by (try simp only [List.map_toArray, List.map_cons, List.map_nil]); first | done | rfl | (simp only [List.length_drop, List.length_take]; rfl)) ?_; (with_reducible refine (alu_Nz.calls ((wrap64 ((wrap64 ((wrap64 (a0)) - (wrap64 (a1)))) - (wrap64 (1 - t101)))) % 256) t103 t104 _ A7.out).mono ?_); rintro e w' ⟨rfl, ⟨nd, rfl⟩⟩; refine ⟨_, rfl, ?_⟩))
        go_ret2
        exact ⟨by first | rfl | (simp; done) | (simp [*]; done), by repeat (first | exact Drawn0.refl _ | apply Drawn0.step)⟩
      · rw [if_neg c11] at H
        have c11b0 : decide ((wrap64 ((wrap64 ((wrap64 (Go.bits .and .u8 a0 240)) - (wrap64 (Go.bits .and .u8 a1 240)))) + (wrap64 ((wrap64 ((wrap64 (Go.bits .and .u8 a0 15)) - (wrap64 (Go.bits .and .u8 a1 15)))) - (wrap64 (1 - t101)))))) < 0) = false := decide_eq_false c11
        clear c11
        simp only [Option.some.injEq, Prod.mk.injEq] at H
        obtain ⟨rfl, rfl⟩ := H
        go_enter Try.func16, Try.ntmps16
        go_wp2_with (first | ((with_reducible refine gate_callee (f := 37) rfl ?_); refine goesL_ (some 15) rfl rfl Try.func37 (by kernel_rfl) rfl #[.int .u8 a2] rfl (by (try simp only [List.map_toArray, List.map_cons, List.map_nil]); first | done | rfl | (simp only [List.length_drop, List.length_take]; rfl)) ?_; (with_reducible refine (alu_carry.calls a2 t101 _ A4.out).mono ?_); rintro e w' ⟨rfl, ⟨nd, rfl⟩⟩; refine ⟨_, rfl, ?_⟩) | ((with_reducible refine gate_callee (f := 36) rfl ?_); refine goesL_ (some 29) rfl rfl Try.func36 (by kernel_rfl) rfl #[.int .u8 a2, .int .u8 1, .bool (decide ((wrap64 ((wrap64 ((wrap64 (a0)) - (wrap64 (a1)))) - (wrap64 (1 - t101)))) ≥ 0))] rfl (by (try simp only [List.map_toArray, List.map_cons, List.map_nil]); first | done | rfl | (simp only [List.length_drop, List.length_take]; rfl)) ?_; (with_reducible refine (alu_put.calls a2 1 (decide ((wrap64 ((wrap64 ((wrap64 (a0)) - (wrap64 (a1)))) - (wrap64 (1 - t101)))) ≥ 0)) t102 _ A5.out).mono ?_); rintro e w' ⟨rfl, ⟨nd, rfl⟩⟩; refine ⟨_, rfl, ?_⟩) | ((with_reducible refine gate_callee (f := 36) rfl ?_); refine goesL_ (some 40) rfl rfl Try.func36 (by kernel_rfl) rfl #[.int .u8 t102, .int .u8 64, .bool ((Go.bits .and .u8 (Go.bits .and .u8 (Go.bits .xor .u8 a0 a1) (Go.bits .xor .u8 a0 ((wrap64 ((wrap64 ((wrap64 (a0)) - (wrap64 (a1)))) - (wrap64 (1 - t101)))) % 256))) 128) != 0)] rfl (by (try simp only [List.map_toArray, List.map_cons, List.map_nil]); first | done | rfl | (simp only [List.length_drop, List.length_take]; rfl)) ?_; (with_reducible refine (alu_put.calls t102 64 ((Go.bits .and .u8 (Go.bits .and .u8 (Go.bits .xor .u8 a0 a1) (Go.bits .xor .u8 a0 ((wrap64 ((wrap64 ((wrap64 (a0)) - (wrap64 (a1)))) - (wrap64 (1 - t101)))) % 256))) 128) != 0) t103 _ A6.out).mono ?_); rintro e w' ⟨rfl, ⟨nd, rfl⟩⟩; refine ⟨_, rfl, ?_⟩) | ((with_reducible refine gate_callee (f := 25) rfl ?_); refine goesL_ (some 43) rfl rfl Try.func25 (by kernel_rfl) rfl #[.int .u8 ((wrap64 ((wrap64 ((wrap64 (a0)) - (wrap64 (a1)))) - (wrap64 (1 - t101)))) % 256), .int .u8 t103] rfl (by (try simp only [List.map_toArray, List.map_cons, List.map_nil]); first | done | rfl | (simp only [List.length_drop, List.length_take]; rfl)) ?_; (with_reducible refine (alu_Nz.calls ((wrap64 ((wrap64 ((wrap64 (a0)) - (wrap64 (a1)))) - (wrap64 (1 - t101)))) % 256) t103 t104 _ A7.out).mono ?_); rintro e w' ⟨rfl, ⟨nd, rfl⟩⟩; refine ⟨_, rfl, ?_⟩))
        go_ret2
        exact ⟨by first | rfl | (simp; done) | (simp [*]; done), by repeat (first | exact Drawn0.refl _ | apply Drawn0.step)⟩

/-! ### tandemlaw3_digits: function 17 -/
def tandemlaw3_digits.f (a0 : Int) : Option (Int) := some ((wrap64 ((wrap64 (16 * (wrap64 (Int.tdiv a0 10)))) + (Int.tmod a0 10))) % 256)
set_option maxHeartbeats 8000000 in
set_option maxRecDepth 100000 in
theorem tandemlaw3_digits.calls (a0 : Int) (r : Int) (w : World) (h : tandemlaw3_digits.f a0 = some r) :
    Calls Try.prog 17 #[.int .i64 a0] w fun e w' => e = .returned (.int .u8 r) ∧ Drawn0 w w' := by
  have H : (some ((wrap64 ((wrap64 (16 * (wrap64 (Int.tdiv a0 10)))) + (Int.tmod a0 10))) % 256)) = some r := h
  clear h
  obtain rfl := Option.some.inj H
  go_enter Try.func17, Try.ntmps17
  go_wp2
  go_ret
  exact ⟨by first | rfl | (simp; done) | (simp [*]; done), by repeat (first | exact Drawn0.refl _ | apply Drawn0.step)⟩

/-! ### tandemlaw3_with: function 18 -/
def tandemlaw3_with.f (a0 : Int) (a1 : Bool) (a2 : Bool) : Option (Int) := if a1 = true then (if a2 = true then (some (Go.bits .or .u8 (Go.bits .or .u8 (Go.bits .andNot .u8 a0 9) 1) 8)) else (some (Go.bits .or .u8 (Go.bits .andNot .u8 a0 9) 1))) else (if a2 = true then (some (Go.bits .or .u8 (Go.bits .andNot .u8 a0 9) 8)) else (some (Go.bits .andNot .u8 a0 9)))
set_option maxHeartbeats 8000000 in
set_option maxRecDepth 100000 in
theorem tandemlaw3_with.calls (a0 : Int) (a1 : Bool) (a2 : Bool) (r : Int) (w : World) (h : tandemlaw3_with.f a0 a1 a2 = some r) :
    Calls Try.prog 18 #[.int .u8 a0, .bool a1, .bool a2] w fun e w' => e = .returned (.int .u8 r) ∧ Drawn0 w w' := by
  have H : (if a1 = true then (if a2 = true then (some (Go.bits .or .u8 (Go.bits .or .u8 (Go.bits .andNot .u8 a0 9) 1) 8)) else (some (Go.bits .or .u8 (Go.bits .andNot .u8 a0 9) 1))) else (if a2 = true then (some (Go.bits .or .u8 (Go.bits .andNot .u8 a0 9) 8)) else (some (Go.bits .andNot .u8 a0 9)))) = some r := h
  clear h
  by_cases c4 : a1 = true
  · subst c4
    have H1 : (if a2 = true then (some (Go.bits .or .u8 (Go.bits .or .u8 (Go.bits .andNot .u8 a0 9) 1) 8)) else (some (Go.bits .or .u8 (Go.bits .andNot .u8 a0 9) 1))) = some r := by rw [if_pos rfl] at H; exact H
    clear H
    have H := H1
    clear H1
    by_cases c5 : a2 = true
    · subst c5
      have H1 : (some (Go.bits .or .u8 (Go.bits .or .u8 (Go.bits .andNot .u8 a0 9) 1) 8)) = some r := by rw [if_pos rfl] at H; exact H
      clear H
      have H := H1
      clear H1
      obtain rfl := Option.some.inj H
      go_enter Try.func18, Try.ntmps18
      go_wp2
      go_ret
      exact ⟨by first | rfl | (simp; done) | (simp [*]; done), by repeat (first | exact Drawn0.refl _ | apply Drawn0.step)⟩
    · replace c5 := Bool.eq_false_iff.mpr c5
      subst c5
      have H1 : (some (Go.bits .or .u8 (Go.bits .andNot .u8 a0 9) 1)) = some r := by rw [if_neg (show ¬ (false = true) by decide)] at H; exact H
      clear H
      have H := H1
      clear H1
      obtain rfl := Option.some.inj H
      go_enter Try.func18, Try.ntmps18
      go_wp2
      go_ret
      exact ⟨by first | rfl | (simp; done) | (simp [*]; done), by repeat (first | exact Drawn0.refl _ | apply Drawn0.step)⟩
  · replace c4 := Bool.eq_false_iff.mpr c4
    subst c4
    have H1 : (if a2 = true then (some (Go.bits .or .u8 (Go.bits .andNot .u8 a0 9) 8)) else (some (Go.bits .andNot .u8 a0 9))) = some r := by rw [if_neg (show ¬ (false = true) by decide)] at H; exact H
    clear H
    have H := H1
    clear H1
    by_cases c6 : a2 = true
    · subst c6
      have H1 : (some (Go.bits .or .u8 (Go.bits .andNot .u8 a0 9) 8)) = some r := by rw [if_pos rfl] at H; exact H
      clear H
      have H := H1
      clear H1
      obtain rfl := Option.some.inj H
      go_enter Try.func18, Try.ntmps18
      go_wp2
      go_ret
      exact ⟨by first | rfl | (simp; done) | (simp [*]; done), by repeat (first | exact Drawn0.refl _ | apply Drawn0.step)⟩
    · replace c6 := Bool.eq_false_iff.mpr c6
      subst c6
      have H1 : (some (Go.bits .andNot .u8 a0 9)) = some r := by rw [if_neg (show ¬ (false = true) by decide)] at H; exact H
      clear H
      have H := H1
      clear H1
      obtain rfl := Option.some.inj H
      go_enter Try.func18, Try.ntmps18
      go_wp2
      go_ret
      exact ⟨by first | rfl | (simp; done) | (simp [*]; done), by repeat (first | exact Drawn0.refl _ | apply Drawn0.step)⟩

/-! ### tandemlaw3_one: function 19 -/
def tandemlaw3_one.f (a0 : Bool) : Option (Int) := if a0 = true then (some 1) else (some 0)
set_option maxHeartbeats 8000000 in
set_option maxRecDepth 100000 in
theorem tandemlaw3_one.calls (a0 : Bool) (r : Int) (w : World) (h : tandemlaw3_one.f a0 = some r) :
    Calls Try.prog 19 #[.bool a0] w fun e w' => e = .returned (.int .i64 r) ∧ Drawn0 w w' := by
  have H : (if a0 = true then (some 1) else (some 0)) = some r := h
  clear h
  by_cases c2 : a0 = true
  · subst c2
    have H1 : (some 1) = some r := by rw [if_pos rfl] at H; exact H
    clear H
    have H := H1
    clear H1
    obtain rfl := Option.some.inj H
    go_enter Try.func19, Try.ntmps19
    go_wp2
    go_ret
    exact ⟨by first | rfl | (simp; done) | (simp [*]; done), by repeat (first | exact Drawn0.refl _ | apply Drawn0.step)⟩
  · replace c2 := Bool.eq_false_iff.mpr c2
    subst c2
    have H1 : (some 0) = some r := by rw [if_neg (show ¬ (false = true) by decide)] at H; exact H
    clear H
    have H := H1
    clear H1
    obtain rfl := Option.some.inj H
    go_enter Try.func19, Try.ntmps19
    go_wp2
    go_ret
    exact ⟨by first | rfl | (simp; done) | (simp [*]; done), by repeat (first | exact Drawn0.refl _ | apply Drawn0.step)⟩

/-! ### tandemlaw3_AluDecimalTakes: function 4 -/
def tandemlaw3_AluDecimalTakes.f (a0 : Int) (a1 : Int) (a2 : Int) (a3 : Bool) : Option (Bool) := (tandemlaw3_digits.f (Int.tmod (wrap64 (a0)) 100)).bind fun t105 => ((tandemlaw3_digits.f (Int.tmod (wrap64 (a1)) 100)).bind fun t106 => ((tandemlaw3_with.f a2 a3 true).bind fun t107 => ((alu_Sbc.f t105 t106 t107).bind fun bt108 => ((tandemlaw3_one.f a3).bind fun t110 => ((tandemlaw3_digits.f (Int.tmod (wrap64 ((wrap64 ((wrap64 ((wrap64 ((Int.tmod (wrap64 (a0)) 100) - (Int.tmod (wrap64 (a1)) 100))) - 1)) + t110)) + 100)) 100)).bind fun t111 => (if bt108.1 = t111 then ((tandemlaw3_has.f bt108.2 1).bind fun t112 => (if (t112 == (decide ((wrap64 ((wrap64 ((wrap64 ((Int.tmod (wrap64 (a0)) 100) - (Int.tmod (wrap64 (a1)) 100))) - 1)) + t110)) ≥ 0))) = true then ((tandemlaw3_has.f bt108.2 8).bind fun t113 => (some t113)) else (some false))) else (some false)))))))
set_option maxHeartbeats 8000000 in
set_option maxRecDepth 100000 in
theorem tandemlaw3_AluDecimalTakes.calls (a0 : Int) (a1 : Int) (a2 : Int) (a3 : Bool) (r : Bool) (w : World) (h : tandemlaw3_AluDecimalTakes.f a0 a1 a2 a3 = some r) :
    Calls Try.prog 4 #[.int .u8 a0, .int .u8 a1, .int .u8 a2, .bool a3] w fun e w' => e = .returned (.bool r) ∧ Drawn0 w w' := by
  have H : ((tandemlaw3_digits.f (Int.tmod (wrap64 (a0)) 100)).bind fun t105 => ((tandemlaw3_digits.f (Int.tmod (wrap64 (a1)) 100)).bind fun t106 => ((tandemlaw3_with.f a2 a3 true).bind fun t107 => ((alu_Sbc.f t105 t106 t107).bind fun bt108 => ((tandemlaw3_one.f a3).bind fun t110 => ((tandemlaw3_digits.f (Int.tmod (wrap64 ((wrap64 ((wrap64 ((wrap64 ((Int.tmod (wrap64 (a0)) 100) - (Int.tmod (wrap64 (a1)) 100))) - 1)) + t110)) + 100)) 100)).bind fun t111 => (if bt108.1 = t111 then ((tandemlaw3_has.f bt108.2 1).bind fun t112 => (if (t112 == (decide ((wrap64 ((wrap64 ((wrap64 ((Int.tmod (wrap64 (a0)) 100) - (Int.tmod (wrap64 (a1)) 100))) - 1)) + t110)) ≥ 0))) = true then ((tandemlaw3_has.f bt108.2 8).bind fun t113 => (some t113)) else (some false))) else (some false)))))))) = some r := h
  clear h
  replace H := Option.bind_eq_some_iff.mp H
  obtain ⟨t105, A50, H⟩ := H
  replace H : ((tandemlaw3_digits.f (Int.tmod (wrap64 (a1)) 100)).bind fun t106 => ((tandemlaw3_with.f a2 a3 true).bind fun t107 => ((alu_Sbc.f t105 t106 t107).bind fun bt108 => ((tandemlaw3_one.f a3).bind fun t110 => ((tandemlaw3_digits.f (Int.tmod (wrap64 ((wrap64 ((wrap64 ((wrap64 ((Int.tmod (wrap64 (a0)) 100) - (Int.tmod (wrap64 (a1)) 100))) - 1)) + t110)) + 100)) 100)).bind fun t111 => (if bt108.1 = t111 then ((tandemlaw3_has.f bt108.2 1).bind fun t112 => (if (t112 == (decide ((wrap64 ((wrap64 ((wrap64 ((Int.tmod (wrap64 (a0)) 100) - (Int.tmod (wrap64 (a1)) 100))) - 1)) + t110)) ≥ 0))) = true then ((tandemlaw3_has.f bt108.2 8).bind fun t113 => (some t113)) else (some false))) else (some false))))))) = some r := H
  have A5 := Aside0.mk A50
  clear A50
  replace H := Option.bind_eq_some_iff.mp H
  obtain ⟨t106, A60, H⟩ := H
  replace H : ((tandemlaw3_with.f a2 a3 true).bind fun t107 => ((alu_Sbc.f t105 t106 t107).bind fun bt108 => ((tandemlaw3_one.f a3).bind fun t110 => ((tandemlaw3_digits.f (Int.tmod (wrap64 ((wrap64 ((wrap64 ((wrap64 ((Int.tmod (wrap64 (a0)) 100) - (Int.tmod (wrap64 (a1)) 100))) - 1)) + t110)) + 100)) 100)).bind fun t111 => (if bt108.1 = t111 then ((tandemlaw3_has.f bt108.2 1).bind fun t112 => (if (t112 == (decide ((wrap64 ((wrap64 ((wrap64 ((Int.tmod (wrap64 (a0)) 100) - (Int.tmod (wrap64 (a1)) 100))) - 1)) + t110)) ≥ 0))) = true then ((tandemlaw3_has.f bt108.2 8).bind fun t113 => (some t113)) else (some false))) else (some false)))))) = some r := H
  have A6 := Aside0.mk A60
  clear A60
  replace H := Option.bind_eq_some_iff.mp H
  obtain ⟨t107, A70, H⟩ := H
  replace H : ((alu_Sbc.f t105 t106 t107).bind fun bt108 => ((tandemlaw3_one.f a3).bind fun t110 => ((tandemlaw3_digits.f (Int.tmod (wrap64 ((wrap64 ((wrap64 ((wrap64 ((Int.tmod (wrap64 (a0)) 100) - (Int.tmod (wrap64 (a1)) 100))) - 1)) + t110)) + 100)) 100)).bind fun t111 => (if bt108.1 = t111 then ((tandemlaw3_has.f bt108.2 1).bind fun t112 => (if (t112 == (decide ((wrap64 ((wrap64 ((wrap64 ((Int.tmod (wrap64 (a0)) 100) - (Int.tmod (wrap64 (a1)) 100))) - 1)) + t110)) ≥ 0))) = true then ((tandemlaw3_has.f bt108.2 8).bind fun t113 => (some t113)) else (some false))) else (some false))))) = some r := H
  have A7 := Aside0.mk A70
  clear A70
  replace H := Option.bind_eq_some_iff.mp H
  obtain ⟨⟨t108, t109⟩, A80, H⟩ := H
  replace H : ((tandemlaw3_one.f a3).bind fun t110 => ((tandemlaw3_digits.f (Int.tmod (wrap64 ((wrap64 ((wrap64 ((wrap64 ((Int.tmod (wrap64 (a0)) 100) - (Int.tmod (wrap64 (a1)) 100))) - 1)) + t110)) + 100)) 100)).bind fun t111 => (if t108 = t111 then ((tandemlaw3_has.f t109 1).bind fun t112 => (if (t112 == (decide ((wrap64 ((wrap64 ((wrap64 ((Int.tmod (wrap64 (a0)) 100) - (Int.tmod (wrap64 (a1)) 100))) - 1)) + t110)) ≥ 0))) = true then ((tandemlaw3_has.f t109 8).bind fun t113 => (some t113)) else (some false))) else (some false)))) = some r := H
  have A8 := Aside0.mk A80
  clear A80
  replace H := Option.bind_eq_some_iff.mp H
  obtain ⟨t110, A90, H⟩ := H
  replace H : ((tandemlaw3_digits.f (Int.tmod (wrap64 ((wrap64 ((wrap64 ((wrap64 ((Int.tmod (wrap64 (a0)) 100) - (Int.tmod (wrap64 (a1)) 100))) - 1)) + t110)) + 100)) 100)).bind fun t111 => (if t108 = t111 then ((tandemlaw3_has.f t109 1).bind fun t112 => (if (t112 == (decide ((wrap64 ((wrap64 ((wrap64 ((Int.tmod (wrap64 (a0)) 100) - (Int.tmod (wrap64 (a1)) 100))) - 1)) + t110)) ≥ 0))) = true then ((tandemlaw3_has.f t109 8).bind fun t113 => (some t113)) else (some false))) else (some false))) = some r := H
  have A9 := Aside0.mk A90
  clear A90
  replace H := Option.bind_eq_some_iff.mp H
  obtain ⟨t111, A100, H⟩ := H
  replace H : (if t108 = t111 then ((tandemlaw3_has.f t109 1).bind fun t112 => (if (t112 == (decide ((wrap64 ((wrap64 ((wrap64 ((Int.tmod (wrap64 (a0)) 100) - (Int.tmod (wrap64 (a1)) 100))) - 1)) + t110)) ≥ 0))) = true then ((tandemlaw3_has.f t109 8).bind fun t113 => (some t113)) else (some false))) else (some false)) = some r := H
  have A10 := Aside0.mk A100
  clear A100
  by_cases c11 : t108 = t111
  · rw [if_pos c11] at H
    have c11b0 : (t108 == t111) = true := beq_iff_eq.mpr c11
    have c11b1 : (t108 != t111) = false := bne_eq_false_iff_eq.mpr c11
    clear c11
    replace H := Option.bind_eq_some_iff.mp H
    obtain ⟨t112, A120, H⟩ := H
    replace H : (if (t112 == (decide ((wrap64 ((wrap64 ((wrap64 ((Int.tmod (wrap64 (a0)) 100) - (Int.tmod (wrap64 (a1)) 100))) - 1)) + t110)) ≥ 0))) = true then ((tandemlaw3_has.f t109 8).bind fun t113 => (some t113)) else (some false)) = some r := H
    have A12 := Aside0.mk A120
    clear A120
    by_cases c13 : (t112 == (decide ((wrap64 ((wrap64 ((wrap64 ((Int.tmod (wrap64 (a0)) 100) - (Int.tmod (wrap64 (a1)) 100))) - 1)) + t110)) ≥ 0))) = true
    · rw [if_pos c13] at H
      have c13b0 : (t112 == (decide ((wrap64 ((wrap64 ((wrap64 ((Int.tmod (wrap64 (a0)) 100) - (Int.tmod (wrap64 (a1)) 100))) - 1)) + t110)) ≥ 0))) = true := c13
      (try (have c13b1 : decide (t112 = (decide ((wrap64 ((wrap64 ((wrap64 ((Int.tmod (wrap64 (a0)) 100) - (Int.tmod (wrap64 (a1)) 100))) - 1)) + t110)) ≥ 0))) = true := by simpa using c13))
      (try (have c13b2 : (t112 == (decide ((wrap64 ((wrap64 ((wrap64 ((Int.tmod (wrap64 (a0)) 100) - (Int.tmod (wrap64 (a1)) 100))) - 1)) + t110)) ≥ 0))) = true := by simpa using c13))
      clear c13
      replace H := Option.bind_eq_some_iff.mp H
      obtain ⟨t113, A140, H⟩ := H
      replace H : (some t113) = some r := H
      have A14 := Aside0.mk A140
      clear A140
      obtain rfl := Option.some.inj H
      go_enter Try.func4, Try.ntmps4
      go_wp2_with (first | ((with_reducible refine gate_callee (f := 17) rfl ?_); refine goesL_ (some 22) rfl rfl Try.func17 (by kernel_rfl) rfl #[.int .i64 (Int.tmod (wrap64 (a0)) 100)] rfl (by (try simp only [List.map_toArray, List.map_cons, List.map_nil]); first | done | rfl | (simp only [List.length_drop, List.length_take]; rfl)) ?_; (with_reducible refine (tandemlaw3_digits.calls (Int.tmod (wrap64 (a0)) 100) t105 _ A5.out).mono ?_); rintro e w' ⟨rfl, ⟨nd, rfl⟩⟩; refine ⟨_, rfl, ?_⟩) | ((with_reducible refine gate_callee (f := 17) rfl ?_); refine goesL_ (some 24) rfl rfl Try.func17 (by kernel_rfl) rfl #[.int .i64 (Int.tmod (wrap64 (a1)) 100)] rfl (by (try simp only [List.map_toArray, List.map_cons, List.map_nil]); first | done | rfl | (simp only [List.length_drop, List.length_take]; rfl)) ?_; (with_reducible refine (tandemlaw3_digits.calls (Int.tmod (wrap64 (a1)) 100) t106 _ A6.out).mono ?_); rintro e w' ⟨rfl, ⟨nd, rfl⟩⟩; refine ⟨_, rfl, ?_⟩) | ((with_reducible refine gate_callee (f := 18) rfl ?_); refine goesL_ (some 27) rfl rfl Try.func18 (by kernel_rfl) rfl #[.int .u8 a2, .bool a3, .bool true] rfl (by (try simp only [List.map_toArray, List.map_cons, List.map_nil]); first | done | rfl | (simp only [List.length_drop, List.length_take]; rfl)) ?_; (with_reducible refine (tandemlaw3_with.calls a2 a3 true t107 _ A7.out).mono ?_); rintro e w' ⟨rfl, ⟨nd, rfl⟩⟩; refine ⟨_, rfl, ?_⟩) | ((with_reducible refine gate_callee (f := 16) rfl ?_); refine goesL_ (some 28) rfl rfl Try.func16 (by kernel_rfl) rfl #[.int .u8 t105, .int .u8 t106, .int .u8 t107] rfl (by (try simp only [List.map_toArray, List.map_cons, List.map_nil]); first | done | rfl | (simp only [List.length_drop, List.length_take]; rfl)) ?_; (with_reducible refine (alu_Sbc.calls t105 t106 t107 t108 t109 _ A8.out).mono ?_); rintro e w' ⟨rfl, ⟨nd, rfl⟩⟩; refine ⟨_, rfl, ?_⟩) | ((with_reducible refine gate_callee (f := 19) rfl ?_); refine goesL_ (some 36) rfl rfl Try.func19 (by kernel_rfl) rfl #[.bool a3] rfl (by (try simp only [List.map_toArray, List.map_cons, List.map_nil]); first | done | rfl | (simp only [List.length_drop, List.length_take]; rfl)) ?_; (with_reducible refine (tandemlaw3_one.calls a3 t110 _ A9.out).mono ?_); rintro e w' ⟨rfl, ⟨nd, rfl⟩⟩; refine ⟨_, rfl, ?_⟩) | ((with_reducible refine gate_callee (f := 17) rfl ?_); refine goesL_ (some 42) rfl rfl Try.func17 (by kernel_rfl) rfl #[.int .i64 (Int.tmod (wrap64 ((wrap64 ((wrap64 ((wrap64 ((Int.tmod (wrap64 (a0)) 100) - (Int.tmod (wrap64 (a1)) 100))) - 1)) + t110)) + 100)) 100)] rfl (by (try simp only [List.map_toArray, List.map_cons, List.map_nil]); first | done | rfl | (simp only [List.length_drop, List.length_take]; rfl)) ?_; (with_reducible refine (tandemlaw3_digits.calls (Int.tmod (wrap64 ((wrap64 ((wrap64 ((wrap64 ((Int.tmod (wrap64 (a0)) 100) - (Int.tmod (wrap64 (a1)) 100))) - 1)) + t110)) + 100)) 100) t111 _ A10.out).mono ?_); rintro e w' ⟨rfl, ⟨nd, rfl⟩⟩; refine ⟨_, rfl, ?_⟩) | (go_at_call 15; (with_reducible refine (tandemlaw3_has.calls t109 1 t112 _ A12.out).mono ?_); rintro e w' ⟨rfl, ⟨nd, rfl⟩⟩) | (go_at_call 15; (with_reducible refine (tandemlaw3_has.calls t109 8 t113 _ A14.out).mono ?_); rintro e w' ⟨rfl, ⟨nd, rfl⟩⟩))
      go_ret
      exact ⟨by first | rfl | (simp; done) | (simp [*]; done), by repeat (first | exact Drawn0.refl _ | apply Drawn0.step)⟩
    · rw [if_neg c13] at H
      have c13b0 : (t112 == (decide ((wrap64 ((wrap64 ((wrap64 ((Int.tmod (wrap64 (a0)) 100) - (Int.tmod (wrap64 (a1)) 100))) - 1)) + t110)) ≥ 0))) = false := by simpa using c13
      (try (have c13b1 : decide (t112 = (decide ((wrap64 ((wrap64 ((wrap64 ((Int.tmod (wrap64 (a0)) 100) - (Int.tmod (wrap64 (a1)) 100))) - 1)) + t110)) ≥ 0))) = false := by simpa using c13))
      (try (have c13b2 : (t112 == (decide ((wrap64 ((wrap64 ((wrap64 ((Int.tmod (wrap64 (a0)) 100) - (Int.tmod (wrap64 (a1)) 100))) - 1)) + t110)) ≥ 0))) = false := by simpa using c13))
      (try (have c13b3 : ¬ (t112 = (decide ((wrap64 ((wrap64 ((wrap64 ((Int.tmod (wrap64 (a0)) 100) - (Int.tmod (wrap64 (a1)) 100))) - 1)) + t110)) ≥ 0))) := by simpa using c13))
      clear c13
      obtain rfl := Option.some.inj H
      go_enter Try.func4, Try.ntmps4
      go_wp2_with (first | ((with_reducible refine gate_callee (f := 17) rfl ?_); refine goesL_ (some 22) rfl rfl Try.func17 (by kernel_rfl) rfl #[.int .i64 (Int.tmod (wrap64 (a0)) 100)] rfl (by (try simp only [List.map_toArray, List.map_cons, List.map_nil]); first | done | rfl | (simp only [List.length_drop, List.length_take]; rfl)) ?_; (with_reducible refine (tandemlaw3_digits.calls (Int.tmod (wrap64 (a0)) 100) t105 _ A5.out).mono ?_); rintro e w' ⟨rfl, ⟨nd, rfl⟩⟩; refine ⟨_, rfl, ?_⟩) | ((with_reducible refine gate_callee (f := 17) rfl ?_); refine goesL_ (some 24) rfl rfl Try.func17 (by kernel_rfl) rfl #[.int .i64 (Int.tmod (wrap64 (a1)) 100)] rfl (by (try simp only [List.map_toArray, List.map_cons, List.map_nil]); first | done | rfl | (simp only [List.length_drop, List.length_take]; rfl)) ?_; (with_reducible refine (tandemlaw3_digits.calls (Int.tmod (wrap64 (a1)) 100) t106 _ A6.out).mono ?_); rintro e w' ⟨rfl, ⟨nd, rfl⟩⟩; refine ⟨_, rfl, ?_⟩) | ((with_reducible refine gate_callee (f := 18) rfl ?_); refine goesL_ (some 27) rfl rfl Try.func18 (by kernel_rfl) rfl #[.int .u8 a2, .bool a3, .bool true] rfl (by (try simp only [List.map_toArray, List.map_cons, List.map_nil]); first | done | rfl | (simp only [List.length_drop, List.length_take]; rfl)) ?_; (with_reducible refine (tandemlaw3_with.calls a2 a3 true t107 _ A7.out).mono ?_); rintro e w' ⟨rfl, ⟨nd, rfl⟩⟩; refine ⟨_, rfl, ?_⟩) | ((with_reducible refine gate_callee (f := 16) rfl ?_); refine goesL_ (some 28) rfl rfl Try.func16 (by kernel_rfl) rfl #[.int .u8 t105, .int .u8 t106, .int .u8 t107] rfl (by (try simp only [List.map_toArray, List.map_cons, List.map_nil]); first | done | rfl | (simp only [List.length_drop, List.length_take]; rfl)) ?_; (with_reducible refine (alu_Sbc.calls t105 t106 t107 t108 t109 _ A8.out).mono ?_); rintro e w' ⟨rfl, ⟨nd, rfl⟩⟩; refine ⟨_, rfl, ?_⟩) | ((with_reducible refine gate_callee (f := 19) rfl ?_); refine goesL_ (some 36) rfl rfl Try.func19 (by kernel_rfl) rfl #[.bool a3] rfl (by (try simp only [List.map_toArray, List.map_cons, List.map_nil]); first | done | rfl | (simp only [List.length_drop, List.length_take]; rfl)) ?_; (with_reducible refine (tandemlaw3_one.calls a3 t110 _ A9.out).mono ?_); rintro e w' ⟨rfl, ⟨nd, rfl⟩⟩; refine ⟨_, rfl, ?_⟩) | ((with_reducible refine gate_callee (f := 17) rfl ?_); refine goesL_ (some 42) rfl rfl Try.func17 (by kernel_rfl) rfl #[.int .i64 (Int.tmod (wrap64 ((wrap64 ((wrap64 ((wrap64 ((Int.tmod (wrap64 (a0)) 100) - (Int.tmod (wrap64 (a1)) 100))) - 1)) + t110)) + 100)) 100)] rfl (by (try simp only [List.map_toArray, List.map_cons, List.map_nil]); first | done | rfl | (simp only [List.length_drop, List.length_take]; rfl)) ?_; (with_reducible refine (tandemlaw3_digits.calls (Int.tmod (wrap64 ((wrap64 ((wrap64 ((wrap64 ((Int.tmod (wrap64 (a0)) 100) - (Int.tmod (wrap64 (a1)) 100))) - 1)) + t110)) + 100)) 100) t111 _ A10.out).mono ?_); rintro e w' ⟨rfl, ⟨nd, rfl⟩⟩; refine ⟨_, rfl, ?_⟩) | (go_at_call 15; (with_reducible refine (tandemlaw3_has.calls t109 1 t112 _ A12.out).mono ?_); rintro e w' ⟨rfl, ⟨nd, rfl⟩⟩))
      go_ret
      exact ⟨by first | rfl | (simp; done) | (simp [*]; done), by repeat (first | exact Drawn0.refl _ | apply Drawn0.step)⟩
  · rw [if_neg c11] at H
    have c11b0 : (t108 == t111) = false := beq_eq_false_iff_ne.mpr c11
    have c11b1 : (t108 != t111) = true := bne_iff_ne.mpr c11
    obtain rfl := Option.some.inj H
    go_enter Try.func4, Try.ntmps4
    go_wp2_with (first | ((with_reducible refine gate_callee (f := 17) rfl ?_); refine goesL_ (some 22) rfl rfl Try.func17 (by kernel_rfl) rfl #[.int .i64 (Int.tmod (wrap64 (a0)) 100)] rfl (by (try simp only [List.map_toArray, List.map_cons, List.map_nil]); first | done | rfl | (simp only [List.length_drop, List.length_take]; rfl)) ?_; (with_reducible refine (tandemlaw3_digits.calls (Int.tmod (wrap64 (a0)) 100) t105 _ A5.out).mono ?_); rintro e w' ⟨rfl, ⟨nd, rfl⟩⟩; refine ⟨_, rfl, ?_⟩) | ((with_reducible refine gate_callee (f := 17) rfl ?_); refine goesL_ (some 24) rfl rfl Try.func17 (by kernel_rfl) rfl #[.int .i64 (Int.tmod (wrap64 (a1)) 100)] rfl (by (try simp only [List.map_toArray, List.map_cons, List.map_nil]); first | done | rfl | (simp only [List.length_drop, List.length_take]; rfl)) ?_; (with_reducible refine (tandemlaw3_digits.calls (Int.tmod (wrap64 (a1)) 100) t106 _ A6.out).mono ?_); rintro e w' ⟨rfl, ⟨nd, rfl⟩⟩; refine ⟨_, rfl, ?_⟩) | ((with_reducible refine gate_callee (f := 18) rfl ?_); refine goesL_ (some 27) rfl rfl Try.func18 (by kernel_rfl) rfl #[.int .u8 a2, .bool a3, .bool true] rfl (by (try simp only [List.map_toArray, List.map_cons, List.map_nil]); first | done | rfl | (simp only [List.length_drop, List.length_take]; rfl)) ?_; (with_reducible refine (tandemlaw3_with.calls a2 a3 true t107 _ A7.out).mono ?_); rintro e w' ⟨rfl, ⟨nd, rfl⟩⟩; refine ⟨_, rfl, ?_⟩) | ((with_reducible refine gate_callee (f := 16) rfl ?_); refine goesL_ (some 28) rfl rfl Try.func16 (by kernel_rfl) rfl #[.int .u8 t105, .int .u8 t106, .int .u8 t107] rfl (by (try simp only [List.map_toArray, List.map_cons, List.map_nil]); first | done | rfl | (simp only [List.length_drop, List.length_take]; rfl)) ?_; (with_reducible refine (alu_Sbc.calls t105 t106 t107 t108 t109 _ A8.out).mono ?_); rintro e w' ⟨rfl, ⟨nd, rfl⟩⟩; refine ⟨_, rfl, ?_⟩) | ((with_reducible refine gate_callee (f := 19) rfl ?_); refine goesL_ (some 36) rfl rfl Try.func19 (by kernel_rfl) rfl #[.bool a3] rfl (by (try simp only [List.map_toArray, List.map_cons, List.map_nil]); first | done | rfl | (simp only [List.length_drop, List.length_take]; rfl)) ?_; (with_reducible refine (tandemlaw3_one.calls a3 t110 _ A9.out).mono ?_); rintro e w' ⟨rfl, ⟨nd, rfl⟩⟩; refine ⟨_, rfl, ?_⟩) | ((with_reducible refine gate_callee (f := 17) rfl ?_); refine goesL_ (some 42) rfl rfl Try.func17 (by kernel_rfl) rfl #[.int .i64 (Int.tmod (wrap64 ((wrap64 ((wrap64 ((wrap64 ((Int.tmod (wrap64 (a0)) 100) - (Int.tmod (wrap64 (a1)) 100))) - 1)) + t110)) + 100)) 100)] rfl (by (try simp only [List.map_toArray, List.map_cons, List.map_nil]); first | done | rfl | (simp only [List.length_drop, List.length_take]; rfl)) ?_; (with_reducible refine (tandemlaw3_digits.calls (Int.tmod (wrap64 ((wrap64 ((wrap64 ((wrap64 ((Int.tmod (wrap64 (a0)) 100) - (Int.tmod (wrap64 (a1)) 100))) - 1)) + t110)) + 100)) 100) t111 _ A10.out).mono ?_); rintro e w' ⟨rfl, ⟨nd, rfl⟩⟩; refine ⟨_, rfl, ?_⟩))
    go_ret
    exact ⟨by first | rfl | (simp; done) | (simp [*]; done), by repeat (first | exact Drawn0.refl _ | apply Drawn0.step)⟩

/-- THE ONE PURE STATEMENT of tandemlaw3_AluDecimalTakes: yours. -/
def tandemlaw3_AluDecimalTakes.Pure : Prop := ∀ (a0 : Int) (a1 : Int) (a2 : Int) (a3 : Bool), (Lit.int .u8 a0).wf = true → (Lit.int .u8 a1).wf = true → (Lit.int .u8 a2).wf = true → tandemlaw3_AluDecimalTakes.f a0 a1 a2 a3 = some true
theorem tandemlaw3_AluDecimalTakes.walk (P : tandemlaw3_AluDecimalTakes.Pure) (a0 : Int) (a1 : Int) (a2 : Int) (a3 : Bool) (w : World) (w0 : (Lit.int .u8 a0).wf = true) (w1 : (Lit.int .u8 a1).wf = true) (w2 : (Lit.int .u8 a2).wf = true) :
    Calls Try.prog 4 #[.int .u8 a0, .int .u8 a1, .int .u8 a2, .bool a3] w fun e w' => e = .returned (.bool true) ∧ Below w.heap.size w w' := by
  have h := P a0 a1 a2 a3 w0 w1 w2
  refine (tandemlaw3_AluDecimalTakes.calls a0 a1 a2 a3 true w h).mono ?_
  rintro e w' ⟨rfl, hd⟩
  exact ⟨rfl, hd.below⟩

end Go.Proofs.Ytajffjhfecckbaa.PAluDecimalTakes
