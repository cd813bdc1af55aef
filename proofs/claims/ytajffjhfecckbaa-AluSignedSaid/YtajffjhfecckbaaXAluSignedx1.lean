-- Made by this seat's own program wip/tools/xprint.py.
import Derived.Test.YtajffjhfecckbaaXAluSignedx0
namespace Go.Proofs.Ytajffjhfecckbaa.XAluSigned
open Go.RowKit Go.Proofs.YtajffjhfecckbaaW.PrintWords Go.Proofs.YtajffjhfecckbaaW.PrintLast Go.Proofs.YtajffjhfecckbaaW.PrintMore
attribute [local go_sem] max2_int min2_int max_two min_two max_three min_three max_four min_four   -- for this text's walks alone
set_option linter.unusedVariables false
set_option linter.unusedSimpArgs false

/-! ### tandemlaw3_has: function 15 -/
def tandemlaw3_has.f (a0 : Int) (a1 : Int) : Option (Bool) := some ((Go.bits .and .u8 a0 a1) != 0)
set_option maxHeartbeats 8000000 in
set_option maxRecDepth 100000 in
theorem tandemlaw3_has.calls (a0 : Int) (a1 : Int) (r : Bool) (w : World) (h : tandemlaw3_has.f a0 a1 = some r) :
    Calls Try.prog 15 #[.int .u8 a0, .int .u8 a1] w fun e w' => e = .returned (.bool r) ∧ Drawn0 w w' := by
  have H : (some ((Go.bits .and .u8 a0 a1) != 0)) = some r := h
  clear h
  obtain rfl := Option.some.inj H
  go_enter Try.func15, Try.ntmps15
  go_wp2
  go_ret
  exact ⟨by first | rfl | (simp; done) | (simp [*]; done), by repeat (first | exact Drawn0.refl _ | apply Drawn0.step)⟩

/-! ### alu_Nz: function 25 -/
def alu_Nz.f (a0 : Int) (a1 : Int) : Option (Int) := if a0 = 0 then (some (Go.bits .or .u8 (Go.bits .or .u8 (Go.bits .andNot .u8 a1 130) 2) (Go.bits .and .u8 a0 128))) else (some (Go.bits .or .u8 (Go.bits .andNot .u8 a1 130) (Go.bits .and .u8 a0 128)))
set_option maxHeartbeats 8000000 in
set_option maxRecDepth 100000 in
theorem alu_Nz.calls (a0 : Int) (a1 : Int) (r : Int) (w : World) (h : alu_Nz.f a0 a1 = some r) :
    Calls Try.prog 25 #[.int .u8 a0, .int .u8 a1] w fun e w' => e = .returned (.int .u8 r) ∧ Drawn0 w w' := by
  have H : (if a0 = 0 then (some (Go.bits .or .u8 (Go.bits .or .u8 (Go.bits .andNot .u8 a1 130) 2) (Go.bits .and .u8 a0 128))) else (some (Go.bits .or .u8 (Go.bits .andNot .u8 a1 130) (Go.bits .and .u8 a0 128)))) = some r := h
  clear h
  by_cases c3 : a0 = 0
  · rw [if_pos c3] at H
    have c3b0 : (a0 == 0) = true := beq_iff_eq.mpr c3
    have c3b1 : (a0 != 0) = false := bne_eq_false_iff_eq.mpr c3
    clear c3
    obtain rfl := Option.some.inj H
    go_enter Try.func25, Try.ntmps25
    go_wp2
    go_ret
    exact ⟨by first | rfl | (simp; done) | (simp [*]; done), by repeat (first | exact Drawn0.refl _ | apply Drawn0.step)⟩
  · rw [if_neg c3] at H
    have c3b0 : (a0 == 0) = false := beq_eq_false_iff_ne.mpr c3
    have c3b1 : (a0 != 0) = true := bne_iff_ne.mpr c3
    obtain rfl := Option.some.inj H
    go_enter Try.func25, Try.ntmps25
    go_wp2
    go_ret
    exact ⟨by first | rfl | (simp; done) | (simp [*]; done), by repeat (first | exact Drawn0.refl _ | apply Drawn0.step)⟩

/-! ### alu_put: function 36 -/
def alu_put.f (a0 : Int) (a1 : Int) (a2 : Bool) : Option (Int) := if a2 = true then (some (Go.bits .or .u8 a0 a1)) else (some (Go.bits .andNot .u8 a0 a1))
set_option maxHeartbeats 8000000 in
set_option maxRecDepth 100000 in
theorem alu_put.calls (a0 : Int) (a1 : Int) (a2 : Bool) (r : Int) (w : World) (h : alu_put.f a0 a1 a2 = some r) :
    Calls Try.prog 36 #[.int .u8 a0, .int .u8 a1, .bool a2] w fun e w' => e = .returned (.int .u8 r) ∧ Drawn0 w w' := by
  have H : (if a2 = true then (some (Go.bits .or .u8 a0 a1)) else (some (Go.bits .andNot .u8 a0 a1))) = some r := h
  clear h
  by_cases c4 : a2 = true
  · subst c4
    have H1 : (some (Go.bits .or .u8 a0 a1)) = some r := by rw [if_pos rfl] at H; exact H
    clear H
    have H := H1
    clear H1
    obtain rfl := Option.some.inj H
    go_enter Try.func36, Try.ntmps36
    go_wp2
    go_ret
    exact ⟨by first | rfl | (simp; done) | (simp [*]; done), by repeat (first | exact Drawn0.refl _ | apply Drawn0.step)⟩
  · replace c4 := Bool.eq_false_iff.mpr c4
    subst c4
    have H1 : (some (Go.bits .andNot .u8 a0 a1)) = some r := by rw [if_neg (show ¬ (false = true) by decide)] at H; exact H
    clear H
    have H := H1
    clear H1
    obtain rfl := Option.some.inj H
    go_enter Try.func36, Try.ntmps36
    go_wp2
    go_ret
    exact ⟨by first | rfl | (simp; done) | (simp [*]; done), by repeat (first | exact Drawn0.refl _ | apply Drawn0.step)⟩

/-! ### alu_carry: function 37 -/
def alu_carry.f (a0 : Int) : Option (Int) := some (wrap64 (Go.bits .and .u8 a0 1))
set_option maxHeartbeats 8000000 in
set_option maxRecDepth 100000 in
theorem alu_carry.calls (a0 : Int) (r : Int) (w : World) (h : alu_carry.f a0 = some r) :
    Calls Try.prog 37 #[.int .u8 a0] w fun e w' => e = .returned (.int .i64 r) ∧ Drawn0 w w' := by
  have H : (some (wrap64 (Go.bits .and .u8 a0 1))) = some r := h
  clear h
  obtain rfl := Option.some.inj H
  go_enter Try.func37, Try.ntmps37
  go_wp2
  go_ret
  exact ⟨by first | rfl | (simp; done) | (simp [*]; done), by repeat (first | exact Drawn0.refl _ | apply Drawn0.step)⟩

/-! ### alu_Sbc: function 16 -/
def alu_Sbc.f (a0 : Int) (a1 : Int) (a2 : Int) : Option (Int × Int) := (alu_carry.f a2).bind fun t101 => ((alu_put.f a2 1 (decide ((wrap64 ((wrap64 ((wrap64 (a0)) - (wrap64 (a1)))) - (wrap64 (1 - t101)))) ≥ 0))).bind fun t102 => ((alu_put.f t102 64 ((Go.bits .and .u8 (Go.bits .and .u8 (Go.bits .xor .u8 a0 a1) (Go.bits .xor .u8 a0 ((wrap64 ((wrap64 ((wrap64 (a0)) - (wrap64 (a1)))) - (wrap64 (1 - t101)))) % 256))) 128) != 0)).bind fun t103 => ((alu_Nz.f ((wrap64 ((wrap64 ((wrap64 (a0)) - (wrap64 (a1)))) - (wrap64 (1 - t101)))) % 256) t103).bind fun t104 => (if (Go.bits .and .u8 a2 8) = 0 then (some ((wrap64 ((wrap64 ((wrap64 (a0)) - (wrap64 (a1)))) - (wrap64 (1 - t101)))) % 256, t104)) else (if (wrap64 ((wrap64 ((wrap64 (Go.bits .and .u8 a0 15)) - (wrap64 (Go.bits .and .u8 a1 15)))) - (wrap64 (1 - t101)))) < 0 then (if (wrap64 ((wrap64 ((wrap64 (Go.bits .and .u8 a0 240)) - (wrap64 (Go.bits .and .u8 a1 240)))) + (wrap64 ((Go.bits .and .i64 (wrap64 ((wrap64 ((wrap64 ((wrap64 (Go.bits .and .u8 a0 15)) - (wrap64 (Go.bits .and .u8 a1 15)))) - (wrap64 (1 - t101)))) - 6)) 15) - 16)))) < 0 then (some ((wrap64 ((wrap64 ((wrap64 ((wrap64 (Go.bits .and .u8 a0 240)) - (wrap64 (Go.bits .and .u8 a1 240)))) + (wrap64 ((Go.bits .and .i64 (wrap64 ((wrap64 ((wrap64 ((wrap64 (Go.bits .and .u8 a0 15)) - (wrap64 (Go.bits .and .u8 a1 15)))) - (wrap64 (1 - t101)))) - 6)) 15) - 16)))) - 96)) % 256, t104)) else (some ((wrap64 ((wrap64 ((wrap64 (Go.bits .and .u8 a0 240)) - (wrap64 (Go.bits .and .u8 a1 240)))) + (wrap64 ((Go.bits .and .i64 (wrap64 ((wrap64 ((wrap64 ((wrap64 (Go.bits .and .u8 a0 15)) - (wrap64 (Go.bits .and .u8 a1 15)))) - (wrap64 (1 - t101)))) - 6)) 15) - 16)))) % 256, t104))) else (if (wrap64 ((wrap64 ((wrap64 (Go.bits .and .u8 a0 240)) - (wrap64 (Go.bits .and .u8 a1 240)))) + (wrap64 ((wrap64 ((wrap64 (Go.bits .and .u8 a0 15)) - (wrap64 (Go.bits .and .u8 a1 15)))) - (wrap64 (1 - t101)))))) < 0 then (some ((wrap64 ((wrap64 ((wrap64 ((wrap64 (Go.bits .and .u8 a0 240)) - (wrap64 (Go.bits .and .u8 a1 240)))) + (wrap64 ((wrap64 ((wrap64 (Go.bits .and .u8 a0 15)) - (wrap64 (Go.bits .and .u8 a1 15)))) - (wrap64 (1 - t101)))))) - 96)) % 256, t104)) else (some ((wrap64 ((wrap64 ((wrap64 (Go.bits .and .u8 a0 240)) - (wrap64 (Go.bits .and .u8 a1 240)))) + (wrap64 ((wrap64 ((wrap64 (Go.bits .and .u8 a0 15)) - (wrap64 (Go.bits .and .u8 a1 15)))) - (wrap64 (1 - t101)))))) % 256, t104))))))))
set_option maxHeartbeats 8000000 in
set_option maxRecDepth 100000 in
theorem alu_Sbc.calls (a0 : Int) (a1 : Int) (a2 : Int) (r1 : Int) (r2 : Int) (w : World) (h : alu_Sbc.f a0 a1 a2 = some (r1, r2)) :
    Calls Try.prog 16 #[.int .u8 a0, .int .u8 a1, .int .u8 a2] w fun e w' => e = .returned (.tuple #[.int .u8 r1, .int .u8 r2]) ∧ Drawn0 w w' := by
  have H : ((alu_carry.f a2).bind fun t101 => ((alu_put.f a2 1 (decide ((wrap64 ((wrap64 ((wrap64 (a0)) - (wrap64 (a1)))) - (wrap64 (1 - t101)))) ≥ 0))).bind fun t102 => ((alu_put.f t102 64 ((Go.bits .and .u8 (Go.bits .and .u8 (Go.bits .xor .u8 a0 a1) (Go.bits .xor .u8 a0 ((wrap64 ((wrap64 ((wrap64 (a0)) - (wrap64 (a1)))) - (wrap64 (1 - t101)))) % 256))) 128) != 0)).bind fun t103 => ((alu_Nz.f ((wrap64 ((wrap64 ((wrap64 (a0)) - (wrap64 (a1)))) - (wrap64 (1 - t101)))) % 256) t103).bind fun t104 => (if (Go.bits .and .u8 a2 8) = 0 then (some ((wrap64 ((wrap64 ((wrap64 (a0)) - (wrap64 (a1)))) - (wrap64 (1 - t101)))) % 256, t104)) else (if (wrap64 ((wrap64 ((wrap64 (Go.bits .and .u8 a0 15)) - (wrap64 (Go.bits .and .u8 a1 15)))) - (wrap64 (1 - t101)))) < 0 then (if (wrap64 ((wrap64 ((wrap64 (Go.bits .and .u8 a0 240)) - (wrap64 (Go.bits .and .u8 a1 240)))) + (wrap64 ((Go.bits .and .i64 (wrap64 ((wrap64 ((wrap64 ((wrap64 (Go.bits .and .u8 a0 15)) - (wrap64 (Go.bits .and .u8 a1 15)))) - (wrap64 (1 - t101)))) - 6)) 15) - 16)))) < 0 then (some ((wrap64 ((wrap64 ((wrap64 ((wrap64 (Go.bits .and .u8 a0 240)) - (wrap64 (Go.bits .and .u8 a1 240)))) + (wrap64 ((Go.bits .and .i64 (wrap64 ((wrap64 ((wrap64 ((wrap64 (Go.bits .and .u8 a0 15)) - (wrap64 (Go.bits .and .u8 a1 15)))) - (wrap64 (1 - t101)))) - 6)) 15) - 16)))) - 96)) % 256, t104)) else (some ((wrap64 ((wrap64 ((wrap64 (Go.bits .and .u8 a0 240)) - (wrap64 (Go.bits .and .u8 a1 240)))) + (wrap64 ((Go.bits .and .i64 (wrap64 ((wrap64 ((wrap64 ((wrap64 (Go.bits .and .u8 a0 15)) - (wrap64 (Go.bits .and .u8 a1 15)))) - (wrap64 (1 - t101)))) - 6)) 15) - 16)))) % 256, t104))) else (if (wrap64 ((wrap64 ((wrap64 (Go.bits .and .u8 a0 240)) - (wrap64 (Go.bits .and .u8 a1 240)))) + (wrap64 ((wrap64 ((wrap64 (Go.bits .and .u8 a0 15)) - (wrap64 (Go.bits .and .u8 a1 15)))) - (wrap64 (1 - t101)))))) < 0 then (some ((wrap64 ((wrap64 ((wrap64 ((wrap64 (Go.bits .and .u8 a0 240)) - (wrap64 (Go.bits .and .u8 a1 240)))) + (wrap64 ((wrap64 ((wrap64 (Go.bits .and .u8 a0 15)) - (wrap64 (Go.bits .and .u8 a1 15)))) - (wrap64 (1 - t101)))))) - 96)) % 256, t104)) else (some ((wrap64 ((wrap64 ((wrap64 (Go.bits .and .u8 a0 240)) - (wrap64 (Go.bits .and .u8 a1 240)))) + (wrap64 ((wrap64 ((wrap64 (Go.bits .and .u8 a0 15)) - (wrap64 (Go.bits .and .u8 a1 15)))) - (wrap64 (1 - t101)))))) % 256, t104))))))))) = some (r1, r2) := h
  clear h
  replace H := Option.bind_eq_some_iff.mp H
  obtain ⟨t101, A40, H⟩ := H
  replace H : ((alu_put.f a2 1 (decide ((wrap64 ((wrap64 ((wrap64 (a0)) - (wrap64 (a1)))) - (wrap64 (1 - t101)))) ≥ 0))).bind fun t102 => ((alu_put.f t102 64 ((Go.bits .and .u8 (Go.bits .and .u8 (Go.bits .xor .u8 a0 a1) (Go.bits .xor .u8 a0 ((wrap64 ((wrap64 ((wrap64 (a0)) - (wrap64 (a1)))) - (wrap64 (1 - t101)))) % 256))) 128) != 0)).bind fun t103 => ((alu_Nz.f ((wrap64 ((wrap64 ((wrap64 (a0)) - (wrap64 (a1)))) - (wrap64 (1 - t101)))) % 256) t103).bind fun t104 => (if (Go.bits .and .u8 a2 8) = 0 then (some ((wrap64 ((wrap64 ((wrap64 (a0)) - (wrap64 (a1)))) - (wrap64 (1 - t101)))) % 256, t104)) else (if (wrap64 ((wrap64 ((wrap64 (Go.bits .and .u8 a0 15)) - (wrap64 (Go.bits .and .u8 a1 15)))) - (wrap64 (1 - t101)))) < 0 then (if (wrap64 ((wrap64 ((wrap64 (Go.bits .and .u8 a0 240)) - (wrap64 (Go.bits .and .u8 a1 240)))) + (wrap64 ((Go.bits .and .i64 (wrap64 ((wrap64 ((wrap64 ((wrap64 (Go.bits .and .u8 a0 15)) - (wrap64 (Go.bits .and .u8 a1 15)))) - (wrap64 (1 - t101)))) - 6)) 15) - 16)))) < 0 then (some ((wrap64 ((wrap64 ((wrap64 ((wrap64 (Go.bits .and .u8 a0 240)) - (wrap64 (Go.bits .and .u8 a1 240)))) + (wrap64 ((Go.bits .and .i64 (wrap64 ((wrap64 ((wrap64 ((wrap64 (Go.bits .and .u8 a0 15)) - (wrap64 (Go.bits .and .u8 a1 15)))) - (wrap64 (1 - t101)))) - 6)) 15) - 16)))) - 96)) % 256, t104)) else (some ((wrap64 ((wrap64 ((wrap64 (Go.bits .and .u8 a0 240)) - (wrap64 (Go.bits .and .u8 a1 240)))) + (wrap64 ((Go.bits .and .i64 (wrap64 ((wrap64 ((wrap64 ((wrap64 (Go.bits .and .u8 a0 15)) - (wrap64 (Go.bits .and .u8 a1 15)))) - (wrap64 (1 - t101)))) - 6)) 15) - 16)))) % 256, t104))) else (if (wrap64 ((wrap64 ((wrap64 (Go.bits .and .u8 a0 240)) - (wrap64 (Go.bits .and .u8 a1 240)))) + (wrap64 ((wrap64 ((wrap64 (Go.bits .and .u8 a0 15)) - (wrap64 (Go.bits .and .u8 a1 15)))) - (wrap64 (1 - t101)))))) < 0 then (some ((wrap64 ((wrap64 ((wrap64 ((wrap64 (Go.bits .and .u8 a0 240)) - (wrap64 (Go.bits .and .u8 a1 240)))) + (wrap64 ((wrap64 ((wrap64 (Go.bits .and .u8 a0 15)) - (wrap64 (Go.bits .and .u8 a1 15)))) - (wrap64 (1 - t101)))))) - 96)) % 256, t104)) else (some ((wrap64 ((wrap64 ((wrap64 (Go.bits .and .u8 a0 240)) - (wrap64 (Go.bits .and .u8 a1 240)))) + (wrap64 ((wrap64 ((wrap64 (Go.bits .and .u8 a0 15)) - (wrap64 (Go.bits .and .u8 a1 15)))) - (wrap64 (1 - t101)))))) % 256, t104)))))))) = some (r1, r2) := H
  have A4 := Aside0.mk A40
  clear A40
  replace H := Option.bind_eq_some_iff.mp H
  obtain ⟨t102, A50, H⟩ := H
  replace H : ((alu_put.f t102 64 ((Go.bits .and .u8 (Go.bits .and .u8 (Go.bits .xor .u8 a0 a1) (Go.bits .xor .u8 a0 ((wrap64 ((wrap64 ((wrap64 (a0)) - (wrap64 (a1)))) - (wrap64 (1 - t101)))) % 256))) 128) != 0)).bind fun t103 => ((alu_Nz.f ((wrap64 ((wrap64 ((wrap64 (a0)) - (wrap64 (a1)))) - (wrap64 (1 - t101)))) % 256) t103).bind fun t104 => (if (Go.bits .and .u8 a2 8) = 0 then (some ((wrap64 ((wrap64 ((wrap64 (a0)) - (wrap64 (a1)))) - (wrap64 (1 - t101)))) % 256, t104)) else (if (wrap64 ((wrap64 ((wrap64 (Go.bits .and .u8 a0 15)) - (wrap64 (Go.bits .and .u8 a1 15)))) - (wrap64 (1 - t101)))) < 0 then (if (wrap64 ((wrap64 ((wrap64 (Go.bits .and .u8 a0 240)) - (wrap64 (Go.bits .and .u8 a1 240)))) + (wrap64 ((Go.bits .and .i64 (wrap64 ((wrap64 ((wrap64 ((wrap64 (Go.bits .and .u8 a0 15)) - (wrap64 (Go.bits .and .u8 a1 15)))) - (wrap64 (1 - t101)))) - 6)) 15) - 16)))) < 0 then (some ((wrap64 ((wrap64 ((wrap64 ((wrap64 (Go.bits .and .u8 a0 240)) - (wrap64 (Go.bits .and .u8 a1 240)))) + (wrap64 ((Go.bits .and .i64 (wrap64 ((wrap64 ((wrap64 ((wrap64 (Go.bits .and .u8 a0 15)) - (wrap64 (Go.bits .and .u8 a1 15)))) - (wrap64 (1 - t101)))) - 6)) 15) - 16)))) - 96)) % 256, t104)) else (some ((wrap64 ((wrap64 ((wrap64 (Go.bits .and .u8 a0 240)) - (wrap64 (Go.bits .and .u8 a1 240)))) + (wrap64 ((Go.bits .and .i64 (wrap64 ((wrap64 ((wrap64 ((wrap64 (Go.bits .and .u8 a0 15)) - (wrap64 (Go.bits .and .u8 a1 15)))) - (wrap64 (1 - t101)))) - 6)) 15) - 16)))) % 256, t104))) else (if (wrap64 ((wrap64 ((wrap64 (Go.bits .and .u8 a0 240)) - (wrap64 (Go.bits .and .u8 a1 240)))) + (wrap64 ((wrap64 ((wrap64 (Go.bits .and .u8 a0 15)) - (wrap64 (Go.bits .and .u8 a1 15)))) - (wrap64 (1 - t101)))))) < 0 then (some ((wrap64 ((wrap64 ((wrap64 ((wrap64 (Go.bits .and .u8 a0 240)) - (wrap64 (Go.bits .and .u8 a1 240)))) + (wrap64 ((wrap64 ((wrap64 (Go.bits .and .u8 a0 15)) - (wrap64 (Go.bits .and .u8 a1 15)))) - (wrap64 (1 - t101)))))) - 96)) % 256, t104)) else (some ((wrap64 ((wrap64 ((wrap64 (Go.bits .and .u8 a0 240)) - (wrap64 (Go.bits .and .u8 a1 240)))) + (wrap64 ((wrap64 ((wrap64 (Go.bits .and .u8 a0 15)) - (wrap64 (Go.bits .and .u8 a1 15)))) - (wrap64 (1 - t101)))))) % 256, t104))))))) = some (r1, r2) := H
  have A5 := Aside0.mk A50
  clear A50
  replace H := Option.bind_eq_some_iff.mp H
  obtain ⟨t103, A60, H⟩ := H
  replace H : ((alu_Nz.f ((wrap64 ((wrap64 ((wrap64 (a0)) - (wrap64 (a1)))) - (wrap64 (1 - t101)))) % 256) t103).bind fun t104 => (if (Go.bits .and .u8 a2 8) = 0 then (some ((wrap64 ((wrap64 ((wrap64 (a0)) - (wrap64 (a1)))) - (wrap64 (1 - t101)))) % 256, t104)) else (if (wrap64 ((wrap64 ((wrap64 (Go.bits .and .u8 a0 15)) - (wrap64 (Go.bits .and .u8 a1 15)))) - (wrap64 (1 - t101)))) < 0 then (if (wrap64 ((wrap64 ((wrap64 (Go.bits .and .u8 a0 240)) - (wrap64 (Go.bits .and .u8 a1 240)))) + (wrap64 ((Go.bits .and .i64 (wrap64 ((wrap64 ((wrap64 ((wrap64 (Go.bits .and .u8 a0 15)) - (wrap64 (Go.bits .and .u8 a1 15)))) - (wrap64 (1 - t101)))) - 6)) 15) - 16)))) < 0 then (some ((wrap64 ((wrap64 ((wrap64 ((wrap64 (Go.bits .and .u8 a0 240)) - (wrap64 (Go.bits .and .u8 a1 240)))) + (wrap64 ((Go.bits .and .i64 (wrap64 ((wrap64 ((wrap64 ((wrap64 (Go.bits .and .u8 a0 15)) - (wrap64 (Go.bits .and .u8 a1 15)))) - (wrap64 (1 - t101)))) - 6)) 15) - 16)))) - 96)) % 256, t104)) else (some ((wrap64 ((wrap64 ((wrap64 (Go.bits .and .u8 a0 240)) - (wrap64 (Go.bits .and .u8 a1 240)))) + (wrap64 ((Go.bits .and .i64 (wrap64 ((wrap64 ((wrap64 ((wrap64 (Go.bits .and .u8 a0 15)) - (wrap64 (Go.bits .and .u8 a1 15)))) - (wrap64 (1 - t101)))) - 6)) 15) - 16)))) % 256, t104))) else (if (wrap64 ((wrap64 ((wrap64 (Go.bits .and .u8 a0 240)) - (wrap64 (Go.bits .and .u8 a1 240)))) + (wrap64 ((wrap64 ((wrap64 (Go.bits .and .u8 a0 15)) - (wrap64 (Go.bits .and .u8 a1 15)))) - (wrap64 (1 - t101)))))) < 0 then (some ((wrap64 ((wrap64 ((wrap64 ((wrap64 (Go.bits .and .u8 a0 240)) - (wrap64 (Go.bits .and .u8 a1 240)))) + (wrap64 ((wrap64 ((wrap64 (Go.bits .and .u8 a0 15)) - (wrap64 (Go.bits .and .u8 a1 15)))) - (wrap64 (1 - t101)))))) - 96)) % 256, t104)) else (some ((wrap64 ((wrap64 ((wrap64 (Go.bits .and .u8 a0 240)) - (wrap64 (Go.bits .and .u8 a1 240)))) + (wrap64 ((wrap64 ((wrap64 (Go.bits .and .u8 a0 15)) - (wrap64 (Go.bits .and .u8 a1 15)))) - (wrap64 (1 - t101)))))) % 256, t104)))))) = some (r1, r2) := H
  have A6 := Aside0.mk A60
  clear A60
  replace H := Option.bind_eq_some_iff.mp H
  obtain ⟨t104, A70, H⟩ := H
  replace H : (if (Go.bits .and .u8 a2 8) = 0 then (some ((wrap64 ((wrap64 ((wrap64 (a0)) - (wrap64 (a1)))) - (wrap64 (1 - t101)))) % 256, t104)) else (if (wrap64 ((wrap64 ((wrap64 (Go.bits .and .u8 a0 15)) - (wrap64 (Go.bits .and .u8 a1 15)))) - (wrap64 (1 - t101)))) < 0 then (if (wrap64 ((wrap64 ((wrap64 (Go.bits .and .u8 a0 240)) - (wrap64 (Go.bits .and .u8 a1 240)))) + (wrap64 ((Go.bits .and .i64 (wrap64 ((wrap64 ((wrap64 ((wrap64 (Go.bits .and .u8 a0 15)) - (wrap64 (Go.bits .and .u8 a1 15)))) - (wrap64 (1 - t101)))) - 6)) 15) - 16)))) < 0 then (some ((wrap64 ((wrap64 ((wrap64 ((wrap64 (Go.bits .and .u8 a0 240)) - (wrap64 (Go.bits .and .u8 a1 240)))) + (wrap64 ((Go.bits .and .i64 (wrap64 ((wrap64 ((wrap64 ((wrap64 (Go.bits .and .u8 a0 15)) - (wrap64 (Go.bits .and .u8 a1 15)))) - (wrap64 (1 - t101)))) - 6)) 15) - 16)))) - 96)) % 256, t104)) else (some ((wrap64 ((wrap64 ((wrap64 (Go.bits .and .u8 a0 240)) - (wrap64 (Go.bits .and .u8 a1 240)))) + (wrap64 ((Go.bits .and .i64 (wrap64 ((wrap64 ((wrap64 ((wrap64 (Go.bits .and .u8 a0 15)) - (wrap64 (Go.bits .and .u8 a1 15)))) - (wrap64 (1 - t101)))) - 6)) 15) - 16)))) % 256, t104))) else (if (wrap64 ((wrap64 ((wrap64 (Go.bits .and .u8 a0 240)) - (wrap64 (Go.bits .and .u8 a1 240)))) + (wrap64 ((wrap64 ((wrap64 (Go.bits .and .u8 a0 15)) - (wrap64 (Go.bits .and .u8 a1 15)))) - (wrap64 (1 - t101)))))) < 0 then (some ((wrap64 ((wrap64 ((wrap64 ((wrap64 (Go.bits .and .u8 a0 240)) - (wrap64 (Go.bits .and .u8 a1 240)))) + (wrap64 ((wrap64 ((wrap64 (Go.bits .and .u8 a0 15)) - (wrap64 (Go.bits .and .u8 a1 15)))) - (wrap64 (1 - t101)))))) - 96)) % 256, t104)) else (some ((wrap64 ((wrap64 ((wrap64 (Go.bits .and .u8 a0 240)) - (wrap64 (Go.bits .and .u8 a1 240)))) + (wrap64 ((wrap64 ((wrap64 (Go.bits .and .u8 a0 15)) - (wrap64 (Go.bits .and .u8 a1 15)))) - (wrap64 (1 - t101)))))) % 256, t104))))) = some (r1, r2) := H
  have A7 := Aside0.mk A70
  clear A70
  by_cases c8 : (Go.bits .and .u8 a2 8) = 0
  · rw [if_pos c8] at H
    have c8b0 : ((Go.bits .and .u8 a2 8) == 0) = true := beq_iff_eq.mpr c8
    have c8b1 : ((Go.bits .and .u8 a2 8) != 0) = false := bne_eq_false_iff_eq.mpr c8
    clear c8
    simp only [Option.some.injEq, Prod.mk.injEq] at H
    obtain ⟨rfl, rfl⟩ := H
    go_enter Try.func16, Try.ntmps16
    go_wp2_with (first | ((with_reducible refine gate_callee (f := 37) rfl ?_); refine goesL_ (some 15) rfl rfl Try.func37 (by kernel_rfl) rfl #[.int .u8 a2] rfl (by (try simp only [List.map_toArray, List.map_cons, List.map_nil]); first | done | rfl | (simp only [List.length_drop, List.length_take]; rfl)) ?_; (with_reducible refine (alu_carry.calls a2 t101 _ A4.out).mono ?_); rintro e w' ⟨rfl, ⟨nd, rfl⟩⟩; refine ⟨_, rfl, ?_⟩) | ((with_reducible refine gate_callee (f := 36) rfl ?_); refine goesL_ (some 29) rfl rfl Try.func36 (by kernel_rfl) rfl #[.int .u8 a2, .int .u8 1, .bool (decide ((wrap64 ((wrap64 ((wrap64 (a0)) - (wrap64 (a1)))) - (wrap64 (1 - t101)))) ≥ 0))] rfl (by (try simp only [List.map_toArray, List.map_cons, List.map_nil]); first | done | rfl | (simp only [List.length_drop, List.length_take]; rfl)) ?_; (with_reducible refine (alu_put.calls a2 1 (decide ((wrap64 ((wrap64 ((wrap64 (a0)) - (wrap64 (a1)))) - (wrap64 (1 - t101)))) ≥ 0)) t102 _ A5.out).mono ?_); rintro e w' ⟨rfl, ⟨nd, rfl⟩⟩; refine ⟨_, rfl, ?_⟩) | ((with_reducible refine gate_callee (f := 36) rfl ?_); refine goesL_ (some 40) rfl rfl Try.func36 (by kernel_rfl) rfl #[.int .u8 t102, .int .u8 64, .bool ((Go.bits .and .u8 (Go.bits .and .u8 (Go.bits .xor .u8 a0 a1) (Go.bits .xor .u8 a0 ((wrap64 ((wrap64 ((wrap64 (a0)) - (wrap64 (a1)))) - (wrap64 (1 - t101)))) % 256))) 128) != 0)] rfl (by (try simp only [List.map_toArray, List.map_cons, List.map_nil]); first | done | rfl | (simp only [List.length_drop, List.length_take]; rfl)) ?_; (with_reducible refine (alu_put.calls t102 64 ((Go.bits .and .u8 (Go.bits .and .u8 (Go.bits .xor .u8 a0 a1) (Go.bits .xor .u8 a0 ((wrap64 ((wrap64 ((wrap64 (a0)) - (wrap64 (a1)))) - (wrap64 (1 - t101)))) % 256))) 128) != 0) t103 _ A6.out).mono ?_); rintro e w' ⟨rfl, ⟨nd, rfl⟩⟩; refine ⟨_, rfl, ?_⟩) | ((with_reducible refine gate_callee (f := 25) rfl ?_); refine goesL_ (some 43) rfl rfl Try.func25 (by kernel_rfl) rfl #[.int .u8 ((wrap64 ((wrap64 ((wrap64 (a0)) - (wrap64 (a1)))) - (wrap64 (1 - t101)))) % 256), .int .u8 t103] rfl (by (try simp only [List.map_toArray, List.map_cons, List.map_nil]); first | done | rfl | (simp only [List.length_drop, List.length_take]; rfl)) ?_; (with_reducible refine (alu_Nz.calls ((wrap64 ((wrap64 ((wrap64 (a0)) - (wrap64 (a1)))) - (wrap64 (1 - t101)))) % 256) t103 t104 _ A7.out).mono ?_); rintro e w' ⟨rfl, ⟨nd, rfl⟩⟩; refine ⟨_, rfl, ?_⟩))
    go_ret2
    exact ⟨by first | rfl | (simp; done) | (simp [*]; done), by repeat (first | exact Drawn0.refl _ | apply Drawn0.step)⟩
  · rw [if_neg c8] at H
    have c8b0 : ((Go.bits .and .u8 a2 8) == 0) = false := beq_eq_false_iff_ne.mpr c8
    have c8b1 : ((Go.bits .and .u8 a2 8) != 0) = true := bne_iff_ne.mpr c8
    by_cases c9 : (wrap64 ((wrap64 ((wrap64 (Go.bits .and .u8 a0 15)) - (wrap64 (Go.bits .and .u8 a1 15)))) - (wrap64 (1 - t101)))) < 0
    · rw [if_pos c9] at H
      have c9b0 : decide ((wrap64 ((wrap64 ((wrap64 (Go.bits .and .u8 a0 15)) - (wrap64 (Go.bits .and .u8 a1 15)))) - (wrap64 (1 - t101)))) < 0) = true := decide_eq_true c9
      clear c9
      by_cases c10 : (wrap64 ((wrap64 ((wrap64 (Go.bits .and .u8 a0 240)) - (wrap64 (Go.bits .and .u8 a1 240)))) + (wrap64 ((Go.bits .and .i64 (wrap64 ((wrap64 ((wrap64 ((wrap64 (Go.bits .and .u8 a0 15)) - (wrap64 (Go.bits .and .u8 a1 15)))) - (wrap64 (1 - t101)))) - 6)) 15) - 16)))) < 0
      · rw [if_pos c10] at H
        have c10b0 : decide ((wrap64 ((wrap64 ((wrap64 (Go.bits .and .u8 a0 240)) - (wrap64 (Go.bits .and .u8 a1 240)))) + (wrap64 ((Go.bits .and .i64 (wrap64 ((wrap64 ((wrap64 ((wrap64 (Go.bits .and .u8 a0 15)) - (wrap64 (Go.bits .and .u8 a1 15)))) - (wrap64 (1 - t101)))) - 6)) 15) - 16)))) < 0) = true := decide_eq_true c10
        clear c10
        simp only [Option.some.injEq, Prod.mk.injEq] at H
        obtain ⟨rfl, rfl⟩ := H
        go_enter Try.func16, Try.ntmps16
        go_wp2_with (first | ((with_reducible refine gate_callee (f := 37) rfl ?_); refine goesL_ (some 15) rfl rfl Try.func37 (by kernel_rfl) rfl #[.int .u8 a2] rfl (by (try simp only [List.map_toArray, List.map_cons, List.map_nil]); first | done | rfl | (simp only [List.length_drop, List.length_take]; rfl)) ?_; (with_reducible refine (alu_carry.calls a2 t101 _ A4.out).mono ?_); rintro e w' ⟨rfl, ⟨nd, rfl⟩⟩; refine ⟨_, rfl, ?_⟩) | ((with_reducible refine gate_callee (f := 36) rfl ?_); refine goesL_ (some 29) rfl rfl Try.func36 (by kernel_rfl) rfl #[.int .u8 a2, .int .u8 1, .bool (decide ((wrap64 ((wrap64 ((wrap64 (a0)) - (wrap64 (a1)))) - (wrap64 (1 - t101)))) ≥ 0))] rfl (by (try simp only [List.map_toArray, List.map_cons, List.map_nil]); first | done | rfl | (simp only [List.length_drop, List.length_take]; rfl)) ?_; (with_reducible refine (alu_put.calls a2 1 (decide ((wrap64 ((wrap64 ((wrap64 (a0)) - (wrap64 (a1)))) - (wrap64 (1 - t101)))) ≥ 0)) t102 _ A5.out).mono ?_); rintro e w' ⟨rfl, ⟨nd, rfl⟩⟩; refine ⟨_, rfl, ?_⟩) | ((with_reducible refine gate_callee (f := 36) rfl ?_); refine goesL_ (some 40) rfl rfl Try.func36 (by kernel_rfl) rfl #[.int .u8 t102, .int .u8 64, .bool ((Go.bits .and .u8 (Go.bits .and .u8 (Go.bits .xor .u8 a0 a1) (Go.bits .xor .u8 a0 ((wrap64 ((wrap64 ((wrap64 (a0)) - (wrap64 (a1)))) - (wrap64 (1 - t101)))) % 256))) 128) != 0)] rfl (by (try simp only [List.map_toArray, List.map_cons, List.map_nil]); first | done | rfl | (simp only [List.length_drop, List.length_take]; rfl)) ?_; (with_reducible refine (alu_put.calls t102 64 ((Go.bits .and .u8 (Go.bits .and .u8 (Go.bits .xor .u8 a0 a1) (Go.bits .xor .u8 a0 ((wrap64 ((wrap64 ((wrap64 (a0)) - (wrap64 (a1)))) - (wrap64 (1 - t101)))) % 256))) 128) != 0) t103 _ A6.out).mono ?_); rintro e w' ⟨rfl, ⟨nd, rfl⟩⟩; refine ⟨_, rfl, ?_⟩) | ((with_reducible refine gate_callee (f := 25) rfl ?_); refine goesL_ (some 43) rfl rfl Try.func25 (by kernel_rfl) rfl #[.int .u8 ((wrap64 ((wrap64 ((wrap64 (a0)) - (wrap64 (a1)))) - (wrap64 (1 - t101)))) % 256), .int .u8 t103] rfl (by (try simp only [List.map_toArray, List.map_cons, List.map_nil]); first | done | rfl | (simp only [List.length_drop, List.length_take]; rfl)) ?_; (with_reducible refine (alu_Nz.calls ((wrap64 ((wrap64 ((wrap64 (a0)) - (wrap64 (a1)))) - (wrap64 (1 - t101)))) % 256) t103 t104 _ A7.out).mono ?_); rintro e w' ⟨rfl, ⟨nd, rfl⟩⟩; refine ⟨_, rfl, ?_⟩))
        go_ret2
        exact ⟨by first | rfl | (simp; done) | (simp [*]; done), by repeat (first | exact Drawn0.refl _ | apply Drawn0.step)⟩
      · rw [if_neg c10] at H
        have c10b0 : decide ((wrap64 ((wrap64 ((wrap64 (Go.bits .and .u8 a0 240)) - (wrap64 (Go.bits .and .u8 a1 240)))) + (wrap64 ((Go.bits .and .i64 (wrap64 ((wrap64 ((wrap64 ((wrap64 (Go.bits .and .u8 a0 15)) - (wrap64 (Go.bits .and .u8 a1 15)))) - (wrap64 (1 - t101)))) - 6)) 15) - 16)))) < 0) = false := decide_eq_false c10
        clear c10
        simp only [Option.some.injEq, Prod.mk.injEq] at H
        obtain ⟨rfl, rfl⟩ := H
        go_enter Try.func16, Try.ntmps16
        go_wp2_with (first | ((with_reducible refine gate_callee (f := 37) rfl ?_); refine goesL_ (some 15) rfl rfl Try.func37 (by kernel_rfl) rfl #[.int .u8 a2] rfl (by (try simp only [List.map_toArray, List.map_cons, List.map_nil]); first | done | rfl | (simp only [List.length_drop, List.length_take]; rfl)) ?_; (with_reducible refine (alu_carry.calls a2 t101 _ A4.out).mono ?_); rintro e w' ⟨rfl, ⟨nd, rfl⟩⟩; refine ⟨_, rfl, ?_⟩) | ((with_reducible refine gate_callee (f := 36) rfl ?_); refine goesL_ (some 29) rfl rfl Try.func36 (by kernel_rfl) rfl #[.int .u8 a2, .int .u8 1, .bool (decide ((wrap64 ((wrap64 ((wrap64 (a0)) - (wrap64 (a1)))) - (wrap64 (1 - t101)))) ≥ 0))] rfl (by (try simp only [List.map_toArray, List.map_cons, List.map_nil]); first | done | rfl | (simp only [List.length_drop, List.length_take]; rfl)) ?_; (with_reducible refine (alu_put.calls a2 1 (decide ((wrap64 ((wrap64 ((wrap64 (a0)) - (wrap64 (a1)))) - (wrap64 (1 - t101)))) ≥ 0)) t102 _ A5.out).mono ?_); rintro e w' ⟨rfl, ⟨nd, rfl⟩⟩; refine ⟨_, rfl, ?_⟩) | ((with_reducible refine gate_callee (f := 36) rfl ?_); refine goesL_ (some 40) rfl rfl Try.func36 (by kernel_rfl) rfl #[.int .u8 t102, .int .u8 64, .bool ((Go.bits .and .u8 (Go.bits .and .u8 (Go.bits .xor .u8 a0 a1) (Go.bits .xor .u8 a0 ((wrap64 ((wrap64 ((wrap64 (a0)) - (wrap64 (a1)))) - (wrap64 (1 - t101)))) % 256))) 128) != 0)] rfl (by (try simp only [List.map_toArray, List.map_cons, List.map_nil]); first | done | rfl | (simp only [List.length_drop, List.length_take]; rfl)) ?_; (with_reducible refine (alu_put.calls t102 64 ((Go.bits .and .u8 (Go.bits .and .u8 (Go.bits .xor .u8 a0 a1) (Go.bits .xor .u8 a0 ((wrap64 ((wrap64 ((wrap64 (a0)) - (wrap64 (a1)))) - (wrap64 (1 - t101)))) % 256))) 128) != 0) t103 _ A6.out).mono ?_); rintro e w' ⟨rfl, ⟨nd, rfl⟩⟩; refine ⟨_, rfl, ?_⟩) | ((with_reducible refine gate_callee (f := 25) rfl ?_); refine goesL_ (some 43) rfl rfl Try.func25 (by kernel_rfl) rfl #[.int .u8 ((wrap64 ((wrap64 ((wrap64 (a0)) - (wrap64 (a1)))) - (wrap64 (1 - t101)))) % 256), .int .u8 t103] rfl (by (try simp only [List.map_toArray, List.map_cons, List.map_nil]); first | done | rfl | (simp only [List.length_drop, List.length_take]; rfl)) ?_; (with_reducible refine (alu_Nz.calls ((wrap64 ((wrap64 ((wrap64 (a0)) - (wrap64 (a1)))) - (wrap64 (1 - t101)))) % 256) t103 t104 _ A7.out).mono ?_); rintro e w' ⟨rfl, ⟨nd, rfl⟩⟩; refine ⟨_, rfl, ?_⟩))
        go_ret2
        exact ⟨by first | rfl | (simp; done) | (simp [*]; done), by repeat (first | exact Drawn0.refl _ | apply Drawn0.step)⟩
    · rw [if_neg c9] at H
      have c9b0 : decide ((wrap64 ((wrap64 ((wrap64 (Go.bits .and .u8 a0 15)) - (wrap64 (Go.bits .and .u8 a1 15)))) - (wrap64 (1 - t101)))) < 0) = false := decide_eq_false c9
      clear c9
      by_cases c11 : (wrap64 ((wrap64 ((wrap64 (Go.bits .and .u8 a0 240)) - (wrap64 (Go.bits .and .u8 a1 240)))) + (wrap64 ((wrap64 ((wrap64 (Go.bits .and .u8 a0 15)) - (wrap64 (Go.bits .and .u8 a1 15)))) - (wrap64 (1 - t101)))))) < 0
      · rw [if_pos c11] at H
        have c11b0 : decide ((wrap64 ((wrap64 ((wrap64 (Go.bits .and .u8 a0 240)) - (wrap64 (Go.bits .and .u8 a1 240)))) + (wrap64 ((wrap64 ((wrap64 (Go.bits .and .u8 a0 15)) - (wrap64 (Go.bits .and .u8 a1 15)))) - (wrap64 (1 - t101)))))) < 0) = true := decide_eq_true c11
        clear c11
        simp only [Option.some.injEq, Prod.mk.injEq] at H
        obtain ⟨rfl, rfl⟩ := H
        go_enter Try.func16, Try.ntmps16
        go_wp2_with (first | ((with_reducible refine gate_callee (f := 37) rfl ?_); refine goesL_ (some 15) rfl rfl Try.func37 (by kernel_rfl) rfl #[.int .u8 a2] rfl (by (try simp only [List.map_toArray, List.map_cons, List.map_nil]); first | done | rfl | (simp only [List.length_drop, List.length_take]; rfl)) ?_; (with_reducible refine (alu_carry.calls a2 t101 _ A4.out).mono ?_); rintro e w' ⟨rfl, ⟨nd, rfl⟩⟩; refine ⟨_, rfl, ?_⟩) | ((with_reducible refine gate_callee (f := 36) rfl ?_); refine goesL_ (some 29) rfl rfl Try.func36 (by kernel_rfl) rfl #[.int .u8 a2, .int .u8 1, .bool (decide ((wrap64 ((wrap64 ((wrap64 (a0)) - (wrap64 (a1)))) - (wrap64 (1 - t101)))) ≥ 0))] rfl (by (try simp only [List.map_toArray, List.map_cons, List.map_nil]); first | done | rfl | (simp only [List.length_drop, List.length_take]; rfl)) ?_; (with_reducible refine (alu_put.calls a2 1 (decide ((wrap64 ((wrap64 ((wrap64 (a0)) - (wrap64 (a1)))) - (wrap64 (1 - t101)))) ≥ 0)) t102 _ A5.out).mono ?_); rintro e w' ⟨rfl, ⟨nd, rfl⟩⟩; refine ⟨_, rfl, ?_⟩) | ((with_reducible refine gate_callee (f := 36) rfl ?_); refine goesL_ (some 40) rfl rfl Try.func36 (by kernel_rfl) rfl #[.int .u8 t102, .int .u8 64, .bool ((Go.bits .and .u8 (Go.bits .and .u8 (Go.bits .xor .u8 a0 a1) (Go.bits .xor .u8 a0 ((wrap64 ((wrap64 ((wrap64 (a0)) - (wrap64 (a1)))) - (wrap64 (1 - t101)))) % 256))) 128) != 0)] rfl (by (try simp only [List.map_toArray, List.map_cons, List.map_nil]); first | done | rfl | (simp only [List.length_drop, List.length_take]; rfl)) ?_; (with_reducible refine (alu_put.calls t102 64 ((Go.bits .and .u8 (Go.bits .and .u8 (Go.bits .xor .u8 a0 a1) (Go.bits .xor .u8 a0 ((wrap64 ((wrap64 ((wrap64 (a0)) - (wrap64 (a1)))) - (wrap64 (1 - t101)))) % 256))) 128) != 0) t103 _ A6.out).mono ?_); rintro e w' ⟨rfl, ⟨nd, rfl⟩⟩; refine ⟨_, rfl, ?_⟩) | ((with_reducible refine gate_callee (f := 25) rfl ?_); refine goesL_ (some 43) rfl rfl Try.func25 (by kernel_rfl) rfl #[.int .u8 ((wrap64 ((wrap64 ((wrap64 (a0)) - (wrap64 (a1)))) - (wrap64 (1 - t101)))) % 256), .int .u8 t103] rfl (by (try simp only [List.map_toArray, List.map_cons, List.map_nil]); first | done | rfl | (simp only [List.length_drop, List.length_take]; rfl)) ?_; (with_reducible refine (alu_Nz.calls ((wrap64 ((wrap64 ((wrap64 (a0)) - (wrap64 (a1)))) - (wrap64 (1 - t101)))) % 256) t103 t104 _ A7.out).mono ?_); rintro e w' ⟨rfl, ⟨nd, rfl⟩⟩; refine ⟨_, rfl, ?_⟩))
        go_ret2
        exact ⟨by first | rfl | (simp; done) | (simp [*]; done), by repeat (first | exact Drawn0.refl _ | apply Drawn0.step)⟩
      · rw [if_neg c11] at H
        have c11b0 : decide ((wrap64 ((wrap64 ((wrap64 (Go.bits .and .u8 a0 240)) - (wrap64 (Go.bits .and .u8 a1 240)))) + (wrap64 ((wrap64 ((wrap64 (Go.bits .and .u8 a0 15)) - (wrap64 (Go.bits .and .u8 a1 15)))) - (wrap64 (1 - t101)))))) < 0) = false := decide_eq_false c11
        clear c11
        simp only [Option.some.injEq, Prod.mk.injEq] at H
        obtain ⟨rfl, rfl⟩ := H
        go_enter Try.func16, Try.ntmps16
        go_wp2_with (first | ((with_reducible refine gate_callee (f := 37) rfl ?_); refine goesL_ (some 15) rfl rfl Try.func37 (by kernel_rfl) rfl #[.int .u8 a2] rfl (by (try simp only [List.map_toArray, List.map_cons, List.map_nil]); first | done | rfl | (simp only [List.length_drop, List.length_take]; rfl)) ?_; (with_reducible refine (alu_carry.calls a2 t101 _ A4.out).mono ?_); rintro e w' ⟨rfl, ⟨nd, rfl⟩⟩; refine ⟨_, rfl, ?_⟩) | ((with_reducible refine gate_callee (f := 36) rfl ?_); refine goesL_ (some 29) rfl rfl Try.func36 (by kernel_rfl) rfl #[.int .u8 a2, .int .u8 1, .bool (decide ((wrap64 ((wrap64 ((wrap64 (a0)) - (wrap64 (a1)))) - (wrap64 (1 - t101)))) ≥ 0))] rfl (by (try simp only [List.map_toArray, List.map_cons, List.map_nil]); first | done | rfl | (simp only [List.length_drop, List.length_take]; rfl)) ?_; (with_reducible refine (alu_put.calls a2 1 (decide ((wrap64 ((wrap64 ((wrap64 (a0)) - (wrap64 (a1)))) - (wrap64 (1 - t101)))) ≥ 0)) t102 _ A5.out).mono ?_); rintro e w' ⟨rfl, ⟨nd, rfl⟩⟩; refine ⟨_, rfl, ?_⟩) | ((with_reducible refine gate_callee (f := 36) rfl ?_); refine goesL_ (some 40) rfl rfl Try.func36 (by kernel_rfl) rfl #[.int .u8 t102, .int .u8 64, .bool ((Go.bits .and .u8 (Go.bits .and .u8 (Go.bits .xor .u8 a0 a1) (Go.bits .xor .u8 a0 ((wrap64 ((wrap64 ((wrap64 (a0)) - (wrap64 (a1)))) - (wrap64 (1 - t101)))) % 256))) 128) != 0)] rfl (by (try simp only [List.map_toArray, List.map_cons, List.map_nil]); first | done | rfl | (simp only [List.length_drop, List.length_take]; rfl)) ?_; (with_reducible refine (alu_put.calls t102 64 ((Go.bits .and .u8 (Go.bits .and .u8 (Go.bits .xor .u8 a0 a1) (Go.bits .xor .u8 a0 ((wrap64 ((wrap64 ((wrap64 (a0)) - (wrap64 (a1)))) - (wrap64 (1 - t101)))) % 256))) 128) != 0) t103 _ A6.out).mono ?_); rintro e w' ⟨rfl, ⟨nd, rfl⟩⟩; refine ⟨_, rfl, ?_⟩) | ((with_reducible refine gate_callee (f := 25) rfl ?_); refine goesL_ (some 43) rfl rfl Try.func25 (by kernel_rfl) rfl #[.int .u8 ((wrap64 ((wrap64 ((wrap64 (a0)) - (wrap64 (a1)))) - (wrap64 (1 - t101)))) % 256), .int .u8 t103] rfl (by (try simp only [List.map_toArray, List.map_cons, List.map_nil]); first | done | rfl | (simp only [List.length_drop, List.length_take]; rfl)) ?_; (with_reducible refine (alu_Nz.calls ((wrap64 ((wrap64 ((wrap64 (a0)) - (wrap64 (a1)))) - (wrap64 (1 - t101)))) % 256) t103 t104 _ A7.out).mono ?_); rintro e w' ⟨rfl, ⟨nd, rfl⟩⟩; refine ⟨_, rfl, ?_⟩))
        go_ret2
        exact ⟨by first | rfl | (simp; done) | (simp [*]; done), by repeat (first | exact Drawn0.refl _ | apply Drawn0.step)⟩

/-! ### tandemlaw3_with: function 18 -/
def tandemlaw3_with.f (a0 : Int) (a1 : Bool) (a2 : Bool) : Option (Int) := if a1 = true then (if a2 = true then (some (Go.bits .or .u8 (Go.bits .or .u8 (Go.bits .andNot .u8 a0 9) 1) 8)) else (some (Go.bits .or .u8 (Go.bits .andNot .u8 a0 9) 1))) else (if a2 = true then (some (Go.bits .or .u8 (Go.bits .andNot .u8 a0 9) 8)) else (some (Go.bits .andNot .u8 a0 9)))
set_option maxHeartbeats 8000000 in
set_option maxRecDepth 100000 in
theorem tandemlaw3_with.calls (a0 : Int) (a1 : Bool) (a2 : Bool) (r : Int) (w : World) (h : tandemlaw3_with.f a0 a1 a2 = some r) :
    Calls Try.prog 18 #[.int .u8 a0, .bool a1, .bool a2] w fun e w' => e = .returned (.int .u8 r) ∧ Drawn0 w w' := by
  have H : (if a1 = true then (if a2 = true then (some (Go.bits .or .u8 (Go.bits .or .u8 (Go.bits .andNot .u8 a0 9) 1) 8)) else (some (Go.bits .or .u8 (Go.bits .andNot .u8 a0 9) 1))) else (if a2 = true then (some (Go.bits .or .u8 (Go.bits .andNot .u8 a0 9) 8)) else (some (Go.bits .andNot .u8 a0 9)))) = some r := h
  clear h
  by_cases c4 : a1 = true
  · subst c4
    have H1 : (if a2 = true then (some (Go.bits .or .u8 (Go.bits .or .u8 (Go.bits .andNot .u8 a0 9) 1) 8)) else (some (Go.bits .or .u8 (Go.bits .andNot .u8 a0 9) 1))) = some r := by rw [if_pos rfl] at H; exact H
    clear H
    have H := H1
    clear H1
    by_cases c5 : a2 = true
    · subst c5
      have H1 : (some (Go.bits .or .u8 (Go.bits .or .u8 (Go.bits .andNot .u8 a0 9) 1) 8)) = some r := by rw [if_pos rfl] at H; exact H
      clear H
      have H := H1
      clear H1
      obtain rfl := Option.some.inj H
      go_enter Try.func18, Try.ntmps18
      go_wp2
      go_ret
      exact ⟨by first | rfl | (simp; done) | (simp [*]; done), by repeat (first | exact Drawn0.refl _ | apply Drawn0.step)⟩
    · replace c5 := Bool.eq_false_iff.mpr c5
      subst c5
      have H1 : (some (Go.bits .or .u8 (Go.bits .andNot .u8 a0 9) 1)) = some r := by rw [if_neg (show ¬ (false = true) by decide)] at H; exact H
      clear H
      have H := H1
      clear H1
      obtain rfl := Option.some.inj H
      go_enter Try.func18, Try.ntmps18
      go_wp2
      go_ret
      exact ⟨by first | rfl | (simp; done) | (simp [*]; done), by repeat (first | exact Drawn0.refl _ | apply Drawn0.step)⟩
  · replace c4 := Bool.eq_false_iff.mpr c4
    subst c4
    have H1 : (if a2 = true then (some (Go.bits .or .u8 (Go.bits .andNot .u8 a0 9) 8)) else (some (Go.bits .andNot .u8 a0 9))) = some r := by rw [if_neg (show ¬ (false = true) by decide)] at H; exact H
    clear H
    have H := H1
    clear H1
    by_cases c6 : a2 = true
    · subst c6
      have H1 : (some (Go.bits .or .u8 (Go.bits .andNot .u8 a0 9) 8)) = some r := by rw [if_pos rfl] at H; exact H
      clear H
      have H := H1
      clear H1
      obtain rfl := Option.some.inj H
      go_enter Try.func18, Try.ntmps18
      go_wp2
      go_ret
      exact ⟨by first | rfl | (simp; done) | (simp [*]; done), by repeat (first | exact Drawn0.refl _ | apply Drawn0.step)⟩
    · replace c6 := Bool.eq_false_iff.mpr c6
      subst c6
      have H1 : (some (Go.bits .andNot .u8 a0 9)) = some r := by rw [if_neg (show ¬ (false = true) by decide)] at H; exact H
      clear H
      have H := H1
      clear H1
      obtain rfl := Option.some.inj H
      go_enter Try.func18, Try.ntmps18
      go_wp2
      go_ret
      exact ⟨by first | rfl | (simp; done) | (simp [*]; done), by repeat (first | exact Drawn0.refl _ | apply Drawn0.step)⟩

/-! ### tandemlaw3_one: function 19 -/
def tandemlaw3_one.f (a0 : Bool) : Option (Int) := if a0 = true then (some 1) else (some 0)
set_option maxHeartbeats 8000000 in
set_option maxRecDepth 100000 in
theorem tandemlaw3_one.calls (a0 : Bool) (r : Int) (w : World) (h : tandemlaw3_one.f a0 = some r) :
    Calls Try.prog 19 #[.bool a0] w fun e w' => e = .returned (.int .i64 r) ∧ Drawn0 w w' := by
  have H : (if a0 = true then (some 1) else (some 0)) = some r := h
  clear h
  by_cases c2 : a0 = true
  · subst c2
    have H1 : (some 1) = some r := by rw [if_pos rfl] at H; exact H
    clear H
    have H := H1
    clear H1
    obtain rfl := Option.some.inj H
    go_enter Try.func19, Try.ntmps19
    go_wp2
    go_ret
    exact ⟨by first | rfl | (simp; done) | (simp [*]; done), by repeat (first | exact Drawn0.refl _ | apply Drawn0.step)⟩
  · replace c2 := Bool.eq_false_iff.mpr c2
    subst c2
    have H1 : (some 0) = some r := by rw [if_neg (show ¬ (false = true) by decide)] at H; exact H
    clear H
    have H := H1
    clear H1
    obtain rfl := Option.some.inj H
    go_enter Try.func19, Try.ntmps19
    go_wp2
    go_ret
    exact ⟨by first | rfl | (simp; done) | (simp [*]; done), by repeat (first | exact Drawn0.refl _ | apply Drawn0.step)⟩

/-! ### alu_Adc: function 22 -/
def alu_Adc.j0 : Nat → Int → Int → Int → Int → Int → Option (Int × Int)
  | 0, _, _, _, _, _ => none
  | k + 1, x0, x1, x2, x8, x10 => (alu_Nz.f ((wrap64 ((wrap64 ((wrap64 (Go.bits .and .u8 x0 240)) + (wrap64 (Go.bits .and .u8 x1 240)))) + x10)) % 256) x2).bind fun t110 => ((alu_put.f t110 64 ((Go.bits .and .u8 (Go.bits .and .u8 (Go.bits .xor .u8 x0 ((wrap64 ((wrap64 ((wrap64 (Go.bits .and .u8 x0 240)) + (wrap64 (Go.bits .and .u8 x1 240)))) + x10)) % 256)) (Go.bits .xor .u8 x1 ((wrap64 ((wrap64 ((wrap64 (Go.bits .and .u8 x0 240)) + (wrap64 (Go.bits .and .u8 x1 240)))) + x10)) % 256))) 128) != 0)).bind fun t111 => ((alu_put.f t111 2 (((x8) % 256) == 0)).bind fun t112 => (if (wrap64 ((wrap64 ((wrap64 (Go.bits .and .u8 x0 240)) + (wrap64 (Go.bits .and .u8 x1 240)))) + x10)) ≥ 160 then ((alu_put.f t112 1 (decide ((wrap64 ((wrap64 ((wrap64 ((wrap64 (Go.bits .and .u8 x0 240)) + (wrap64 (Go.bits .and .u8 x1 240)))) + x10)) + 96)) > 255))).bind fun t113 => (some ((wrap64 ((wrap64 ((wrap64 ((wrap64 (Go.bits .and .u8 x0 240)) + (wrap64 (Go.bits .and .u8 x1 240)))) + x10)) + 96)) % 256, t113))) else ((alu_put.f t112 1 (decide ((wrap64 ((wrap64 ((wrap64 (Go.bits .and .u8 x0 240)) + (wrap64 (Go.bits .and .u8 x1 240)))) + x10)) > 255))).bind fun t114 => (some ((wrap64 ((wrap64 ((wrap64 (Go.bits .and .u8 x0 240)) + (wrap64 (Go.bits .and .u8 x1 240)))) + x10)) % 256, t114))))))
def alu_Adc.f (k : Nat) (a0 : Int) (a1 : Int) (a2 : Int) : Option (Int × Int) := (alu_carry.f a2).bind fun t105 => (if (Go.bits .and .u8 a2 8) = 0 then ((alu_put.f a2 1 (decide ((wrap64 ((wrap64 ((wrap64 (a0)) + (wrap64 (a1)))) + t105)) > 255))).bind fun t106 => ((alu_put.f t106 64 ((Go.bits .and .u8 (Go.bits .and .u8 (Go.bits .xor .u8 a0 ((wrap64 ((wrap64 ((wrap64 (a0)) + (wrap64 (a1)))) + t105)) % 256)) (Go.bits .xor .u8 a1 ((wrap64 ((wrap64 ((wrap64 (a0)) + (wrap64 (a1)))) + t105)) % 256))) 128) != 0)).bind fun t107 => ((alu_Nz.f ((wrap64 ((wrap64 ((wrap64 (a0)) + (wrap64 (a1)))) + t105)) % 256) t107).bind fun t108 => (some ((wrap64 ((wrap64 ((wrap64 (a0)) + (wrap64 (a1)))) + t105)) % 256, t108))))) else ((alu_carry.f a2).bind fun t109 => (if (wrap64 ((wrap64 ((wrap64 (Go.bits .and .u8 a0 15)) + (wrap64 (Go.bits .and .u8 a1 15)))) + t109)) > 9 then (alu_Adc.j0 k a0 a1 a2 (wrap64 ((wrap64 ((wrap64 (a0)) + (wrap64 (a1)))) + t105)) (wrap64 ((Go.bits .and .i64 (wrap64 ((wrap64 ((wrap64 ((wrap64 (Go.bits .and .u8 a0 15)) + (wrap64 (Go.bits .and .u8 a1 15)))) + t109)) + 6)) 15) + 16))) else (alu_Adc.j0 k a0 a1 a2 (wrap64 ((wrap64 ((wrap64 (a0)) + (wrap64 (a1)))) + t105)) (wrap64 ((wrap64 ((wrap64 (Go.bits .and .u8 a0 15)) + (wrap64 (Go.bits .and .u8 a1 15)))) + t109))))))
theorem alu_Adc.mono_l : ∀ k, (∀ y0 y1 y2 y3 y4, LeO (alu_Adc.j0 k y0 y1 y2 y3 y4) (alu_Adc.j0 (k + 1) y0 y1 y2 y3 y4))
  | 0 => fun _ _ _ _ _ r h => by simp [alu_Adc.j0] at h
  | k + 1 => by
    have ih0 := alu_Adc.mono_l k
    · intro y0 y1 y2 y3 y4
      unfold alu_Adc.j0
      repeat' first
      | (with_reducible exact ih0 _ _ _ _ _)
      | (with_reducible exact LeO.refl _)
      | (with_reducible exact LeO.none _)
      | (with_reducible refine LeO.ite ?_ ?_)
      | (with_reducible refine LeO.bind ?_ (fun _ => ?_))
      | exact ih0 _ _ _ _ _
      | exact LeO.none _
      | refine LeO.ite ?_ ?_
      | refine LeO.bind ?_ (fun _ => ?_)
theorem alu_Adc.mono : ∀ a0 a1 a2 k, LeO (alu_Adc.f k a0 a1 a2) (alu_Adc.f (k + 1) a0 a1 a2) := by
  intro a0 a1 a2 k
  have ih0 := alu_Adc.mono_l k
  unfold alu_Adc.f
  repeat' first
      | (with_reducible exact ih0 _ _ _ _ _)
      | (with_reducible exact LeO.refl _)
      | (with_reducible exact LeO.none _)
      | (with_reducible refine LeO.ite ?_ ?_)
      | (with_reducible refine LeO.bind ?_ (fun _ => ?_))
      | exact ih0 _ _ _ _ _
      | exact LeO.none _
      | refine LeO.ite ?_ ?_
      | refine LeO.bind ?_ (fun _ => ?_)
set_option maxHeartbeats 8000000 in
set_option maxRecDepth 100000 in
theorem alu_Adc.calls (k : Nat) (a0 : Int) (a1 : Int) (a2 : Int) (r1 : Int) (r2 : Int) (w : World) (h : alu_Adc.f k a0 a1 a2 = some (r1, r2)) :
    Calls Try.prog 22 #[.int .u8 a0, .int .u8 a1, .int .u8 a2] w fun e w' => e = .returned (.tuple #[.int .u8 r1, .int .u8 r2]) ∧ Drawn0 w w' := by
  have H : ((alu_carry.f a2).bind fun t105 => (if (Go.bits .and .u8 a2 8) = 0 then ((alu_put.f a2 1 (decide ((wrap64 ((wrap64 ((wrap64 (a0)) + (wrap64 (a1)))) + t105)) > 255))).bind fun t106 => ((alu_put.f t106 64 ((Go.bits .and .u8 (Go.bits .and .u8 (Go.bits .xor .u8 a0 ((wrap64 ((wrap64 ((wrap64 (a0)) + (wrap64 (a1)))) + t105)) % 256)) (Go.bits .xor .u8 a1 ((wrap64 ((wrap64 ((wrap64 (a0)) + (wrap64 (a1)))) + t105)) % 256))) 128) != 0)).bind fun t107 => ((alu_Nz.f ((wrap64 ((wrap64 ((wrap64 (a0)) + (wrap64 (a1)))) + t105)) % 256) t107).bind fun t108 => (some ((wrap64 ((wrap64 ((wrap64 (a0)) + (wrap64 (a1)))) + t105)) % 256, t108))))) else ((alu_carry.f a2).bind fun t109 => (if (wrap64 ((wrap64 ((wrap64 (Go.bits .and .u8 a0 15)) + (wrap64 (Go.bits .and .u8 a1 15)))) + t109)) > 9 then (alu_Adc.j0 k a0 a1 a2 (wrap64 ((wrap64 ((wrap64 (a0)) + (wrap64 (a1)))) + t105)) (wrap64 ((Go.bits .and .i64 (wrap64 ((wrap64 ((wrap64 ((wrap64 (Go.bits .and .u8 a0 15)) + (wrap64 (Go.bits .and .u8 a1 15)))) + t109)) + 6)) 15) + 16))) else (alu_Adc.j0 k a0 a1 a2 (wrap64 ((wrap64 ((wrap64 (a0)) + (wrap64 (a1)))) + t105)) (wrap64 ((wrap64 ((wrap64 (Go.bits .and .u8 a0 15)) + (wrap64 (Go.bits .and .u8 a1 15)))) + t109))))))) = some (r1, r2) := h
  clear h
  replace H := Option.bind_eq_some_iff.mp H
  obtain ⟨t105, A40, H⟩ := H
  replace H : (if (Go.bits .and .u8 a2 8) = 0 then ((alu_put.f a2 1 (decide ((wrap64 ((wrap64 ((wrap64 (a0)) + (wrap64 (a1)))) + t105)) > 255))).bind fun t106 => ((alu_put.f t106 64 ((Go.bits .and .u8 (Go.bits .and .u8 (Go.bits .xor .u8 a0 ((wrap64 ((wrap64 ((wrap64 (a0)) + (wrap64 (a1)))) + t105)) % 256)) (Go.bits .xor .u8 a1 ((wrap64 ((wrap64 ((wrap64 (a0)) + (wrap64 (a1)))) + t105)) % 256))) 128) != 0)).bind fun t107 => ((alu_Nz.f ((wrap64 ((wrap64 ((wrap64 (a0)) + (wrap64 (a1)))) + t105)) % 256) t107).bind fun t108 => (some ((wrap64 ((wrap64 ((wrap64 (a0)) + (wrap64 (a1)))) + t105)) % 256, t108))))) else ((alu_carry.f a2).bind fun t109 => (if (wrap64 ((wrap64 ((wrap64 (Go.bits .and .u8 a0 15)) + (wrap64 (Go.bits .and .u8 a1 15)))) + t109)) > 9 then (alu_Adc.j0 k a0 a1 a2 (wrap64 ((wrap64 ((wrap64 (a0)) + (wrap64 (a1)))) + t105)) (wrap64 ((Go.bits .and .i64 (wrap64 ((wrap64 ((wrap64 ((wrap64 (Go.bits .and .u8 a0 15)) + (wrap64 (Go.bits .and .u8 a1 15)))) + t109)) + 6)) 15) + 16))) else (alu_Adc.j0 k a0 a1 a2 (wrap64 ((wrap64 ((wrap64 (a0)) + (wrap64 (a1)))) + t105)) (wrap64 ((wrap64 ((wrap64 (Go.bits .and .u8 a0 15)) + (wrap64 (Go.bits .and .u8 a1 15)))) + t109)))))) = some (r1, r2) := H
  have A4 := Aside0.mk A40
  clear A40
  by_cases c5 : (Go.bits .and .u8 a2 8) = 0
  · rw [if_pos c5] at H
    have c5b0 : ((Go.bits .and .u8 a2 8) == 0) = true := beq_iff_eq.mpr c5
    have c5b1 : ((Go.bits .and .u8 a2 8) != 0) = false := bne_eq_false_iff_eq.mpr c5
    clear c5
    replace H := Option.bind_eq_some_iff.mp H
    obtain ⟨t106, A60, H⟩ := H
    replace H : ((alu_put.f t106 64 ((Go.bits .and .u8 (Go.bits .and .u8 (Go.bits .xor .u8 a0 ((wrap64 ((wrap64 ((wrap64 (a0)) + (wrap64 (a1)))) + t105)) % 256)) (Go.bits .xor .u8 a1 ((wrap64 ((wrap64 ((wrap64 (a0)) + (wrap64 (a1)))) + t105)) % 256))) 128) != 0)).bind fun t107 => ((alu_Nz.f ((wrap64 ((wrap64 ((wrap64 (a0)) + (wrap64 (a1)))) + t105)) % 256) t107).bind fun t108 => (some ((wrap64 ((wrap64 ((wrap64 (a0)) + (wrap64 (a1)))) + t105)) % 256, t108)))) = some (r1, r2) := H
    have A6 := Aside0.mk A60
    clear A60
    replace H := Option.bind_eq_some_iff.mp H
    obtain ⟨t107, A70, H⟩ := H
    replace H : ((alu_Nz.f ((wrap64 ((wrap64 ((wrap64 (a0)) + (wrap64 (a1)))) + t105)) % 256) t107).bind fun t108 => (some ((wrap64 ((wrap64 ((wrap64 (a0)) + (wrap64 (a1)))) + t105)) % 256, t108))) = some (r1, r2) := H
    have A7 := Aside0.mk A70
    clear A70
    replace H := Option.bind_eq_some_iff.mp H
    obtain ⟨t108, A80, H⟩ := H
    replace H : (some ((wrap64 ((wrap64 ((wrap64 (a0)) + (wrap64 (a1)))) + t105)) % 256, t108)) = some (r1, r2) := H
    have A8 := Aside0.mk A80
    clear A80
    simp only [Option.some.injEq, Prod.mk.injEq] at H
    obtain ⟨rfl, rfl⟩ := H
    go_enter Try.func22, Try.ntmps22
    go_wp2_with (first | ((with_reducible refine gate_callee (f := 37) rfl ?_); refine goesL_ (some 18) rfl rfl Try.func37 (by kernel_rfl) rfl #[.int .u8 a2] rfl (by (try simp only [List.map_toArray, List.map_cons, List.map_nil]); first | done | rfl | (simp only [List.length_drop, List.length_take]; rfl)) ?_; (with_reducible refine (alu_carry.calls a2 t105 _ A4.out).mono ?_); rintro e w' ⟨rfl, ⟨nd, rfl⟩⟩; refine ⟨_, rfl, ?_⟩) | ((with_reducible refine gate_callee (f := 36) rfl ?_); refine goesL_ (some 28) rfl rfl Try.func36 (by kernel_rfl) rfl #[.int .u8 a2, .int .u8 1, .bool (decide ((wrap64 ((wrap64 ((wrap64 (a0)) + (wrap64 (a1)))) + t105)) > 255))] rfl (by (try simp only [List.map_toArray, List.map_cons, List.map_nil]); first | done | rfl | (simp only [List.length_drop, List.length_take]; rfl)) ?_; (with_reducible refine (alu_put.calls a2 1 (decide ((wrap64 ((wrap64 ((wrap64 (a0)) + (wrap64 (a1)))) + t105)) > 255)) t106 _ A6.out).mono ?_); rintro e w' ⟨rfl, ⟨nd, rfl⟩⟩; refine ⟨_, rfl, ?_⟩) | ((with_reducible refine gate_callee (f := 36) rfl ?_); refine goesL_ (some 39) rfl rfl Try.func36 (by kernel_rfl) rfl #[.int .u8 t106, .int .u8 64, .bool ((Go.bits .and .u8 (Go.bits .and .u8 (Go.bits .xor .u8 a0 ((wrap64 ((wrap64 ((wrap64 (a0)) + (wrap64 (a1)))) + t105)) % 256)) (Go.bits .xor .u8 a1 ((wrap64 ((wrap64 ((wrap64 (a0)) + (wrap64 (a1)))) + t105)) % 256))) 128) != 0)] rfl (by (try simp only [List.map_toArray, List.map_cons, List.map_nil]); first | done | rfl | (simp only [List.length_drop, List.length_take]; rfl)) ?_; (with_reducible refine (alu_put.calls t106 64 ((Go.bits .and .u8 (Go.bits .and .u8 (Go.bits .xor .u8 a0 ((wrap64 ((wrap64 ((wrap64 (a0)) + (wrap64 (a1)))) + t105)) % 256)) (Go.bits .xor .u8 a1 ((wrap64 ((wrap64 ((wrap64 (a0)) + (wrap64 (a1)))) + t105)) % 256))) 128) != 0) t107 _ A7.out).mono ?_); rintro e w' ⟨rfl, ⟨nd, rfl⟩⟩; refine ⟨_, rfl, ?_⟩) | ((with_reducible refine gate_callee (f := 25) rfl ?_); refine goesL_ (some 43) rfl rfl Try.func25 (by kernel_rfl) rfl #[.int .u8 ((wrap64 ((wrap64 ((wrap64 (a0)) + (wrap64 (a1)))) + t105)) % 256), .int .u8 t107] rfl (by (try simp only [List.map_toArray, List.map_cons, List.map_nil]); first | done | rfl | (simp only [List.length_drop, List.length_take]; rfl)) ?_; (with_reducible refine (alu_Nz.calls ((wrap64 ((wrap64 ((wrap64 (a0)) + (wrap64 (a1)))) + t105)) % 256) t107 t108 _ A8.out).mono ?_); rintro e w' ⟨rfl, ⟨nd, rfl⟩⟩; refine ⟨_, rfl, ?_⟩))
    go_ret2
    exact ⟨by first | rfl | (simp; done) | (simp [*]; done), by repeat (first | exact Drawn0.refl _ | apply Drawn0.step)⟩
  · rw [if_neg c5] at H
    have c5b0 : ((Go.bits .and .u8 a2 8) == 0) = false := beq_eq_false_iff_ne.mpr c5
    have c5b1 : ((Go.bits .and .u8 a2 8) != 0) = true := bne_iff_ne.mpr c5
    replace H := Option.bind_eq_some_iff.mp H
    obtain ⟨t109, A90, H⟩ := H
    replace H : (if (wrap64 ((wrap64 ((wrap64 (Go.bits .and .u8 a0 15)) + (wrap64 (Go.bits .and .u8 a1 15)))) + t109)) > 9 then (alu_Adc.j0 k a0 a1 a2 (wrap64 ((wrap64 ((wrap64 (a0)) + (wrap64 (a1)))) + t105)) (wrap64 ((Go.bits .and .i64 (wrap64 ((wrap64 ((wrap64 ((wrap64 (Go.bits .and .u8 a0 15)) + (wrap64 (Go.bits .and .u8 a1 15)))) + t109)) + 6)) 15) + 16))) else (alu_Adc.j0 k a0 a1 a2 (wrap64 ((wrap64 ((wrap64 (a0)) + (wrap64 (a1)))) + t105)) (wrap64 ((wrap64 ((wrap64 (Go.bits .and .u8 a0 15)) + (wrap64 (Go.bits .and .u8 a1 15)))) + t109)))) = some (r1, r2) := H
    have A9 := Aside0.mk A90
    clear A90
    have HC10 := Aside0.mk H
    clear H
    go_enter Try.func22, Try.ntmps22
    go_upto_if 55 with (first | ((with_reducible refine gate_callee (f := 37) rfl ?_); refine goesL_ (some 18) rfl rfl Try.func37 (by kernel_rfl) rfl #[.int .u8 a2] rfl (by (try simp only [List.map_toArray, List.map_cons, List.map_nil]); first | done | rfl | (simp only [List.length_drop, List.length_take]; rfl)) ?_; (with_reducible refine (alu_carry.calls a2 t105 _ A4.out).mono ?_); rintro e w' ⟨rfl, ⟨nd, rfl⟩⟩; refine ⟨_, rfl, ?_⟩) | ((with_reducible refine gate_callee (f := 37) rfl ?_); refine goesL_ (some 52) rfl rfl Try.func37 (by kernel_rfl) rfl #[.int .u8 a2] rfl (by (try simp only [List.map_toArray, List.map_cons, List.map_nil]); first | done | rfl | (simp only [List.length_drop, List.length_take]; rfl)) ?_; (with_reducible refine (alu_carry.calls a2 t109 _ A9.out).mono ?_); rintro e w' ⟨rfl, ⟨nd, rfl⟩⟩; refine ⟨_, rfl, ?_⟩))
    (try simp only [Act.put, List.setIfInBounds_toArray, List.set_cons_zero, List.set_cons_succ])
    go_cut [10] (fun v10 wc => ∃ (kq : Nat) (x10_9 : Int), v10 = .int .i64 x10_9 ∧ Aside0 (alu_Adc.j0 kq a0 a1 a2 (wrap64 ((wrap64 ((wrap64 (a0)) + (wrap64 (a1)))) + t105)) x10_9 = some (r1, r2)) ∧ Aside0 (kq ≤ k) ∧ Drawn0 w wc)
    case first =>
      have H := HC10.out
      clear HC10
      by_cases c11 : (wrap64 ((wrap64 ((wrap64 (Go.bits .and .u8 a0 15)) + (wrap64 (Go.bits .and .u8 a1 15)))) + t109)) > 9
      · rw [if_pos c11] at H
        have c11b0 : decide (9 < (wrap64 ((wrap64 ((wrap64 (Go.bits .and .u8 a0 15)) + (wrap64 (Go.bits .and .u8 a1 15)))) + t109))) = true := decide_eq_true c11
        clear c11
        (first | rw [c11b0] | (simp only [i64_w, i32_w]; rw [c11b0]) | skip)
        have H' := Aside0.mk H
        clear H
        go_wp2
        go_meet
        case rel => exact ⟨_, (wrap64 ((Go.bits .and .i64 (wrap64 ((wrap64 ((wrap64 ((wrap64 (Go.bits .and .u8 a0 15)) + (wrap64 (Go.bits .and .u8 a1 15)))) + t109)) + 6)) 15) + 16)), (by first | rfl | (simp; done) | (simp [*]; done)), H', ⟨by first | omega | exact Nat.le_refl _⟩, by repeat (first | exact Drawn0.refl _ | apply Drawn0.step)⟩
      · rw [if_neg c11] at H
        have c11b0 : decide (9 < (wrap64 ((wrap64 ((wrap64 (Go.bits .and .u8 a0 15)) + (wrap64 (Go.bits .and .u8 a1 15)))) + t109))) = false := decide_eq_false c11
        clear c11
        (first | rw [c11b0] | (simp only [i64_w, i32_w]; rw [c11b0]) | skip)
        have H' := Aside0.mk H
        clear H
        go_wp2
        go_meet
        case rel => exact ⟨_, (wrap64 ((wrap64 ((wrap64 (Go.bits .and .u8 a0 15)) + (wrap64 (Go.bits .and .u8 a1 15)))) + t109)), (by first | rfl | (simp; done) | (simp [*]; done)), H', ⟨by first | omega | exact Nat.le_refl _⟩, by repeat (first | exact Drawn0.refl _ | apply Drawn0.step)⟩
    case rest =>
      clear HC10
      try clear c1
      try clear c2
      try clear p2
      try clear c3
      try clear c5
      try clear c5b0
      try clear c5b1
      try clear p6
      try clear c11
      try clear c11b0
      obtain ⟨kq, x10_9, rfl, HA, HJ9, ⟨mc9, rfl⟩⟩ := hcut
      cases kq with
      | zero => exact absurd HA.out (by simp [alu_Adc.j0])
      | succ kj9 =>
        have H := HA.out
        clear HA
        simp only [alu_Adc.j0] at H
        replace H := Option.bind_eq_some_iff.mp H
        obtain ⟨t110, A120, H⟩ := H
        replace H : ((alu_put.f t110 64 ((Go.bits .and .u8 (Go.bits .and .u8 (Go.bits .xor .u8 a0 ((wrap64 ((wrap64 ((wrap64 (Go.bits .and .u8 a0 240)) + (wrap64 (Go.bits .and .u8 a1 240)))) + x10_9)) % 256)) (Go.bits .xor .u8 a1 ((wrap64 ((wrap64 ((wrap64 (Go.bits .and .u8 a0 240)) + (wrap64 (Go.bits .and .u8 a1 240)))) + x10_9)) % 256))) 128) != 0)).bind fun t111 => ((alu_put.f t111 2 ((((wrap64 ((wrap64 ((wrap64 (a0)) + (wrap64 (a1)))) + t105))) % 256) == 0)).bind fun t112 => (if (wrap64 ((wrap64 ((wrap64 (Go.bits .and .u8 a0 240)) + (wrap64 (Go.bits .and .u8 a1 240)))) + x10_9)) ≥ 160 then ((alu_put.f t112 1 (decide ((wrap64 ((wrap64 ((wrap64 ((wrap64 (Go.bits .and .u8 a0 240)) + (wrap64 (Go.bits .and .u8 a1 240)))) + x10_9)) + 96)) > 255))).bind fun t113 => (some ((wrap64 ((wrap64 ((wrap64 ((wrap64 (Go.bits .and .u8 a0 240)) + (wrap64 (Go.bits .and .u8 a1 240)))) + x10_9)) + 96)) % 256, t113))) else ((alu_put.f t112 1 (decide ((wrap64 ((wrap64 ((wrap64 (Go.bits .and .u8 a0 240)) + (wrap64 (Go.bits .and .u8 a1 240)))) + x10_9)) > 255))).bind fun t114 => (some ((wrap64 ((wrap64 ((wrap64 (Go.bits .and .u8 a0 240)) + (wrap64 (Go.bits .and .u8 a1 240)))) + x10_9)) % 256, t114)))))) = some (r1, r2) := H
        have A12 := Aside0.mk A120
        clear A120
        replace H := Option.bind_eq_some_iff.mp H
        obtain ⟨t111, A130, H⟩ := H
        replace H : ((alu_put.f t111 2 ((((wrap64 ((wrap64 ((wrap64 (a0)) + (wrap64 (a1)))) + t105))) % 256) == 0)).bind fun t112 => (if (wrap64 ((wrap64 ((wrap64 (Go.bits .and .u8 a0 240)) + (wrap64 (Go.bits .and .u8 a1 240)))) + x10_9)) ≥ 160 then ((alu_put.f t112 1 (decide ((wrap64 ((wrap64 ((wrap64 ((wrap64 (Go.bits .and .u8 a0 240)) + (wrap64 (Go.bits .and .u8 a1 240)))) + x10_9)) + 96)) > 255))).bind fun t113 => (some ((wrap64 ((wrap64 ((wrap64 ((wrap64 (Go.bits .and .u8 a0 240)) + (wrap64 (Go.bits .and .u8 a1 240)))) + x10_9)) + 96)) % 256, t113))) else ((alu_put.f t112 1 (decide ((wrap64 ((wrap64 ((wrap64 (Go.bits .and .u8 a0 240)) + (wrap64 (Go.bits .and .u8 a1 240)))) + x10_9)) > 255))).bind fun t114 => (some ((wrap64 ((wrap64 ((wrap64 (Go.bits .and .u8 a0 240)) + (wrap64 (Go.bits .and .u8 a1 240)))) + x10_9)) % 256, t114))))) = some (r1, r2) := H
        have A13 := Aside0.mk A130
        clear A130
        replace H := Option.bind_eq_some_iff.mp H
        obtain ⟨t112, A140, H⟩ := H
        replace H : (if (wrap64 ((wrap64 ((wrap64 (Go.bits .and .u8 a0 240)) + (wrap64 (Go.bits .and .u8 a1 240)))) + x10_9)) ≥ 160 then ((alu_put.f t112 1 (decide ((wrap64 ((wrap64 ((wrap64 ((wrap64 (Go.bits .and .u8 a0 240)) + (wrap64 (Go.bits .and .u8 a1 240)))) + x10_9)) + 96)) > 255))).bind fun t113 => (some ((wrap64 ((wrap64 ((wrap64 ((wrap64 (Go.bits .and .u8 a0 240)) + (wrap64 (Go.bits .and .u8 a1 240)))) + x10_9)) + 96)) % 256, t113))) else ((alu_put.f t112 1 (decide ((wrap64 ((wrap64 ((wrap64 (Go.bits .and .u8 a0 240)) + (wrap64 (Go.bits .and .u8 a1 240)))) + x10_9)) > 255))).bind fun t114 => (some ((wrap64 ((wrap64 ((wrap64 (Go.bits .and .u8 a0 240)) + (wrap64 (Go.bits .and .u8 a1 240)))) + x10_9)) % 256, t114)))) = some (r1, r2) := H
        have A14 := Aside0.mk A140
        clear A140
        by_cases c15 : (wrap64 ((wrap64 ((wrap64 (Go.bits .and .u8 a0 240)) + (wrap64 (Go.bits .and .u8 a1 240)))) + x10_9)) ≥ 160
        · rw [if_pos c15] at H
          have c15b0 : decide (160 ≤ (wrap64 ((wrap64 ((wrap64 (Go.bits .and .u8 a0 240)) + (wrap64 (Go.bits .and .u8 a1 240)))) + x10_9))) = true := decide_eq_true c15
          clear c15
          replace H := Option.bind_eq_some_iff.mp H
          obtain ⟨t113, A160, H⟩ := H
          replace H : (some ((wrap64 ((wrap64 ((wrap64 ((wrap64 (Go.bits .and .u8 a0 240)) + (wrap64 (Go.bits .and .u8 a1 240)))) + x10_9)) + 96)) % 256, t113)) = some (r1, r2) := H
          have A16 := Aside0.mk A160
          clear A160
          simp only [Option.some.injEq, Prod.mk.injEq] at H
          obtain ⟨rfl, rfl⟩ := H
          go_wp2_with (first | ((with_reducible refine gate_callee (f := 25) rfl ?_); refine goesL_ (some 72) rfl rfl Try.func25 (by kernel_rfl) rfl #[.int .u8 ((wrap64 ((wrap64 ((wrap64 (Go.bits .and .u8 a0 240)) + (wrap64 (Go.bits .and .u8 a1 240)))) + x10_9)) % 256), .int .u8 a2] rfl (by (try simp only [List.map_toArray, List.map_cons, List.map_nil]); first | done | rfl | (simp only [List.length_drop, List.length_take]; rfl)) ?_; (with_reducible refine (alu_Nz.calls ((wrap64 ((wrap64 ((wrap64 (Go.bits .and .u8 a0 240)) + (wrap64 (Go.bits .and .u8 a1 240)))) + x10_9)) % 256) a2 t110 _ A12.out).mono ?_); rintro e w' ⟨rfl, ⟨nd, rfl⟩⟩; refine ⟨_, rfl, ?_⟩) | ((with_reducible refine gate_callee (f := 36) rfl ?_); refine goesL_ (some 85) rfl rfl Try.func36 (by kernel_rfl) rfl #[.int .u8 t110, .int .u8 64, .bool ((Go.bits .and .u8 (Go.bits .and .u8 (Go.bits .xor .u8 a0 ((wrap64 ((wrap64 ((wrap64 (Go.bits .and .u8 a0 240)) + (wrap64 (Go.bits .and .u8 a1 240)))) + x10_9)) % 256)) (Go.bits .xor .u8 a1 ((wrap64 ((wrap64 ((wrap64 (Go.bits .and .u8 a0 240)) + (wrap64 (Go.bits .and .u8 a1 240)))) + x10_9)) % 256))) 128) != 0)] rfl (by (try simp only [List.map_toArray, List.map_cons, List.map_nil]); first | done | rfl | (simp only [List.length_drop, List.length_take]; rfl)) ?_; (with_reducible refine (alu_put.calls t110 64 ((Go.bits .and .u8 (Go.bits .and .u8 (Go.bits .xor .u8 a0 ((wrap64 ((wrap64 ((wrap64 (Go.bits .and .u8 a0 240)) + (wrap64 (Go.bits .and .u8 a1 240)))) + x10_9)) % 256)) (Go.bits .xor .u8 a1 ((wrap64 ((wrap64 ((wrap64 (Go.bits .and .u8 a0 240)) + (wrap64 (Go.bits .and .u8 a1 240)))) + x10_9)) % 256))) 128) != 0) t111 _ A13.out).mono ?_); rintro e w' ⟨rfl, ⟨nd, rfl⟩⟩; refine ⟨_, rfl, ?_⟩) | ((with_reducible refine gate_callee (f := 36) rfl ?_); refine goesL_ (some 90) rfl rfl Try.func36 (by kernel_rfl) rfl #[.int .u8 t111, .int .u8 2, .bool ((((wrap64 ((wrap64 ((wrap64 (a0)) + (wrap64 (a1)))) + t105))) % 256) == 0)] rfl (by (try simp only [List.map_toArray, List.map_cons, List.map_nil]); first | done | rfl | (simp only [List.length_drop, List.length_take]; rfl)) ?_; (with_reducible refine (alu_put.calls t111 2 ((((wrap64 ((wrap64 ((wrap64 (a0)) + (wrap64 (a1)))) + t105))) % 256) == 0) t112 _ A14.out).mono ?_); rintro e w' ⟨rfl, ⟨nd, rfl⟩⟩; refine ⟨_, rfl, ?_⟩) | ((with_reducible refine gate_callee (f := 36) rfl ?_); refine goesL_ (some 100) rfl rfl Try.func36 (by kernel_rfl) rfl #[.int .u8 t112, .int .u8 1, .bool (decide ((wrap64 ((wrap64 ((wrap64 ((wrap64 (Go.bits .and .u8 a0 240)) + (wrap64 (Go.bits .and .u8 a1 240)))) + x10_9)) + 96)) > 255))] rfl (by (try simp only [List.map_toArray, List.map_cons, List.map_nil]); first | done | rfl | (simp only [List.length_drop, List.length_take]; rfl)) ?_; (with_reducible refine (alu_put.calls t112 1 (decide ((wrap64 ((wrap64 ((wrap64 ((wrap64 (Go.bits .and .u8 a0 240)) + (wrap64 (Go.bits .and .u8 a1 240)))) + x10_9)) + 96)) > 255)) t113 _ A16.out).mono ?_); rintro e w' ⟨rfl, ⟨nd, rfl⟩⟩; refine ⟨_, rfl, ?_⟩))
          go_ret2
          exact ⟨by first | rfl | (simp; done) | (simp [*]; done), by repeat (first | exact Drawn0.refl _ | apply Drawn0.step)⟩
        · rw [if_neg c15] at H
          have c15b0 : decide (160 ≤ (wrap64 ((wrap64 ((wrap64 (Go.bits .and .u8 a0 240)) + (wrap64 (Go.bits .and .u8 a1 240)))) + x10_9))) = false := decide_eq_false c15
          clear c15
          replace H := Option.bind_eq_some_iff.mp H
          obtain ⟨t114, A170, H⟩ := H
          replace H : (some ((wrap64 ((wrap64 ((wrap64 (Go.bits .and .u8 a0 240)) + (wrap64 (Go.bits .and .u8 a1 240)))) + x10_9)) % 256, t114)) = some (r1, r2) := H
          have A17 := Aside0.mk A170
          clear A170
          simp only [Option.some.injEq, Prod.mk.injEq] at H
          obtain ⟨rfl, rfl⟩ := H
          go_wp2_with (first | ((with_reducible refine gate_callee (f := 25) rfl ?_); refine goesL_ (some 72) rfl rfl Try.func25 (by kernel_rfl) rfl #[.int .u8 ((wrap64 ((wrap64 ((wrap64 (Go.bits .and .u8 a0 240)) + (wrap64 (Go.bits .and .u8 a1 240)))) + x10_9)) % 256), .int .u8 a2] rfl (by (try simp only [List.map_toArray, List.map_cons, List.map_nil]); first | done | rfl | (simp only [List.length_drop, List.length_take]; rfl)) ?_; (with_reducible refine (alu_Nz.calls ((wrap64 ((wrap64 ((wrap64 (Go.bits .and .u8 a0 240)) + (wrap64 (Go.bits .and .u8 a1 240)))) + x10_9)) % 256) a2 t110 _ A12.out).mono ?_); rintro e w' ⟨rfl, ⟨nd, rfl⟩⟩; refine ⟨_, rfl, ?_⟩) | ((with_reducible refine gate_callee (f := 36) rfl ?_); refine goesL_ (some 85) rfl rfl Try.func36 (by kernel_rfl) rfl #[.int .u8 t110, .int .u8 64, .bool ((Go.bits .and .u8 (Go.bits .and .u8 (Go.bits .xor .u8 a0 ((wrap64 ((wrap64 ((wrap64 (Go.bits .and .u8 a0 240)) + (wrap64 (Go.bits .and .u8 a1 240)))) + x10_9)) % 256)) (Go.bits .xor .u8 a1 ((wrap64 ((wrap64 ((wrap64 (Go.bits .and .u8 a0 240)) + (wrap64 (Go.bits .and .u8 a1 240)))) + x10_9)) % 256))) 128) != 0)] rfl (by (try simp only [List.map_toArray, List.map_cons, List.map_nil]); first | done | rfl | (simp only [List.length_drop, List.length_take]; rfl)) ?_; (with_reducible refine (alu_put.calls t110 64 ((Go.bits .and .u8 (Go.bits .and .u8 (Go.bits .xor .u8 a0 ((wrap64 ((wrap64 ((wrap64 (Go.bits .and .u8 a0 240)) + (wrap64 (Go.bits .and .u8 a1 240)))) + x10_9)) % 256)) (Go.bits .xor .u8 a1 ((wrap64 ((wrap64 ((wrap64 (Go.bits .and .u8 a0 240)) + (wrap64 (Go.bits .and .u8 a1 240)))) + x10_9)) % 256))) 128) != 0) t111 _ A13.out).mono ?_); rintro e w' ⟨rfl, ⟨nd, rfl⟩⟩; refine ⟨_, rfl, ?_⟩) | ((with_reducible refine gate_callee (f := 36) rfl ?_); refine goesL_ (some 90) rfl rfl Try.func36 (by kernel_rfl) rfl #[.int .u8 t111, .int .u8 2, .bool ((((wrap64 ((wrap64 ((wrap64 (a0)) + (wrap64 (a1)))) + t105))) % 256) == 0)] rfl (by (try simp only [List.map_toArray, List.map_cons, List.map_nil]); first | done | rfl | (simp only [List.length_drop, List.length_take]; rfl)) ?_; (with_reducible refine (alu_put.calls t111 2 ((((wrap64 ((wrap64 ((wrap64 (a0)) + (wrap64 (a1)))) + t105))) % 256) == 0) t112 _ A14.out).mono ?_); rintro e w' ⟨rfl, ⟨nd, rfl⟩⟩; refine ⟨_, rfl, ?_⟩) | ((with_reducible refine gate_callee (f := 36) rfl ?_); refine goesL_ (some 100) rfl rfl Try.func36 (by kernel_rfl) rfl #[.int .u8 t112, .int .u8 1, .bool (decide ((wrap64 ((wrap64 ((wrap64 (Go.bits .and .u8 a0 240)) + (wrap64 (Go.bits .and .u8 a1 240)))) + x10_9)) > 255))] rfl (by (try simp only [List.map_toArray, List.map_cons, List.map_nil]); first | done | rfl | (simp only [List.length_drop, List.length_take]; rfl)) ?_; (with_reducible refine (alu_put.calls t112 1 (decide ((wrap64 ((wrap64 ((wrap64 (Go.bits .and .u8 a0 240)) + (wrap64 (Go.bits .and .u8 a1 240)))) + x10_9)) > 255)) t114 _ A17.out).mono ?_); rintro e w' ⟨rfl, ⟨nd, rfl⟩⟩; refine ⟨_, rfl, ?_⟩))
          go_ret2
          exact ⟨by first | rfl | (simp; done) | (simp [*]; done), by repeat (first | exact Drawn0.refl _ | apply Drawn0.step)⟩

/-! ### tandemlaw3_signed: function 23 -/
def tandemlaw3_signed.f (a0 : Int) : Option (Int) := if a0 ≥ 128 then (some (wrap64 ((wrap64 (a0)) - 256))) else (some (wrap64 (a0)))
set_option maxHeartbeats 8000000 in
set_option maxRecDepth 100000 in
theorem tandemlaw3_signed.calls (a0 : Int) (r : Int) (w : World) (h : tandemlaw3_signed.f a0 = some r) :
    Calls Try.prog 23 #[.int .u8 a0] w fun e w' => e = .returned (.int .i64 r) ∧ Drawn0 w w' := by
  have H : (if a0 ≥ 128 then (some (wrap64 ((wrap64 (a0)) - 256))) else (some (wrap64 (a0)))) = some r := h
  clear h
  by_cases c2 : a0 ≥ 128
  · rw [if_pos c2] at H
    have c2b0 : decide (128 ≤ a0) = true := decide_eq_true c2
    clear c2
    obtain rfl := Option.some.inj H
    go_enter Try.func23, Try.ntmps23
    go_wp2
    go_ret
    exact ⟨by first | rfl | (simp; done) | (simp [*]; done), by repeat (first | exact Drawn0.refl _ | apply Drawn0.step)⟩
  · rw [if_neg c2] at H
    have c2b0 : decide (128 ≤ a0) = false := decide_eq_false c2
    clear c2
    obtain rfl := Option.some.inj H
    go_enter Try.func23, Try.ntmps23
    go_wp2
    go_ret
    exact ⟨by first | rfl | (simp; done) | (simp [*]; done), by repeat (first | exact Drawn0.refl _ | apply Drawn0.step)⟩

/-! ### alu_Cmp: function 24 -/
def alu_Cmp.f (a0 : Int) (a1 : Int) (a2 : Int) : Option (Int) := (alu_put.f a2 1 (decide (a0 ≥ a1))).bind fun t115 => ((alu_Nz.f ((a0 - a1) % 256) t115).bind fun t116 => (some t116))
set_option maxHeartbeats 8000000 in
set_option maxRecDepth 100000 in
theorem alu_Cmp.calls (a0 : Int) (a1 : Int) (a2 : Int) (r : Int) (w : World) (h : alu_Cmp.f a0 a1 a2 = some r) :
    Calls Try.prog 24 #[.int .u8 a0, .int .u8 a1, .int .u8 a2] w fun e w' => e = .returned (.int .u8 r) ∧ Drawn0 w w' := by
  have H : ((alu_put.f a2 1 (decide (a0 ≥ a1))).bind fun t115 => ((alu_Nz.f ((a0 - a1) % 256) t115).bind fun t116 => (some t116))) = some r := h
  clear h
  replace H := Option.bind_eq_some_iff.mp H
  obtain ⟨t115, A40, H⟩ := H
  replace H : ((alu_Nz.f ((a0 - a1) % 256) t115).bind fun t116 => (some t116)) = some r := H
  have A4 := Aside0.mk A40
  clear A40
  replace H := Option.bind_eq_some_iff.mp H
  obtain ⟨t116, A50, H⟩ := H
  replace H : (some t116) = some r := H
  have A5 := Aside0.mk A50
  clear A50
  obtain rfl := Option.some.inj H
  go_enter Try.func24, Try.ntmps24
  go_wp2_with (first | ((with_reducible refine gate_callee (f := 36) rfl ?_); refine goesL_ (some 14) rfl rfl Try.func36 (by kernel_rfl) rfl #[.int .u8 a2, .int .u8 1, .bool (decide (a0 ≥ a1))] rfl (by (try simp only [List.map_toArray, List.map_cons, List.map_nil]); first | done | rfl | (simp only [List.length_drop, List.length_take]; rfl)) ?_; (with_reducible refine (alu_put.calls a2 1 (decide (a0 ≥ a1)) t115 _ A4.out).mono ?_); rintro e w' ⟨rfl, ⟨nd, rfl⟩⟩; refine ⟨_, rfl, ?_⟩) | ((with_reducible refine gate_callee (f := 25) rfl ?_); refine goesL_ (some 15) rfl rfl Try.func25 (by kernel_rfl) rfl #[.int .u8 ((a0 - a1) % 256), .int .u8 t115] rfl (by (try simp only [List.map_toArray, List.map_cons, List.map_nil]); first | done | rfl | (simp only [List.length_drop, List.length_take]; rfl)) ?_; (with_reducible refine (alu_Nz.calls ((a0 - a1) % 256) t115 t116 _ A5.out).mono ?_); rintro e w' ⟨rfl, ⟨nd, rfl⟩⟩; refine ⟨_, rfl, ?_⟩))
  go_ret
  exact ⟨by first | rfl | (simp; done) | (simp [*]; done), by repeat (first | exact Drawn0.refl _ | apply Drawn0.step)⟩

end Go.Proofs.Ytajffjhfecckbaa.XAluSigned
