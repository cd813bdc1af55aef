-- Made by this seat's own program wip/tools/xprint.py.
import Derived.Test.YtajffjhfecckbaaXAluPartsx0
namespace Go.Proofs.Ytajffjhfecckbaa.XAluParts
open Go.RowKit Go.Proofs.YtajffjhfecckbaaW.PrintWords Go.Proofs.YtajffjhfecckbaaW.PrintLast Go.Proofs.YtajffjhfecckbaaW.PrintMore
attribute [local go_sem] max2_int min2_int max_two min_two max_three min_three max_four min_four   -- for this text's walks alone
set_option linter.unusedVariables false
set_option linter.unusedSimpArgs false

/-! ### alu_Nz: function 25 -/
def alu_Nz.f (a0 : Int) (a1 : Int) : Option (Int) := if a0 = 0 then (some (Go.bits .or .u8 (Go.bits .or .u8 (Go.bits .andNot .u8 a1 130) 2) (Go.bits .and .u8 a0 128))) else (some (Go.bits .or .u8 (Go.bits .andNot .u8 a1 130) (Go.bits .and .u8 a0 128)))
set_option maxHeartbeats 8000000 in
set_option maxRecDepth 100000 in
theorem alu_Nz.calls (a0 : Int) (a1 : Int) (r : Int) (w : World) (h : alu_Nz.f a0 a1 = some r) :
    Calls Try.prog 25 #[.int .u8 a0, .int .u8 a1] w fun e w' => e = .returned (.int .u8 r) ∧ Drawn0 w w' := by
  have H : (if a0 = 0 then (some (Go.bits .or .u8 (Go.bits .or .u8 (Go.bits .andNot .u8 a1 130) 2) (Go.bits .and .u8 a0 128))) else (some (Go.bits .or .u8 (Go.bits .andNot .u8 a1 130) (Go.bits .and .u8 a0 128)))) = some r := h
  clear h
  by_cases c3 : a0 = 0
  · rw [if_pos c3] at H
    have c3b0 : (a0 == 0) = true := beq_iff_eq.mpr c3
    have c3b1 : (a0 != 0) = false := bne_eq_false_iff_eq.mpr c3
    clear c3
    obtain rfl := Option.some.inj H
    go_enter Try.func25, Try.ntmps25
    go_wp2
    go_ret
    exact ⟨by first | rfl | (simp; done) | (simp [*]; done), by repeat (first | exact Drawn0.refl _ | apply Drawn0.step)⟩
  · rw [if_neg c3] at H
    have c3b0 : (a0 == 0) = false := beq_eq_false_iff_ne.mpr c3
    have c3b1 : (a0 != 0) = true := bne_iff_ne.mpr c3
    obtain rfl := Option.some.inj H
    go_enter Try.func25, Try.ntmps25
    go_wp2
    go_ret
    exact ⟨by first | rfl | (simp; done) | (simp [*]; done), by repeat (first | exact Drawn0.refl _ | apply Drawn0.step)⟩

/-! ### alu_put: function 36 -/
def alu_put.f (a0 : Int) (a1 : Int) (a2 : Bool) : Option (Int) := if a2 = true then (some (Go.bits .or .u8 a0 a1)) else (some (Go.bits .andNot .u8 a0 a1))
set_option maxHeartbeats 8000000 in
set_option maxRecDepth 100000 in
theorem alu_put.calls (a0 : Int) (a1 : Int) (a2 : Bool) (r : Int) (w : World) (h : alu_put.f a0 a1 a2 = some r) :
    Calls Try.prog 36 #[.int .u8 a0, .int .u8 a1, .bool a2] w fun e w' => e = .returned (.int .u8 r) ∧ Drawn0 w w' := by
  have H : (if a2 = true then (some (Go.bits .or .u8 a0 a1)) else (some (Go.bits .andNot .u8 a0 a1))) = some r := h
  clear h
  by_cases c4 : a2 = true
  · subst c4
    have H1 : (some (Go.bits .or .u8 a0 a1)) = some r := by rw [if_pos rfl] at H; exact H
    clear H
    have H := H1
    clear H1
    obtain rfl := Option.some.inj H
    go_enter Try.func36, Try.ntmps36
    go_wp2
    go_ret
    exact ⟨by first | rfl | (simp; done) | (simp [*]; done), by repeat (first | exact Drawn0.refl _ | apply Drawn0.step)⟩
  · replace c4 := Bool.eq_false_iff.mpr c4
    subst c4
    have H1 : (some (Go.bits .andNot .u8 a0 a1)) = some r := by rw [if_neg (show ¬ (false = true) by decide)] at H; exact H
    clear H
    have H := H1
    clear H1
    obtain rfl := Option.some.inj H
    go_enter Try.func36, Try.ntmps36
    go_wp2
    go_ret
    exact ⟨by first | rfl | (simp; done) | (simp [*]; done), by repeat (first | exact Drawn0.refl _ | apply Drawn0.step)⟩

/-! ### alu_Shift: function 14 -/
def alu_Shift.f (a0 : Int) (a1 : Int) (a2 : Int) : Option (Int × Int) := if a0 = 2 then ((alu_put.f a2 1 ((Go.bits .and .u8 a1 128) != 0)).bind fun t101 => ((alu_Nz.f ((a1 * 2) % 256) t101).bind fun t102 => (some ((a1 * 2) % 256, t102)))) else (if a0 = 39 then ((alu_put.f a2 1 ((Go.bits .and .u8 a1 128) != 0)).bind fun t103 => ((alu_Nz.f (Go.bits .or .u8 ((a1 * 2) % 256) (Go.bits .and .u8 a2 1)) t103).bind fun t104 => (some (Go.bits .or .u8 ((a1 * 2) % 256) (Go.bits .and .u8 a2 1), t104)))) else (if a0 = 32 then ((alu_put.f a2 1 ((Go.bits .and .u8 a1 1) != 0)).bind fun t105 => ((alu_Nz.f (a1 / 2) t105).bind fun t106 => (some (a1 / 2, t106)))) else (if a0 = 40 then ((alu_put.f a2 1 ((Go.bits .and .u8 a1 1) != 0)).bind fun t107 => ((alu_Nz.f (Go.bits .or .u8 (a1 / 2) (((Go.bits .and .u8 a2 1) * 128) % 256)) t107).bind fun t108 => (some (Go.bits .or .u8 (a1 / 2) (((Go.bits .and .u8 a2 1) * 128) % 256), t108)))) else (some (a1, a2)))))
set_option maxHeartbeats 8000000 in
set_option maxRecDepth 100000 in
theorem alu_Shift.calls (a0 : Int) (a1 : Int) (a2 : Int) (r1 : Int) (r2 : Int) (w : World) (h : alu_Shift.f a0 a1 a2 = some (r1, r2)) :
    Calls Try.prog 14 #[.int .i64 a0, .int .u8 a1, .int .u8 a2] w fun e w' => e = .returned (.tuple #[.int .u8 r1, .int .u8 r2]) ∧ Drawn0 w w' := by
  have H : (if a0 = 2 then ((alu_put.f a2 1 ((Go.bits .and .u8 a1 128) != 0)).bind fun t101 => ((alu_Nz.f ((a1 * 2) % 256) t101).bind fun t102 => (some ((a1 * 2) % 256, t102)))) else (if a0 = 39 then ((alu_put.f a2 1 ((Go.bits .and .u8 a1 128) != 0)).bind fun t103 => ((alu_Nz.f (Go.bits .or .u8 ((a1 * 2) % 256) (Go.bits .and .u8 a2 1)) t103).bind fun t104 => (some (Go.bits .or .u8 ((a1 * 2) % 256) (Go.bits .and .u8 a2 1), t104)))) else (if a0 = 32 then ((alu_put.f a2 1 ((Go.bits .and .u8 a1 1) != 0)).bind fun t105 => ((alu_Nz.f (a1 / 2) t105).bind fun t106 => (some (a1 / 2, t106)))) else (if a0 = 40 then ((alu_put.f a2 1 ((Go.bits .and .u8 a1 1) != 0)).bind fun t107 => ((alu_Nz.f (Go.bits .or .u8 (a1 / 2) (((Go.bits .and .u8 a2 1) * 128) % 256)) t107).bind fun t108 => (some (Go.bits .or .u8 (a1 / 2) (((Go.bits .and .u8 a2 1) * 128) % 256), t108)))) else (some (a1, a2)))))) = some (r1, r2) := h
  clear h
  by_cases c4 : a0 = 2
  · rw [if_pos c4] at H
    have c4b0 : (a0 == 2) = true := beq_iff_eq.mpr c4
    have c4b1 : (a0 != 2) = false := bne_eq_false_iff_eq.mpr c4
    clear c4
    replace H := Option.bind_eq_some_iff.mp H
    obtain ⟨t101, A50, H⟩ := H
    replace H : ((alu_Nz.f ((a1 * 2) % 256) t101).bind fun t102 => (some ((a1 * 2) % 256, t102))) = some (r1, r2) := H
    have A5 := Aside0.mk A50
    clear A50
    replace H := Option.bind_eq_some_iff.mp H
    obtain ⟨t102, A60, H⟩ := H
    replace H : (some ((a1 * 2) % 256, t102)) = some (r1, r2) := H
    have A6 := Aside0.mk A60
    clear A60
    simp only [Option.some.injEq, Prod.mk.injEq] at H
    obtain ⟨rfl, rfl⟩ := H
    go_enter Try.func14, Try.ntmps14
    go_wp2_with (first | ((with_reducible refine gate_callee (f := 36) rfl ?_); refine goesL_ (some 53) rfl rfl Try.func36 (by kernel_rfl) rfl #[.int .u8 a2, .int .u8 1, .bool ((Go.bits .and .u8 a1 128) != 0)] rfl (by (try simp only [List.map_toArray, List.map_cons, List.map_nil]); first | done | rfl | (simp only [List.length_drop, List.length_take]; rfl)) ?_; (with_reducible refine (alu_put.calls a2 1 ((Go.bits .and .u8 a1 128) != 0) t101 _ A5.out).mono ?_); rintro e w' ⟨rfl, ⟨nd, rfl⟩⟩; refine ⟨_, rfl, ?_⟩) | ((with_reducible refine gate_callee (f := 25) rfl ?_); refine goesL_ (some 54) rfl rfl Try.func25 (by kernel_rfl) rfl #[.int .u8 ((a1 * 2) % 256), .int .u8 t101] rfl (by (try simp only [List.map_toArray, List.map_cons, List.map_nil]); first | done | rfl | (simp only [List.length_drop, List.length_take]; rfl)) ?_; (with_reducible refine (alu_Nz.calls ((a1 * 2) % 256) t101 t102 _ A6.out).mono ?_); rintro e w' ⟨rfl, ⟨nd, rfl⟩⟩; refine ⟨_, rfl, ?_⟩))
    go_ret2
    exact ⟨by first | rfl | (simp; done) | (simp [*]; done), by repeat (first | exact Drawn0.refl _ | apply Drawn0.step)⟩
  · rw [if_neg c4] at H
    have c4b0 : (a0 == 2) = false := beq_eq_false_iff_ne.mpr c4
    have c4b1 : (a0 != 2) = true := bne_iff_ne.mpr c4
    by_cases c7 : a0 = 39
    · rw [if_pos c7] at H
      have c7b0 : (a0 == 39) = true := beq_iff_eq.mpr c7
      have c7b1 : (a0 != 39) = false := bne_eq_false_iff_eq.mpr c7
      clear c7
      replace H := Option.bind_eq_some_iff.mp H
      obtain ⟨t103, A80, H⟩ := H
      replace H : ((alu_Nz.f (Go.bits .or .u8 ((a1 * 2) % 256) (Go.bits .and .u8 a2 1)) t103).bind fun t104 => (some (Go.bits .or .u8 ((a1 * 2) % 256) (Go.bits .and .u8 a2 1), t104))) = some (r1, r2) := H
      have A8 := Aside0.mk A80
      clear A80
      replace H := Option.bind_eq_some_iff.mp H
      obtain ⟨t104, A90, H⟩ := H
      replace H : (some (Go.bits .or .u8 ((a1 * 2) % 256) (Go.bits .and .u8 a2 1), t104)) = some (r1, r2) := H
      have A9 := Aside0.mk A90
      clear A90
      simp only [Option.some.injEq, Prod.mk.injEq] at H
      obtain ⟨rfl, rfl⟩ := H
      go_enter Try.func14, Try.ntmps14
      go_wp2_with (first | ((with_reducible refine gate_callee (f := 36) rfl ?_); refine goesL_ (some 53) rfl rfl Try.func36 (by kernel_rfl) rfl #[.int .u8 a2, .int .u8 1, .bool ((Go.bits .and .u8 a1 128) != 0)] rfl (by (try simp only [List.map_toArray, List.map_cons, List.map_nil]); first | done | rfl | (simp only [List.length_drop, List.length_take]; rfl)) ?_; (with_reducible refine (alu_put.calls a2 1 ((Go.bits .and .u8 a1 128) != 0) t103 _ A8.out).mono ?_); rintro e w' ⟨rfl, ⟨nd, rfl⟩⟩; refine ⟨_, rfl, ?_⟩) | ((with_reducible refine gate_callee (f := 25) rfl ?_); refine goesL_ (some 54) rfl rfl Try.func25 (by kernel_rfl) rfl #[.int .u8 (Go.bits .or .u8 ((a1 * 2) % 256) (Go.bits .and .u8 a2 1)), .int .u8 t103] rfl (by (try simp only [List.map_toArray, List.map_cons, List.map_nil]); first | done | rfl | (simp only [List.length_drop, List.length_take]; rfl)) ?_; (with_reducible refine (alu_Nz.calls (Go.bits .or .u8 ((a1 * 2) % 256) (Go.bits .and .u8 a2 1)) t103 t104 _ A9.out).mono ?_); rintro e w' ⟨rfl, ⟨nd, rfl⟩⟩; refine ⟨_, rfl, ?_⟩))
      go_ret2
      exact ⟨by first | rfl | (simp; done) | (simp [*]; done), by repeat (first | exact Drawn0.refl _ | apply Drawn0.step)⟩
    · rw [if_neg c7] at H
      have c7b0 : (a0 == 39) = false := beq_eq_false_iff_ne.mpr c7
      have c7b1 : (a0 != 39) = true := bne_iff_ne.mpr c7
      by_cases c10 : a0 = 32
      · rw [if_pos c10] at H
        have c10b0 : (a0 == 32) = true := beq_iff_eq.mpr c10
        have c10b1 : (a0 != 32) = false := bne_eq_false_iff_eq.mpr c10
        clear c10
        replace H := Option.bind_eq_some_iff.mp H
        obtain ⟨t105, A110, H⟩ := H
        replace H : ((alu_Nz.f (a1 / 2) t105).bind fun t106 => (some (a1 / 2, t106))) = some (r1, r2) := H
        have A11 := Aside0.mk A110
        clear A110
        replace H := Option.bind_eq_some_iff.mp H
        obtain ⟨t106, A120, H⟩ := H
        replace H : (some (a1 / 2, t106)) = some (r1, r2) := H
        have A12 := Aside0.mk A120
        clear A120
        simp only [Option.some.injEq, Prod.mk.injEq] at H
        obtain ⟨rfl, rfl⟩ := H
        go_enter Try.func14, Try.ntmps14
        go_wp2_with (first | ((with_reducible refine gate_callee (f := 36) rfl ?_); refine goesL_ (some 53) rfl rfl Try.func36 (by kernel_rfl) rfl #[.int .u8 a2, .int .u8 1, .bool ((Go.bits .and .u8 a1 1) != 0)] rfl (by (try simp only [List.map_toArray, List.map_cons, List.map_nil]); first | done | rfl | (simp only [List.length_drop, List.length_take]; rfl)) ?_; (with_reducible refine (alu_put.calls a2 1 ((Go.bits .and .u8 a1 1) != 0) t105 _ A11.out).mono ?_); rintro e w' ⟨rfl, ⟨nd, rfl⟩⟩; refine ⟨_, rfl, ?_⟩) | ((with_reducible refine gate_callee (f := 25) rfl ?_); refine goesL_ (some 54) rfl rfl Try.func25 (by kernel_rfl) rfl #[.int .u8 (a1 / 2), .int .u8 t105] rfl (by (try simp only [List.map_toArray, List.map_cons, List.map_nil]); first | done | rfl | (simp only [List.length_drop, List.length_take]; rfl)) ?_; (with_reducible refine (alu_Nz.calls (a1 / 2) t105 t106 _ A12.out).mono ?_); rintro e w' ⟨rfl, ⟨nd, rfl⟩⟩; refine ⟨_, rfl, ?_⟩))
        go_ret2
        exact ⟨by first | rfl | (simp; done) | (simp [*]; done), by repeat (first | exact Drawn0.refl _ | apply Drawn0.step)⟩
      · rw [if_neg c10] at H
        have c10b0 : (a0 == 32) = false := beq_eq_false_iff_ne.mpr c10
        have c10b1 : (a0 != 32) = true := bne_iff_ne.mpr c10
        by_cases c13 : a0 = 40
        · rw [if_pos c13] at H
          have c13b0 : (a0 == 40) = true := beq_iff_eq.mpr c13
          have c13b1 : (a0 != 40) = false := bne_eq_false_iff_eq.mpr c13
          clear c13
          replace H := Option.bind_eq_some_iff.mp H
          obtain ⟨t107, A140, H⟩ := H
          replace H : ((alu_Nz.f (Go.bits .or .u8 (a1 / 2) (((Go.bits .and .u8 a2 1) * 128) % 256)) t107).bind fun t108 => (some (Go.bits .or .u8 (a1 / 2) (((Go.bits .and .u8 a2 1) * 128) % 256), t108))) = some (r1, r2) := H
          have A14 := Aside0.mk A140
          clear A140
          replace H := Option.bind_eq_some_iff.mp H
          obtain ⟨t108, A150, H⟩ := H
          replace H : (some (Go.bits .or .u8 (a1 / 2) (((Go.bits .and .u8 a2 1) * 128) % 256), t108)) = some (r1, r2) := H
          have A15 := Aside0.mk A150
          clear A150
          simp only [Option.some.injEq, Prod.mk.injEq] at H
          obtain ⟨rfl, rfl⟩ := H
          go_enter Try.func14, Try.ntmps14
          go_wp2_with (first | ((with_reducible refine gate_callee (f := 36) rfl ?_); refine goesL_ (some 53) rfl rfl Try.func36 (by kernel_rfl) rfl #[.int .u8 a2, .int .u8 1, .bool ((Go.bits .and .u8 a1 1) != 0)] rfl (by (try simp only [List.map_toArray, List.map_cons, List.map_nil]); first | done | rfl | (simp only [List.length_drop, List.length_take]; rfl)) ?_; (with_reducible refine (alu_put.calls a2 1 ((Go.bits .and .u8 a1 1) != 0) t107 _ A14.out).mono ?_); rintro e w' ⟨rfl, ⟨nd, rfl⟩⟩; refine ⟨_, rfl, ?_⟩) | ((with_reducible refine gate_callee (f := 25) rfl ?_); refine goesL_ (some 54) rfl rfl Try.func25 (by kernel_rfl) rfl #[.int .u8 (Go.bits .or .u8 (a1 / 2) (((Go.bits .and .u8 a2 1) * 128) % 256)), .int .u8 t107] rfl (by (try simp only [List.map_toArray, List.map_cons, List.map_nil]); first | done | rfl | (simp only [List.length_drop, List.length_take]; rfl)) ?_; (with_reducible refine (alu_Nz.calls (Go.bits .or .u8 (a1 / 2) (((Go.bits .and .u8 a2 1) * 128) % 256)) t107 t108 _ A15.out).mono ?_); rintro e w' ⟨rfl, ⟨nd, rfl⟩⟩; refine ⟨_, rfl, ?_⟩))
          go_ret2
          exact ⟨by first | rfl | (simp; done) | (simp [*]; done), by repeat (first | exact Drawn0.refl _ | apply Drawn0.step)⟩
        · rw [if_neg c13] at H
          have c13b0 : (a0 == 40) = false := beq_eq_false_iff_ne.mpr c13
          have c13b1 : (a0 != 40) = true := bne_iff_ne.mpr c13
          simp only [Option.some.injEq, Prod.mk.injEq] at H
          obtain ⟨rfl, rfl⟩ := H
          go_enter Try.func14, Try.ntmps14
          go_wp2
          go_ret2
          exact ⟨by first | rfl | (simp; done) | (simp [*]; done), by repeat (first | exact Drawn0.refl _ | apply Drawn0.step)⟩

/-! ### alu_carry: function 37 -/
def alu_carry.f (a0 : Int) : Option (Int) := some (wrap64 (Go.bits .and .u8 a0 1))
set_option maxHeartbeats 8000000 in
set_option maxRecDepth 100000 in
theorem alu_carry.calls (a0 : Int) (r : Int) (w : World) (h : alu_carry.f a0 = some r) :
    Calls Try.prog 37 #[.int .u8 a0] w fun e w' => e = .returned (.int .i64 r) ∧ Drawn0 w w' := by
  have H : (some (wrap64 (Go.bits .and .u8 a0 1))) = some r := h
  clear h
  obtain rfl := Option.some.inj H
  go_enter Try.func37, Try.ntmps37
  go_wp2
  go_ret
  exact ⟨by first | rfl | (simp; done) | (simp [*]; done), by repeat (first | exact Drawn0.refl _ | apply Drawn0.step)⟩

/-! ### alu_Sbc: function 16 -/
def alu_Sbc.f (a0 : Int) (a1 : Int) (a2 : Int) : Option (Int × Int) := (alu_carry.f a2).bind fun t109 => ((alu_put.f a2 1 (decide ((wrap64 ((wrap64 ((wrap64 (a0)) - (wrap64 (a1)))) - (wrap64 (1 - t109)))) ≥ 0))).bind fun t110 => ((alu_put.f t110 64 ((Go.bits .and .u8 (Go.bits .and .u8 (Go.bits .xor .u8 a0 a1) (Go.bits .xor .u8 a0 ((wrap64 ((wrap64 ((wrap64 (a0)) - (wrap64 (a1)))) - (wrap64 (1 - t109)))) % 256))) 128) != 0)).bind fun t111 => ((alu_Nz.f ((wrap64 ((wrap64 ((wrap64 (a0)) - (wrap64 (a1)))) - (wrap64 (1 - t109)))) % 256) t111).bind fun t112 => (if (Go.bits .and .u8 a2 8) = 0 then (some ((wrap64 ((wrap64 ((wrap64 (a0)) - (wrap64 (a1)))) - (wrap64 (1 - t109)))) % 256, t112)) else (if (wrap64 ((wrap64 ((wrap64 (Go.bits .and .u8 a0 15)) - (wrap64 (Go.bits .and .u8 a1 15)))) - (wrap64 (1 - t109)))) < 0 then (if (wrap64 ((wrap64 ((wrap64 (Go.bits .and .u8 a0 240)) - (wrap64 (Go.bits .and .u8 a1 240)))) + (wrap64 ((Go.bits .and .i64 (wrap64 ((wrap64 ((wrap64 ((wrap64 (Go.bits .and .u8 a0 15)) - (wrap64 (Go.bits .and .u8 a1 15)))) - (wrap64 (1 - t109)))) - 6)) 15) - 16)))) < 0 then (some ((wrap64 ((wrap64 ((wrap64 ((wrap64 (Go.bits .and .u8 a0 240)) - (wrap64 (Go.bits .and .u8 a1 240)))) + (wrap64 ((Go.bits .and .i64 (wrap64 ((wrap64 ((wrap64 ((wrap64 (Go.bits .and .u8 a0 15)) - (wrap64 (Go.bits .and .u8 a1 15)))) - (wrap64 (1 - t109)))) - 6)) 15) - 16)))) - 96)) % 256, t112)) else (some ((wrap64 ((wrap64 ((wrap64 (Go.bits .and .u8 a0 240)) - (wrap64 (Go.bits .and .u8 a1 240)))) + (wrap64 ((Go.bits .and .i64 (wrap64 ((wrap64 ((wrap64 ((wrap64 (Go.bits .and .u8 a0 15)) - (wrap64 (Go.bits .and .u8 a1 15)))) - (wrap64 (1 - t109)))) - 6)) 15) - 16)))) % 256, t112))) else (if (wrap64 ((wrap64 ((wrap64 (Go.bits .and .u8 a0 240)) - (wrap64 (Go.bits .and .u8 a1 240)))) + (wrap64 ((wrap64 ((wrap64 (Go.bits .and .u8 a0 15)) - (wrap64 (Go.bits .and .u8 a1 15)))) - (wrap64 (1 - t109)))))) < 0 then (some ((wrap64 ((wrap64 ((wrap64 ((wrap64 (Go.bits .and .u8 a0 240)) - (wrap64 (Go.bits .and .u8 a1 240)))) + (wrap64 ((wrap64 ((wrap64 (Go.bits .and .u8 a0 15)) - (wrap64 (Go.bits .and .u8 a1 15)))) - (wrap64 (1 - t109)))))) - 96)) % 256, t112)) else (some ((wrap64 ((wrap64 ((wrap64 (Go.bits .and .u8 a0 240)) - (wrap64 (Go.bits .and .u8 a1 240)))) + (wrap64 ((wrap64 ((wrap64 (Go.bits .and .u8 a0 15)) - (wrap64 (Go.bits .and .u8 a1 15)))) - (wrap64 (1 - t109)))))) % 256, t112))))))))
set_option maxHeartbeats 8000000 in
set_option maxRecDepth 100000 in
theorem alu_Sbc.calls (a0 : Int) (a1 : Int) (a2 : Int) (r1 : Int) (r2 : Int) (w : World) (h : alu_Sbc.f a0 a1 a2 = some (r1, r2)) :
    Calls Try.prog 16 #[.int .u8 a0, .int .u8 a1, .int .u8 a2] w fun e w' => e = .returned (.tuple #[.int .u8 r1, .int .u8 r2]) ∧ Drawn0 w w' := by
  have H : ((alu_carry.f a2).bind fun t109 => ((alu_put.f a2 1 (decide ((wrap64 ((wrap64 ((wrap64 (a0)) - (wrap64 (a1)))) - (wrap64 (1 - t109)))) ≥ 0))).bind fun t110 => ((alu_put.f t110 64 ((Go.bits .and .u8 (Go.bits .and .u8 (Go.bits .xor .u8 a0 a1) (Go.bits .xor .u8 a0 ((wrap64 ((wrap64 ((wrap64 (a0)) - (wrap64 (a1)))) - (wrap64 (1 - t109)))) % 256))) 128) != 0)).bind fun t111 => ((alu_Nz.f ((wrap64 ((wrap64 ((wrap64 (a0)) - (wrap64 (a1)))) - (wrap64 (1 - t109)))) % 256) t111).bind fun t112 => (if (Go.bits .and .u8 a2 8) = 0 then (some ((wrap64 ((wrap64 ((wrap64 (a0)) - (wrap64 (a1)))) - (wrap64 (1 - t109)))) % 256, t112)) else (if (wrap64 ((wrap64 ((wrap64 (Go.bits .and .u8 a0 15)) - (wrap64 (Go.bits .and .u8 a1 15)))) - (wrap64 (1 - t109)))) < 0 then (if (wrap64 ((wrap64 ((wrap64 (Go.bits .and .u8 a0 240)) - (wrap64 (Go.bits .and .u8 a1 240)))) + (wrap64 ((Go.bits .and .i64 (wrap64 ((wrap64 ((wrap64 ((wrap64 (Go.bits .and .u8 a0 15)) - (wrap64 (Go.bits .and .u8 a1 15)))) - (wrap64 (1 - t109)))) - 6)) 15) - 16)))) < 0 then (some ((wrap64 ((wrap64 ((wrap64 ((wrap64 (Go.bits .and .u8 a0 240)) - (wrap64 (Go.bits .and .u8 a1 240)))) + (wrap64 ((Go.bits .and .i64 (wrap64 ((wrap64 ((wrap64 ((wrap64 (Go.bits .and .u8 a0 15)) - (wrap64 (Go.bits .and .u8 a1 15)))) - (wrap64 (1 - t109)))) - 6)) 15) - 16)))) - 96)) % 256, t112)) else (some ((wrap64 ((wrap64 ((wrap64 (Go.bits .and .u8 a0 240)) - (wrap64 (Go.bits .and .u8 a1 240)))) + (wrap64 ((Go.bits .and .i64 (wrap64 ((wrap64 ((wrap64 ((wrap64 (Go.bits .and .u8 a0 15)) - (wrap64 (Go.bits .and .u8 a1 15)))) - (wrap64 (1 - t109)))) - 6)) 15) - 16)))) % 256, t112))) else (if (wrap64 ((wrap64 ((wrap64 (Go.bits .and .u8 a0 240)) - (wrap64 (Go.bits .and .u8 a1 240)))) + (wrap64 ((wrap64 ((wrap64 (Go.bits .and .u8 a0 15)) - (wrap64 (Go.bits .and .u8 a1 15)))) - (wrap64 (1 - t109)))))) < 0 then (some ((wrap64 ((wrap64 ((wrap64 ((wrap64 (Go.bits .and .u8 a0 240)) - (wrap64 (Go.bits .and .u8 a1 240)))) + (wrap64 ((wrap64 ((wrap64 (Go.bits .and .u8 a0 15)) - (wrap64 (Go.bits .and .u8 a1 15)))) - (wrap64 (1 - t109)))))) - 96)) % 256, t112)) else (some ((wrap64 ((wrap64 ((wrap64 (Go.bits .and .u8 a0 240)) - (wrap64 (Go.bits .and .u8 a1 240)))) + (wrap64 ((wrap64 ((wrap64 (Go.bits .and .u8 a0 15)) - (wrap64 (Go.bits .and .u8 a1 15)))) - (wrap64 (1 - t109)))))) % 256, t112))))))))) = some (r1, r2) := h
  clear h
  replace H := Option.bind_eq_some_iff.mp H
  obtain ⟨t109, A40, H⟩ := H
  replace H : ((alu_put.f a2 1 (decide ((wrap64 ((wrap64 ((wrap64 (a0)) - (wrap64 (a1)))) - (wrap64 (1 - t109)))) ≥ 0))).bind fun t110 => ((alu_put.f t110 64 ((Go.bits .and .u8 (Go.bits .and .u8 (Go.bits .xor .u8 a0 a1) (Go.bits .xor .u8 a0 ((wrap64 ((wrap64 ((wrap64 (a0)) - (wrap64 (a1)))) - (wrap64 (1 - t109)))) % 256))) 128) != 0)).bind fun t111 => ((alu_Nz.f ((wrap64 ((wrap64 ((wrap64 (a0)) - (wrap64 (a1)))) - (wrap64 (1 - t109)))) % 256) t111).bind fun t112 => (if (Go.bits .and .u8 a2 8) = 0 then (some ((wrap64 ((wrap64 ((wrap64 (a0)) - (wrap64 (a1)))) - (wrap64 (1 - t109)))) % 256, t112)) else (if (wrap64 ((wrap64 ((wrap64 (Go.bits .and .u8 a0 15)) - (wrap64 (Go.bits .and .u8 a1 15)))) - (wrap64 (1 - t109)))) < 0 then (if (wrap64 ((wrap64 ((wrap64 (Go.bits .and .u8 a0 240)) - (wrap64 (Go.bits .and .u8 a1 240)))) + (wrap64 ((Go.bits .and .i64 (wrap64 ((wrap64 ((wrap64 ((wrap64 (Go.bits .and .u8 a0 15)) - (wrap64 (Go.bits .and .u8 a1 15)))) - (wrap64 (1 - t109)))) - 6)) 15) - 16)))) < 0 then (some ((wrap64 ((wrap64 ((wrap64 ((wrap64 (Go.bits .and .u8 a0 240)) - (wrap64 (Go.bits .and .u8 a1 240)))) + (wrap64 ((Go.bits .and .i64 (wrap64 ((wrap64 ((wrap64 ((wrap64 (Go.bits .and .u8 a0 15)) - (wrap64 (Go.bits .and .u8 a1 15)))) - (wrap64 (1 - t109)))) - 6)) 15) - 16)))) - 96)) % 256, t112)) else (some ((wrap64 ((wrap64 ((wrap64 (Go.bits .and .u8 a0 240)) - (wrap64 (Go.bits .and .u8 a1 240)))) + (wrap64 ((Go.bits .and .i64 (wrap64 ((wrap64 ((wrap64 ((wrap64 (Go.bits .and .u8 a0 15)) - (wrap64 (Go.bits .and .u8 a1 15)))) - (wrap64 (1 - t109)))) - 6)) 15) - 16)))) % 256, t112))) else (if (wrap64 ((wrap64 ((wrap64 (Go.bits .and .u8 a0 240)) - (wrap64 (Go.bits .and .u8 a1 240)))) + (wrap64 ((wrap64 ((wrap64 (Go.bits .and .u8 a0 15)) - (wrap64 (Go.bits .and .u8 a1 15)))) - (wrap64 (1 - t109)))))) < 0 then (some ((wrap64 ((wrap64 ((wrap64 ((wrap64 (Go.bits .and .u8 a0 240)) - (wrap64 (Go.bits .and .u8 a1 240)))) + (wrap64 ((wrap64 ((wrap64 (Go.bits .and .u8 a0 15)) - (wrap64 (Go.bits .and .u8 a1 15)))) - (wrap64 (1 - t109)))))) - 96)) % 256, t112)) else (some ((wrap64 ((wrap64 ((wrap64 (Go.bits .and .u8 a0 240)) - (wrap64 (Go.bits .and .u8 a1 240)))) + (wrap64 ((wrap64 ((wrap64 (Go.bits .and .u8 a0 15)) - (wrap64 (Go.bits .and .u8 a1 15)))) - (wrap64 (1 - t109)))))) % 256, t112)))))))) = some (r1, r2) := H
  have A4 := Aside0.mk A40
  clear A40
  replace H := Option.bind_eq_some_iff.mp H
  obtain ⟨t110, A50, H⟩ := H
  replace H : ((alu_put.f t110 64 ((Go.bits .and .u8 (Go.bits .and .u8 (Go.bits .xor .u8 a0 a1) (Go.bits .xor .u8 a0 ((wrap64 ((wrap64 ((wrap64 (a0)) - (wrap64 (a1)))) - (wrap64 (1 - t109)))) % 256))) 128) != 0)).bind fun t111 => ((alu_Nz.f ((wrap64 ((wrap64 ((wrap64 (a0)) - (wrap64 (a1)))) - (wrap64 (1 - t109)))) % 256) t111).bind fun t112 => (if (Go.bits .and .u8 a2 8) = 0 then (some ((wrap64 ((wrap64 ((wrap64 (a0)) - (wrap64 (a1)))) - (wrap64 (1 - t109)))) % 256, t112)) else (if (wrap64 ((wrap64 ((wrap64 (Go.bits .and .u8 a0 15)) - (wrap64 (Go.bits .and .u8 a1 15)))) - (wrap64 (1 - t109)))) < 0 then (if (wrap64 ((wrap64 ((wrap64 (Go.bits .and .u8 a0 240)) - (wrap64 (Go.bits .and .u8 a1 240)))) + (wrap64 ((Go.bits .and .i64 (wrap64 ((wrap64 ((wrap64 ((wrap64 (Go.bits .and .u8 a0 15)) - (wrap64 (Go.bits .and .u8 a1 15)))) - (wrap64 (1 - t109)))) - 6)) 15) - 16)))) < 0 then (some ((wrap64 ((wrap64 ((wrap64 ((wrap64 (Go.bits .and .u8 a0 240)) - (wrap64 (Go.bits .and .u8 a1 240)))) + (wrap64 ((Go.bits .and .i64 (wrap64 ((wrap64 ((wrap64 ((wrap64 (Go.bits .and .u8 a0 15)) - (wrap64 (Go.bits .and .u8 a1 15)))) - (wrap64 (1 - t109)))) - 6)) 15) - 16)))) - 96)) % 256, t112)) else (some ((wrap64 ((wrap64 ((wrap64 (Go.bits .and .u8 a0 240)) - (wrap64 (Go.bits .and .u8 a1 240)))) + (wrap64 ((Go.bits .and .i64 (wrap64 ((wrap64 ((wrap64 ((wrap64 (Go.bits .and .u8 a0 15)) - (wrap64 (Go.bits .and .u8 a1 15)))) - (wrap64 (1 - t109)))) - 6)) 15) - 16)))) % 256, t112))) else (if (wrap64 ((wrap64 ((wrap64 (Go.bits .and .u8 a0 240)) - (wrap64 (Go.bits .and .u8 a1 240)))) + (wrap64 ((wrap64 ((wrap64 (Go.bits .and .u8 a0 15)) - (wrap64 (Go.bits .and .u8 a1 15)))) - (wrap64 (1 - t109)))))) < 0 then (some ((wrap64 ((wrap64 ((wrap64 ((wrap64 (Go.bits .and .u8 a0 240)) - (wrap64 (Go.bits .and .u8 a1 240)))) + (wrap64 ((wrap64 ((wrap64 (Go.bits .and .u8 a0 15)) - (wrap64 (Go.bits .and .u8 a1 15)))) - (wrap64 (1 - t109)))))) - 96)) % 256, t112)) else (some ((wrap64 ((wrap64 ((wrap64 (Go.bits .and .u8 a0 240)) - (wrap64 (Go.bits .and .u8 a1 240)))) + (wrap64 ((wrap64 ((wrap64 (Go.bits .and .u8 a0 15)) - (wrap64 (Go.bits .and .u8 a1 15)))) - (wrap64 (1 - t109)))))) % 256, t112))))))) = some (r1, r2) := H
  have A5 := Aside0.mk A50
  clear A50
  replace H := Option.bind_eq_some_iff.mp H
  obtain ⟨t111, A60, H⟩ := H
  replace H : ((alu_Nz.f ((wrap64 ((wrap64 ((wrap64 (a0)) - (wrap64 (a1)))) - (wrap64 (1 - t109)))) % 256) t111).bind fun t112 => (if (Go.bits .and .u8 a2 8) = 0 then (some ((wrap64 ((wrap64 ((wrap64 (a0)) - (wrap64 (a1)))) - (wrap64 (1 - t109)))) % 256, t112)) else (if (wrap64 ((wrap64 ((wrap64 (Go.bits .and .u8 a0 15)) - (wrap64 (Go.bits .and .u8 a1 15)))) - (wrap64 (1 - t109)))) < 0 then (if (wrap64 ((wrap64 ((wrap64 (Go.bits .and .u8 a0 240)) - (wrap64 (Go.bits .and .u8 a1 240)))) + (wrap64 ((Go.bits .and .i64 (wrap64 ((wrap64 ((wrap64 ((wrap64 (Go.bits .and .u8 a0 15)) - (wrap64 (Go.bits .and .u8 a1 15)))) - (wrap64 (1 - t109)))) - 6)) 15) - 16)))) < 0 then (some ((wrap64 ((wrap64 ((wrap64 ((wrap64 (Go.bits .and .u8 a0 240)) - (wrap64 (Go.bits .and .u8 a1 240)))) + (wrap64 ((Go.bits .and .i64 (wrap64 ((wrap64 ((wrap64 ((wrap64 (Go.bits .and .u8 a0 15)) - (wrap64 (Go.bits .and .u8 a1 15)))) - (wrap64 (1 - t109)))) - 6)) 15) - 16)))) - 96)) % 256, t112)) else (some ((wrap64 ((wrap64 ((wrap64 (Go.bits .and .u8 a0 240)) - (wrap64 (Go.bits .and .u8 a1 240)))) + (wrap64 ((Go.bits .and .i64 (wrap64 ((wrap64 ((wrap64 ((wrap64 (Go.bits .and .u8 a0 15)) - (wrap64 (Go.bits .and .u8 a1 15)))) - (wrap64 (1 - t109)))) - 6)) 15) - 16)))) % 256, t112))) else (if (wrap64 ((wrap64 ((wrap64 (Go.bits .and .u8 a0 240)) - (wrap64 (Go.bits .and .u8 a1 240)))) + (wrap64 ((wrap64 ((wrap64 (Go.bits .and .u8 a0 15)) - (wrap64 (Go.bits .and .u8 a1 15)))) - (wrap64 (1 - t109)))))) < 0 then (some ((wrap64 ((wrap64 ((wrap64 ((wrap64 (Go.bits .and .u8 a0 240)) - (wrap64 (Go.bits .and .u8 a1 240)))) + (wrap64 ((wrap64 ((wrap64 (Go.bits .and .u8 a0 15)) - (wrap64 (Go.bits .and .u8 a1 15)))) - (wrap64 (1 - t109)))))) - 96)) % 256, t112)) else (some ((wrap64 ((wrap64 ((wrap64 (Go.bits .and .u8 a0 240)) - (wrap64 (Go.bits .and .u8 a1 240)))) + (wrap64 ((wrap64 ((wrap64 (Go.bits .and .u8 a0 15)) - (wrap64 (Go.bits .and .u8 a1 15)))) - (wrap64 (1 - t109)))))) % 256, t112)))))) = some (r1, r2) := H
  have A6 := Aside0.mk A60
  clear A60
  replace H := Option.bind_eq_some_iff.mp H
  obtain ⟨t112, A70, H⟩ := H
  replace H : (if (Go.bits .and .u8 a2 8) = 0 then (some ((wrap64 ((wrap64 ((wrap64 (a0)) - (wrap64 (a1)))) - (wrap64 (1 - t109)))) % 256, t112)) else (if (wrap64 ((wrap64 ((wrap64 (Go.bits .and .u8 a0 15)) - (wrap64 (Go.bits .and .u8 a1 15)))) - (wrap64 (1 - t109)))) < 0 then (if (wrap64 ((wrap64 ((wrap64 (Go.bits .and .u8 a0 240)) - (wrap64 (Go.bits .and .u8 a1 240)))) + (wrap64 ((Go.bits .and .i64 (wrap64 ((wrap64 ((wrap64 ((wrap64 (Go.bits .and .u8 a0 15)) - (wrap64 (Go.bits .and .u8 a1 15)))) - (wrap64 (1 - t109)))) - 6)) 15) - 16)))) < 0 then (some ((wrap64 ((wrap64 ((wrap64 ((wrap64 (Go.bits .and .u8 a0 240)) - (wrap64 (Go.bits .and .u8 a1 240)))) + (wrap64 ((Go.bits .and .i64 (wrap64 ((wrap64 ((wrap64 ((wrap64 (Go.bits .and .u8 a0 15)) - (wrap64 (Go.bits .and .u8 a1 15)))) - (wrap64 (1 - t109)))) - 6)) 15) - 16)))) - 96)) % 256, t112)) else (some ((wrap64 ((wrap64 ((wrap64 (Go.bits .and .u8 a0 240)) - (wrap64 (Go.bits .and .u8 a1 240)))) + (wrap64 ((Go.bits .and .i64 (wrap64 ((wrap64 ((wrap64 ((wrap64 (Go.bits .and .u8 a0 15)) - (wrap64 (Go.bits .and .u8 a1 15)))) - (wrap64 (1 - t109)))) - 6)) 15) - 16)))) % 256, t112))) else (if (wrap64 ((wrap64 ((wrap64 (Go.bits .and .u8 a0 240)) - (wrap64 (Go.bits .and .u8 a1 240)))) + (wrap64 ((wrap64 ((wrap64 (Go.bits .and .u8 a0 15)) - (wrap64 (Go.bits .and .u8 a1 15)))) - (wrap64 (1 - t109)))))) < 0 then (some ((wrap64 ((wrap64 ((wrap64 ((wrap64 (Go.bits .and .u8 a0 240)) - (wrap64 (Go.bits .and .u8 a1 240)))) + (wrap64 ((wrap64 ((wrap64 (Go.bits .and .u8 a0 15)) - (wrap64 (Go.bits .and .u8 a1 15)))) - (wrap64 (1 - t109)))))) - 96)) % 256, t112)) else (some ((wrap64 ((wrap64 ((wrap64 (Go.bits .and .u8 a0 240)) - (wrap64 (Go.bits .and .u8 a1 240)))) + (wrap64 ((wrap64 ((wrap64 (Go.bits .and .u8 a0 15)) - (wrap64 (Go.bits .and .u8 a1 15)))) - (wrap64 (1 - t109)))))) % 256, t112))))) = some (r1, r2) := H
  have A7 := Aside0.mk A70
  clear A70
  by_cases c8 : (Go.bits .and .u8 a2 8) = 0
  · rw [if_pos c8] at H
    have c8b0 : ((Go.bits .and .u8 a2 8) == 0) = true := beq_iff_eq.mpr c8
    have c8b1 : ((Go.bits .and .u8 a2 8) != 0) = false := bne_eq_false_iff_eq.mpr c8
    clear c8
    simp only [Option.some.injEq, Prod.mk.injEq] at H
    obtain ⟨rfl, rfl⟩ := H
    go_enter Try.func16, Try.ntmps16
    go_wp2_with (first | ((with_reducible refine gate_callee (f := 37) rfl ?_); refine goesL_ (some 15) rfl rfl Try.func37 (by kernel_rfl) rfl #[.int .u8 a2] rfl (by (try simp only [List.map_toArray, List.map_cons, List.map_nil]); first | done | rfl | (simp only [List.length_drop, List.length_take]; rfl)) ?_; (with_reducible refine (alu_carry.calls a2 t109 _ A4.out).mono ?_); rintro e w' ⟨rfl, ⟨nd, rfl⟩⟩; refine ⟨_, rfl, ?_⟩) | ((with_reducible refine gate_callee (f := 36) rfl ?_); refine goesL_ (some 29) rfl rfl Try.func36 (by kernel_rfl) rfl #[.int .u8 a2, .int .u8 1, .bool (decide ((wrap64 ((wrap64 ((wrap64 (a0)) - (wrap64 (a1)))) - (wrap64 (1 - t109)))) ≥ 0))] rfl (by (try simp only [List.map_toArray, List.map_cons, List.map_nil]); first | done | rfl | (simp only [List.length_drop, List.length_take]; rfl)) ?_; (with_reducible refine (alu_put.calls a2 1 (decide ((wrap64 ((wrap64 ((wrap64 (a0)) - (wrap64 (a1)))) - (wrap64 (1 - t109)))) ≥ 0)) t110 _ A5.out).mono ?_); rintro e w' ⟨rfl, ⟨nd, rfl⟩⟩; refine ⟨_, rfl, ?_⟩) | ((with_reducible refine gate_callee (f := 36) rfl ?_); refine goesL_ (some 40) rfl rfl Try.func36 (by kernel_rfl) rfl #[.int .u8 t110, .int .u8 64, .bool ((Go.bits .and .u8 (Go.bits .and .u8 (Go.bits .xor .u8 a0 a1) (Go.bits .xor .u8 a0 ((wrap64 ((wrap64 ((wrap64 (a0)) - (wrap64 (a1)))) - (wrap64 (1 - t109)))) % 256))) 128) != 0)] rfl (by (try simp only [List.map_toArray, List.map_cons, List.map_nil]); first | done | rfl | (simp only [List.length_drop, List.length_take]; rfl)) ?_; (with_reducible refine (alu_put.calls t110 64 ((Go.bits .and .u8 (Go.bits .and .u8 (Go.bits .xor .u8 a0 a1) (Go.bits .xor .u8 a0 ((wrap64 ((wrap64 ((wrap64 (a0)) - (wrap64 (a1)))) - (wrap64 (1 - t109)))) % 256))) 128) != 0) t111 _ A6.out).mono ?_); rintro e w' ⟨rfl, ⟨nd, rfl⟩⟩; refine ⟨_, rfl, ?_⟩) | ((with_reducible refine gate_callee (f := 25) rfl ?_); refine goesL_ (some 43) rfl rfl Try.func25 (by kernel_rfl) rfl #[.int .u8 ((wrap64 ((wrap64 ((wrap64 (a0)) - (wrap64 (a1)))) - (wrap64 (1 - t109)))) % 256), .int .u8 t111] rfl (by (try simp only [List.map_toArray, List.map_cons, List.map_nil]); first | done | rfl | (simp only [List.length_drop, List.length_take]; rfl)) ?_; (with_reducible refine (alu_Nz.calls ((wrap64 ((wrap64 ((wrap64 (a0)) - (wrap64 (a1)))) - (wrap64 (1 - t109)))) % 256) t111 t112 _ A7.out).mono ?_); rintro e w' ⟨rfl, ⟨nd, rfl⟩⟩; refine ⟨_, rfl, ?_⟩))
    go_ret2
    exact ⟨by first | rfl | (simp; done) | (simp [*]; done), by repeat (first | exact Drawn0.refl _ | apply Drawn0.step)⟩
  · rw [if_neg c8] at H
    have c8b0 : ((Go.bits .and .u8 a2 8) == 0) = false := beq_eq_false_iff_ne.mpr c8
    have c8b1 : ((Go.bits .and .u8 a2 8) != 0) = true := bne_iff_ne.mpr c8
    by_cases c9 : (wrap64 ((wrap64 ((wrap64 (Go.bits .and .u8 a0 15)) - (wrap64 (Go.bits .and .u8 a1 15)))) - (wrap64 (1 - t109)))) < 0
    · rw [if_pos c9] at H
      have c9b0 : decide ((wrap64 ((wrap64 ((wrap64 (Go.bits .and .u8 a0 15)) - (wrap64 (Go.bits .and .u8 a1 15)))) - (wrap64 (1 - t109)))) < 0) = true := decide_eq_true c9
      clear c9
      by_cases c10 : (wrap64 ((wrap64 ((wrap64 (Go.bits .and .u8 a0 240)) - (wrap64 (Go.bits .and .u8 a1 240)))) + (wrap64 ((Go.bits .and .i64 (wrap64 ((wrap64 ((wrap64 ((wrap64 (Go.bits .and .u8 a0 15)) - (wrap64 (Go.bits .and .u8 a1 15)))) - (wrap64 (1 - t109)))) - 6)) 15) - 16)))) < 0
      · rw [if_pos c10] at H
        have c10b0 : decide ((wrap64 ((wrap64 ((wrap64 (Go.bits .and .u8 a0 240)) - (wrap64 (Go.bits .and .u8 a1 240)))) + (wrap64 ((Go.bits .and .i64 (wrap64 ((wrap64 ((wrap64 ((wrap64 (Go.bits .and .u8 a0 15)) - (wrap64 (Go.bits .and .u8 a1 15)))) - (wrap64 (1 - t109)))) - 6)) 15) - 16)))) < 0) = true := decide_eq_true c10
        clear c10
        simp only [Option.some.injEq, Prod.mk.injEq] at H
        obtain ⟨rfl, rfl⟩ := H
        go_enter Try.func16, Try.ntmps16
        go_wp2_with (first | ((with_reducible refine gate_callee (f := 37) rfl ?_); refine goesL_ (some 15) rfl rfl Try.func37 (by kernel_rfl) rfl #[.int .u8 a2] rfl (by (try simp only [List.map_toArray, List.map_cons, List.map_nil]); first | done | rfl | (simp only [List.length_drop, List.length_take]; rfl)) ?_; (with_reducible refine (alu_carry.calls a2 t109 _ A4.out).mono ?_); rintro e w' ⟨rfl, ⟨nd, rfl⟩⟩; refine ⟨_, rfl, ?_⟩) | ((with_reducible refine gate_callee (f := 36) rfl ?_); refine goesL_ (some 29) rfl rfl Try.func36 (by kernel_rfl) rfl #[.int .u8 a2, .int .u8 1, .bool (decide ((wrap64 ((wrap64 ((wrap64 (a0)) - (wrap64 (a1)))) - (wrap64 (1 - t109)))) ≥ 0))] rfl (by (try simp only [List.map_toArray, List.map_cons, List.map_nil]); first | done | rfl | (simp only [List.length_drop, List.length_take]; rfl)) ?_; (with_reducible refine (alu_put.calls a2 1 (decide ((wrap64 ((wrap64 ((wrap64 (a0)) - (wrap64 (a1)))) - (wrap64 (1 - t109)))) ≥ 0)) t110 _ A5.out).mono ?_); rintro e w' ⟨rfl, ⟨nd, rfl⟩⟩; refine ⟨_, rfl, ?_⟩) | ((with_reducible refine gate_callee (f := 36) rfl ?_); refine goesL_ (some 40) rfl rfl Try.func36 (by kernel_rfl) rfl #[.int .u8 t110, .int .u8 64, .bool ((Go.bits .and .u8 (Go.bits .and .u8 (Go.bits .xor .u8 a0 a1) (Go.bits .xor .u8 a0 ((wrap64 ((wrap64 ((wrap64 (a0)) - (wrap64 (a1)))) - (wrap64 (1 - t109)))) % 256))) 128) != 0)] rfl (by (try simp only [List.map_toArray, List.map_cons, List.map_nil]); first | done | rfl | (simp only [List.length_drop, List.length_take]; rfl)) ?_; (with_reducible refine (alu_put.calls t110 64 ((Go.bits .and .u8 (Go.bits .and .u8 (Go.bits .xor .u8 a0 a1) (Go.bits .xor .u8 a0 ((wrap64 ((wrap64 ((wrap64 (a0)) - (wrap64 (a1)))) - (wrap64 (1 - t109)))) % 256))) 128) != 0) t111 _ A6.out).mono ?_); rintro e w' ⟨rfl, ⟨nd, rfl⟩⟩; refine ⟨_, rfl, ?_⟩) | ((with_reducible refine gate_callee (f := 25) rfl ?_); refine goesL_ (some 43) rfl rfl Try.func25 (by kernel_rfl) rfl #[.int .u8 ((wrap64 ((wrap64 ((wrap64 (a0)) - (wrap64 (a1)))) - (wrap64 (1 - t109)))) % 256), .int .u8 t111] rfl (by (try simp only [List.map_toArray, List.map_cons, List.map_nil]); first | done | rfl | (simp only [List.length_drop, List.length_take]; rfl)) ?_; (with_reducible refine (alu_Nz.calls ((wrap64 ((wrap64 ((wrap64 (a0)) - (wrap64 (a1)))) - (wrap64 (1 - t109)))) % 256) t111 t112 _ A7.out).mono ?_); rintro e w' ⟨rfl, ⟨nd, rfl⟩⟩; refine ⟨_, rfl, ?_⟩))
        go_ret2
        exact ⟨by first | rfl | (simp; done) | (simp [*]; done), by repeat (first | exact Drawn0.refl _ | apply Drawn0.step)⟩
      · rw [if_neg c10] at H
        have c10b0 : decide ((wrap64 ((wrap64 ((wrap64 (Go.bits .and .u8 a0 240)) - (wrap64 (Go.bits .and .u8 a1 240)))) + (wrap64 ((Go.bits .and .i64 (wrap64 ((wrap64 ((wrap64 ((wrap64 (Go.bits .and .u8 a0 15)) - (wrap64 (Go.bits .and .u8 a1 15)))) - (wrap64 (1 - t109)))) - 6)) 15) - 16)))) < 0) = false := decide_eq_false c10
        clear c10
        simp only [Option.some.injEq, Prod.mk.injEq] at H
        obtain ⟨rfl, rfl⟩ := H
        go_enter Try.func16, Try.ntmps16
        go_wp2_with (first | ((with_reducible refine gate_callee (f := 37) rfl ?_); refine goesL_ (some 15) rfl rfl Try.func37 (by kernel_rfl) rfl #[.int .u8 a2] rfl (by (try simp only [List.map_toArray, List.map_cons, List.map_nil]); first | done | rfl | (simp only [List.length_drop, List.length_take]; rfl)) ?_; (with_reducible refine (alu_carry.calls a2 t109 _ A4.out).mono ?_); rintro e w' ⟨rfl, ⟨nd, rfl⟩⟩; refine ⟨_, rfl, ?_⟩) | ((with_reducible refine gate_callee (f := 36) rfl ?_); refine goesL_ (some 29) rfl rfl Try.func36 (by kernel_rfl) rfl #[.int .u8 a2, .int .u8 1, .bool (decide ((wrap64 ((wrap64 ((wrap64 (a0)) - (wrap64 (a1)))) - (wrap64 (1 - t109)))) ≥ 0))] rfl (by (try simp only [List.map_toArray, List.map_cons, List.map_nil]); first | done | rfl | (simp only [List.length_drop, List.length_take]; rfl)) ?_; (with_reducible refine (alu_put.calls a2 1 (decide ((wrap64 ((wrap64 ((wrap64 (a0)) - (wrap64 (a1)))) - (wrap64 (1 - t109)))) ≥ 0)) t110 _ A5.out).mono ?_); rintro e w' ⟨rfl, ⟨nd, rfl⟩⟩; refine ⟨_, rfl, ?_⟩) | ((with_reducible refine gate_callee (f := 36) rfl ?_); refine goesL_ (some 40) rfl rfl Try.func36 (by kernel_rfl) rfl #[.int .u8 t110, .int .u8 64, .bool ((Go.bits .and .u8 (Go.bits .and .u8 (Go.bits .xor .u8 a0 a1) (Go.bits .xor .u8 a0 ((wrap64 ((wrap64 ((wrap64 (a0)) - (wrap64 (a1)))) - (wrap64 (1 - t109)))) % 256))) 128) != 0)] rfl (by (try simp only [List.map_toArray, List.map_cons, List.map_nil]); first | done | rfl | (simp only [List.length_drop, List.length_take]; rfl)) ?_; (with_reducible refine (alu_put.calls t110 64 ((Go.bits .and .u8 (Go.bits .and .u8 (Go.bits .xor .u8 a0 a1) (Go.bits .xor .u8 a0 ((wrap64 ((wrap64 ((wrap64 (a0)) - (wrap64 (a1)))) - (wrap64 (1 - t109)))) % 256))) 128) != 0) t111 _ A6.out).mono ?_); rintro e w' ⟨rfl, ⟨nd, rfl⟩⟩; refine ⟨_, rfl, ?_⟩) | ((with_reducible refine gate_callee (f := 25) rfl ?_); refine goesL_ (some 43) rfl rfl Try.func25 (by kernel_rfl) rfl #[.int .u8 ((wrap64 ((wrap64 ((wrap64 (a0)) - (wrap64 (a1)))) - (wrap64 (1 - t109)))) % 256), .int .u8 t111] rfl (by (try simp only [List.map_toArray, List.map_cons, List.map_nil]); first | done | rfl | (simp only [List.length_drop, List.length_take]; rfl)) ?_; (with_reducible refine (alu_Nz.calls ((wrap64 ((wrap64 ((wrap64 (a0)) - (wrap64 (a1)))) - (wrap64 (1 - t109)))) % 256) t111 t112 _ A7.out).mono ?_); rintro e w' ⟨rfl, ⟨nd, rfl⟩⟩; refine ⟨_, rfl, ?_⟩))
        go_ret2
        exact ⟨by first | rfl | (simp; done) | (simp [*]; done), by repeat (first | exact Drawn0.refl _ | apply Drawn0.step)⟩
    · rw [if_neg c9] at H
      have c9b0 : decide ((wrap64 ((wrap64 ((wrap64 (Go.bits .and .u8 a0 15)) - (wrap64 (Go.bits .and .u8 a1 15)))) - (wrap64 (1 - t109)))) < 0) = false := decide_eq_false c9
      clear c9
      by_cases c11 : (wrap64 ((wrap64 ((wrap64 (Go.bits .and .u8 a0 240)) - (wrap64 (Go.bits .and .u8 a1 240)))) + (wrap64 ((wrap64 ((wrap64 (Go.bits .and .u8 a0 15)) - (wrap64 (Go.bits .and .u8 a1 15)))) - (wrap64 (1 - t109)))))) < 0
      · rw [if_pos c11] at H
        have c11b0 : decide ((wrap64 ((wrap64 ((wrap64 (Go.bits .and .u8 a0 240)) - (wrap64 (Go.bits .and .u8 a1 240)))) + (wrap64 ((wrap64 ((wrap64 (Go.bits .and .u8 a0 15)) - (wrap64 (Go.bits .and .u8 a1 15)))) - (wrap64 (1 - t109)))))) < 0) = true := decide_eq_true c11
        clear c11
        simp only [Option.some.injEq, Prod.mk.injEq] at H
        obtain ⟨rfl, rfl⟩ := H
        go_enter Try.func16, Try.ntmps16
        go_wp2_with (first | ((with_reducible refine gate_callee (f := 37) rfl ?_); refine goesL_ (some 15) rfl rfl Try.func37 (by kernel_rfl) rfl #[.int .u8 a2] rfl (by (try simp only [List.map_toArray, List.map_cons, List.map_nil]); first | done | rfl | (simp only [List.length_drop, List.length_take]; rfl)) ?_; (with_reducible refine (alu_carry.calls a2 t109 _ A4.out).mono ?_); rintro e w' ⟨rfl, ⟨nd, rfl⟩⟩; refine ⟨_, rfl, ?_⟩) | ((with_reducible refine gate_callee (f := 36) rfl ?_); refine goesL_ (some 29) rfl rfl Try.func36 (by kernel_rfl) rfl #[.int .u8 a2, .int .u8 1, .bool (decide ((wrap64 ((wrap64 ((wrap64 (a0)) - (wrap64 (a1)))) - (wrap64 (1 - t109)))) ≥ 0))] rfl (by (try simp only [List.map_toArray, List.map_cons, List.map_nil]); first | done | rfl | (simp only [List.length_drop, List.length_take]; rfl)) ?_; (with_reducible refine (alu_put.calls a2 1 (decide ((wrap64 ((wrap64 ((wrap64 (a0)) - (wrap64 (a1)))) - (wrap64 (1 - t109)))) ≥ 0)) t110 _ A5.out).mono ?_); rintro e w' ⟨rfl, ⟨nd, rfl⟩⟩; refine ⟨_, rfl, ?_⟩) | ((with_reducible refine gate_callee (f := 36) rfl ?_); refine goesL_ (some 40) rfl rfl Try.func36 (by kernel_rfl) rfl #[.int .u8 t110, .int .u8 64, .bool ((Go.bits .and .u8 (Go.bits .and .u8 (Go.bits .xor .u8 a0 a1) (Go.bits .xor .u8 a0 ((wrap64 ((wrap64 ((wrap64 (a0)) - (wrap64 (a1)))) - (wrap64 (1 - t109)))) % 256))) 128) != 0)] rfl (by (try simp only [List.map_toArray, List.map_cons, List.map_nil]); first | done | rfl | (simp only [List.length_drop, List.length_take]; rfl)) ?_; (with_reducible refine (alu_put.calls t110 64 ((Go.bits .and .u8 (Go.bits .and .u8 (Go.bits .xor .u8 a0 a1) (Go.bits .xor .u8 a0 ((wrap64 ((wrap64 ((wrap64 (a0)) - (wrap64 (a1)))) - (wrap64 (1 - t109)))) % 256))) 128) != 0) t111 _ A6.out).mono ?_); rintro e w' ⟨rfl, ⟨nd, rfl⟩⟩; refine ⟨_, rfl, ?_⟩) | ((with_reducible refine gate_callee (f := 25) rfl ?_); refine goesL_ (some 43) rfl rfl Try.func25 (by kernel_rfl) rfl #[.int .u8 ((wrap64 ((wrap64 ((wrap64 (a0)) - (wrap64 (a1)))) - (wrap64 (1 - t109)))) % 256), .int .u8 t111] rfl (by (try simp only [List.map_toArray, List.map_cons, List.map_nil]); first | done | rfl | (simp only [List.length_drop, List.length_take]; rfl)) ?_; (with_reducible refine (alu_Nz.calls ((wrap64 ((wrap64 ((wrap64 (a0)) - (wrap64 (a1)))) - (wrap64 (1 - t109)))) % 256) t111 t112 _ A7.out).mono ?_); rintro e w' ⟨rfl, ⟨nd, rfl⟩⟩; refine ⟨_, rfl, ?_⟩))
        go_ret2
        exact ⟨by first | rfl | (simp; done) | (simp [*]; done), by repeat (first | exact Drawn0.refl _ | apply Drawn0.step)⟩
      · rw [if_neg c11] at H
        have c11b0 : decide ((wrap64 ((wrap64 ((wrap64 (Go.bits .and .u8 a0 240)) - (wrap64 (Go.bits .and .u8 a1 240)))) + (wrap64 ((wrap64 ((wrap64 (Go.bits .and .u8 a0 15)) - (wrap64 (Go.bits .and .u8 a1 15)))) - (wrap64 (1 - t109)))))) < 0) = false := decide_eq_false c11
        clear c11
        simp only [Option.some.injEq, Prod.mk.injEq] at H
        obtain ⟨rfl, rfl⟩ := H
        go_enter Try.func16, Try.ntmps16
        go_wp2_with (first | ((with_reducible refine gate_callee (f := 37) rfl ?_); refine goesL_ (some 15) rfl rfl Try.func37 (by kernel_rfl) rfl #[.int .u8 a2] rfl (by (try simp only [List.map_toArray, List.map_cons, List.map_nil]); first | done | rfl | (simp only [List.length_drop, List.length_take]; rfl)) ?_; (with_reducible refine (alu_carry.calls a2 t109 _ A4.out).mono ?_); rintro e w' ⟨rfl, ⟨nd, rfl⟩⟩; refine ⟨_, rfl, ?_⟩) | ((with_reducible refine gate_callee (f := 36) rfl ?_); refine goesL_ (some 29) rfl rfl Try.func36 (by kernel_rfl) rfl #[.int .u8 a2, .int .u8 1, .bool (decide ((wrap64 ((wrap64 ((wrap64 (a0)) - (wrap64 (a1)))) - (wrap64 (1 - t109)))) ≥ 0))] rfl (by (try simp only [List.map_toArray, List.map_cons, List.map_nil]); first | done | rfl | (simp only [List.length_drop, List.length_take]; rfl)) ?_; (with_reducible refine (alu_put.calls a2 1 (decide ((wrap64 ((wrap64 ((wrap64 (a0)) - (wrap64 (a1)))) - (wrap64 (1 - t109)))) ≥ 0)) t110 _ A5.out).mono ?_); rintro e w' ⟨rfl, ⟨nd, rfl⟩⟩; refine ⟨_, rfl, ?_⟩) | ((with_reducible refine gate_callee (f := 36) rfl ?_); refine goesL_ (some 40) rfl rfl Try.func36 (by kernel_rfl) rfl #[.int .u8 t110, .int .u8 64, .bool ((Go.bits .and .u8 (Go.bits .and .u8 (Go.bits .xor .u8 a0 a1) (Go.bits .xor .u8 a0 ((wrap64 ((wrap64 ((wrap64 (a0)) - (wrap64 (a1)))) - (wrap64 (1 - t109)))) % 256))) 128) != 0)] rfl (by (try simp only [List.map_toArray, List.map_cons, List.map_nil]); first | done | rfl | (simp only [List.length_drop, List.length_take]; rfl)) ?_; (with_reducible refine (alu_put.calls t110 64 ((Go.bits .and .u8 (Go.bits .and .u8 (Go.bits .xor .u8 a0 a1) (Go.bits .xor .u8 a0 ((wrap64 ((wrap64 ((wrap64 (a0)) - (wrap64 (a1)))) - (wrap64 (1 - t109)))) % 256))) 128) != 0) t111 _ A6.out).mono ?_); rintro e w' ⟨rfl, ⟨nd, rfl⟩⟩; refine ⟨_, rfl, ?_⟩) | ((with_reducible refine gate_callee (f := 25) rfl ?_); refine goesL_ (some 43) rfl rfl Try.func25 (by kernel_rfl) rfl #[.int .u8 ((wrap64 ((wrap64 ((wrap64 (a0)) - (wrap64 (a1)))) - (wrap64 (1 - t109)))) % 256), .int .u8 t111] rfl (by (try simp only [List.map_toArray, List.map_cons, List.map_nil]); first | done | rfl | (simp only [List.length_drop, List.length_take]; rfl)) ?_; (with_reducible refine (alu_Nz.calls ((wrap64 ((wrap64 ((wrap64 (a0)) - (wrap64 (a1)))) - (wrap64 (1 - t109)))) % 256) t111 t112 _ A7.out).mono ?_); rintro e w' ⟨rfl, ⟨nd, rfl⟩⟩; refine ⟨_, rfl, ?_⟩))
        go_ret2
        exact ⟨by first | rfl | (simp; done) | (simp [*]; done), by repeat (first | exact Drawn0.refl _ | apply Drawn0.step)⟩

/-! ### alu_Adc: function 22 -/
def alu_Adc.j0 : Nat → Int → Int → Int → Int → Int → Option (Int × Int)
  | 0, _, _, _, _, _ => none
  | k + 1, x0, x1, x2, x8, x10 => (alu_Nz.f ((wrap64 ((wrap64 ((wrap64 (Go.bits .and .u8 x0 240)) + (wrap64 (Go.bits .and .u8 x1 240)))) + x10)) % 256) x2).bind fun t118 => ((alu_put.f t118 64 ((Go.bits .and .u8 (Go.bits .and .u8 (Go.bits .xor .u8 x0 ((wrap64 ((wrap64 ((wrap64 (Go.bits .and .u8 x0 240)) + (wrap64 (Go.bits .and .u8 x1 240)))) + x10)) % 256)) (Go.bits .xor .u8 x1 ((wrap64 ((wrap64 ((wrap64 (Go.bits .and .u8 x0 240)) + (wrap64 (Go.bits .and .u8 x1 240)))) + x10)) % 256))) 128) != 0)).bind fun t119 => ((alu_put.f t119 2 (((x8) % 256) == 0)).bind fun t120 => (if (wrap64 ((wrap64 ((wrap64 (Go.bits .and .u8 x0 240)) + (wrap64 (Go.bits .and .u8 x1 240)))) + x10)) ≥ 160 then ((alu_put.f t120 1 (decide ((wrap64 ((wrap64 ((wrap64 ((wrap64 (Go.bits .and .u8 x0 240)) + (wrap64 (Go.bits .and .u8 x1 240)))) + x10)) + 96)) > 255))).bind fun t121 => (some ((wrap64 ((wrap64 ((wrap64 ((wrap64 (Go.bits .and .u8 x0 240)) + (wrap64 (Go.bits .and .u8 x1 240)))) + x10)) + 96)) % 256, t121))) else ((alu_put.f t120 1 (decide ((wrap64 ((wrap64 ((wrap64 (Go.bits .and .u8 x0 240)) + (wrap64 (Go.bits .and .u8 x1 240)))) + x10)) > 255))).bind fun t122 => (some ((wrap64 ((wrap64 ((wrap64 (Go.bits .and .u8 x0 240)) + (wrap64 (Go.bits .and .u8 x1 240)))) + x10)) % 256, t122))))))
def alu_Adc.f (k : Nat) (a0 : Int) (a1 : Int) (a2 : Int) : Option (Int × Int) := (alu_carry.f a2).bind fun t113 => (if (Go.bits .and .u8 a2 8) = 0 then ((alu_put.f a2 1 (decide ((wrap64 ((wrap64 ((wrap64 (a0)) + (wrap64 (a1)))) + t113)) > 255))).bind fun t114 => ((alu_put.f t114 64 ((Go.bits .and .u8 (Go.bits .and .u8 (Go.bits .xor .u8 a0 ((wrap64 ((wrap64 ((wrap64 (a0)) + (wrap64 (a1)))) + t113)) % 256)) (Go.bits .xor .u8 a1 ((wrap64 ((wrap64 ((wrap64 (a0)) + (wrap64 (a1)))) + t113)) % 256))) 128) != 0)).bind fun t115 => ((alu_Nz.f ((wrap64 ((wrap64 ((wrap64 (a0)) + (wrap64 (a1)))) + t113)) % 256) t115).bind fun t116 => (some ((wrap64 ((wrap64 ((wrap64 (a0)) + (wrap64 (a1)))) + t113)) % 256, t116))))) else ((alu_carry.f a2).bind fun t117 => (if (wrap64 ((wrap64 ((wrap64 (Go.bits .and .u8 a0 15)) + (wrap64 (Go.bits .and .u8 a1 15)))) + t117)) > 9 then (alu_Adc.j0 k a0 a1 a2 (wrap64 ((wrap64 ((wrap64 (a0)) + (wrap64 (a1)))) + t113)) (wrap64 ((Go.bits .and .i64 (wrap64 ((wrap64 ((wrap64 ((wrap64 (Go.bits .and .u8 a0 15)) + (wrap64 (Go.bits .and .u8 a1 15)))) + t117)) + 6)) 15) + 16))) else (alu_Adc.j0 k a0 a1 a2 (wrap64 ((wrap64 ((wrap64 (a0)) + (wrap64 (a1)))) + t113)) (wrap64 ((wrap64 ((wrap64 (Go.bits .and .u8 a0 15)) + (wrap64 (Go.bits .and .u8 a1 15)))) + t117))))))
theorem alu_Adc.mono_l : ∀ k, (∀ y0 y1 y2 y3 y4, LeO (alu_Adc.j0 k y0 y1 y2 y3 y4) (alu_Adc.j0 (k + 1) y0 y1 y2 y3 y4))
  | 0 => fun _ _ _ _ _ r h => by simp [alu_Adc.j0] at h
  | k + 1 => by
    have ih0 := alu_Adc.mono_l k
    · intro y0 y1 y2 y3 y4
      unfold alu_Adc.j0
      repeat' first
      | (with_reducible exact ih0 _ _ _ _ _)
      | (with_reducible exact LeO.refl _)
      | (with_reducible exact LeO.none _)
      | (with_reducible refine LeO.ite ?_ ?_)
      | (with_reducible refine LeO.bind ?_ (fun _ => ?_))
      | exact ih0 _ _ _ _ _
      | exact LeO.none _
      | refine LeO.ite ?_ ?_
      | refine LeO.bind ?_ (fun _ => ?_)
theorem alu_Adc.mono : ∀ a0 a1 a2 k, LeO (alu_Adc.f k a0 a1 a2) (alu_Adc.f (k + 1) a0 a1 a2) := by
  intro a0 a1 a2 k
  have ih0 := alu_Adc.mono_l k
  unfold alu_Adc.f
  repeat' first
      | (with_reducible exact ih0 _ _ _ _ _)
      | (with_reducible exact LeO.refl _)
      | (with_reducible exact LeO.none _)
      | (with_reducible refine LeO.ite ?_ ?_)
      | (with_reducible refine LeO.bind ?_ (fun _ => ?_))
      | exact ih0 _ _ _ _ _
      | exact LeO.none _
      | refine LeO.ite ?_ ?_
      | refine LeO.bind ?_ (fun _ => ?_)
set_option maxHeartbeats 8000000 in
set_option maxRecDepth 100000 in
theorem alu_Adc.calls (k : Nat) (a0 : Int) (a1 : Int) (a2 : Int) (r1 : Int) (r2 : Int) (w : World) (h : alu_Adc.f k a0 a1 a2 = some (r1, r2)) :
    Calls Try.prog 22 #[.int .u8 a0, .int .u8 a1, .int .u8 a2] w fun e w' => e = .returned (.tuple #[.int .u8 r1, .int .u8 r2]) ∧ Drawn0 w w' := by
  have H : ((alu_carry.f a2).bind fun t113 => (if (Go.bits .and .u8 a2 8) = 0 then ((alu_put.f a2 1 (decide ((wrap64 ((wrap64 ((wrap64 (a0)) + (wrap64 (a1)))) + t113)) > 255))).bind fun t114 => ((alu_put.f t114 64 ((Go.bits .and .u8 (Go.bits .and .u8 (Go.bits .xor .u8 a0 ((wrap64 ((wrap64 ((wrap64 (a0)) + (wrap64 (a1)))) + t113)) % 256)) (Go.bits .xor .u8 a1 ((wrap64 ((wrap64 ((wrap64 (a0)) + (wrap64 (a1)))) + t113)) % 256))) 128) != 0)).bind fun t115 => ((alu_Nz.f ((wrap64 ((wrap64 ((wrap64 (a0)) + (wrap64 (a1)))) + t113)) % 256) t115).bind fun t116 => (some ((wrap64 ((wrap64 ((wrap64 (a0)) + (wrap64 (a1)))) + t113)) % 256, t116))))) else ((alu_carry.f a2).bind fun t117 => (if (wrap64 ((wrap64 ((wrap64 (Go.bits .and .u8 a0 15)) + (wrap64 (Go.bits .and .u8 a1 15)))) + t117)) > 9 then (alu_Adc.j0 k a0 a1 a2 (wrap64 ((wrap64 ((wrap64 (a0)) + (wrap64 (a1)))) + t113)) (wrap64 ((Go.bits .and .i64 (wrap64 ((wrap64 ((wrap64 ((wrap64 (Go.bits .and .u8 a0 15)) + (wrap64 (Go.bits .and .u8 a1 15)))) + t117)) + 6)) 15) + 16))) else (alu_Adc.j0 k a0 a1 a2 (wrap64 ((wrap64 ((wrap64 (a0)) + (wrap64 (a1)))) + t113)) (wrap64 ((wrap64 ((wrap64 (Go.bits .and .u8 a0 15)) + (wrap64 (Go.bits .and .u8 a1 15)))) + t117))))))) = some (r1, r2) := h
  clear h
  replace H := Option.bind_eq_some_iff.mp H
  obtain ⟨t113, A40, H⟩ := H
  replace H : (if (Go.bits .and .u8 a2 8) = 0 then ((alu_put.f a2 1 (decide ((wrap64 ((wrap64 ((wrap64 (a0)) + (wrap64 (a1)))) + t113)) > 255))).bind fun t114 => ((alu_put.f t114 64 ((Go.bits .and .u8 (Go.bits .and .u8 (Go.bits .xor .u8 a0 ((wrap64 ((wrap64 ((wrap64 (a0)) + (wrap64 (a1)))) + t113)) % 256)) (Go.bits .xor .u8 a1 ((wrap64 ((wrap64 ((wrap64 (a0)) + (wrap64 (a1)))) + t113)) % 256))) 128) != 0)).bind fun t115 => ((alu_Nz.f ((wrap64 ((wrap64 ((wrap64 (a0)) + (wrap64 (a1)))) + t113)) % 256) t115).bind fun t116 => (some ((wrap64 ((wrap64 ((wrap64 (a0)) + (wrap64 (a1)))) + t113)) % 256, t116))))) else ((alu_carry.f a2).bind fun t117 => (if (wrap64 ((wrap64 ((wrap64 (Go.bits .and .u8 a0 15)) + (wrap64 (Go.bits .and .u8 a1 15)))) + t117)) > 9 then (alu_Adc.j0 k a0 a1 a2 (wrap64 ((wrap64 ((wrap64 (a0)) + (wrap64 (a1)))) + t113)) (wrap64 ((Go.bits .and .i64 (wrap64 ((wrap64 ((wrap64 ((wrap64 (Go.bits .and .u8 a0 15)) + (wrap64 (Go.bits .and .u8 a1 15)))) + t117)) + 6)) 15) + 16))) else (alu_Adc.j0 k a0 a1 a2 (wrap64 ((wrap64 ((wrap64 (a0)) + (wrap64 (a1)))) + t113)) (wrap64 ((wrap64 ((wrap64 (Go.bits .and .u8 a0 15)) + (wrap64 (Go.bits .and .u8 a1 15)))) + t117)))))) = some (r1, r2) := H
  have A4 := Aside0.mk A40
  clear A40
  by_cases c5 : (Go.bits .and .u8 a2 8) = 0
  · rw [if_pos c5] at H
    have c5b0 : ((Go.bits .and .u8 a2 8) == 0) = true := beq_iff_eq.mpr c5
    have c5b1 : ((Go.bits .and .u8 a2 8) != 0) = false := bne_eq_false_iff_eq.mpr c5
    clear c5
    replace H := Option.bind_eq_some_iff.mp H
    obtain ⟨t114, A60, H⟩ := H
    replace H : ((alu_put.f t114 64 ((Go.bits .and .u8 (Go.bits .and .u8 (Go.bits .xor .u8 a0 ((wrap64 ((wrap64 ((wrap64 (a0)) + (wrap64 (a1)))) + t113)) % 256)) (Go.bits .xor .u8 a1 ((wrap64 ((wrap64 ((wrap64 (a0)) + (wrap64 (a1)))) + t113)) % 256))) 128) != 0)).bind fun t115 => ((alu_Nz.f ((wrap64 ((wrap64 ((wrap64 (a0)) + (wrap64 (a1)))) + t113)) % 256) t115).bind fun t116 => (some ((wrap64 ((wrap64 ((wrap64 (a0)) + (wrap64 (a1)))) + t113)) % 256, t116)))) = some (r1, r2) := H
    have A6 := Aside0.mk A60
    clear A60
    replace H := Option.bind_eq_some_iff.mp H
    obtain ⟨t115, A70, H⟩ := H
    replace H : ((alu_Nz.f ((wrap64 ((wrap64 ((wrap64 (a0)) + (wrap64 (a1)))) + t113)) % 256) t115).bind fun t116 => (some ((wrap64 ((wrap64 ((wrap64 (a0)) + (wrap64 (a1)))) + t113)) % 256, t116))) = some (r1, r2) := H
    have A7 := Aside0.mk A70
    clear A70
    replace H := Option.bind_eq_some_iff.mp H
    obtain ⟨t116, A80, H⟩ := H
    replace H : (some ((wrap64 ((wrap64 ((wrap64 (a0)) + (wrap64 (a1)))) + t113)) % 256, t116)) = some (r1, r2) := H
    have A8 := Aside0.mk A80
    clear A80
    simp only [Option.some.injEq, Prod.mk.injEq] at H
    obtain ⟨rfl, rfl⟩ := H
    go_enter Try.func22, Try.ntmps22
    go_wp2_with (first | ((with_reducible refine gate_callee (f := 37) rfl ?_); refine goesL_ (some 18) rfl rfl Try.func37 (by kernel_rfl) rfl #[.int .u8 a2] rfl (by (try simp only [List.map_toArray, List.map_cons, List.map_nil]); first | done | rfl | (simp only [List.length_drop, List.length_take]; rfl)) ?_; (with_reducible refine (alu_carry.calls a2 t113 _ A4.out).mono ?_); rintro e w' ⟨rfl, ⟨nd, rfl⟩⟩; refine ⟨_, rfl, ?_⟩) | ((with_reducible refine gate_callee (f := 36) rfl ?_); refine goesL_ (some 28) rfl rfl Try.func36 (by kernel_rfl) rfl #[.int .u8 a2, .int .u8 1, .bool (decide ((wrap64 ((wrap64 ((wrap64 (a0)) + (wrap64 (a1)))) + t113)) > 255))] rfl (by (try simp only [List.map_toArray, List.map_cons, List.map_nil]); first | done | rfl | (simp only [List.length_drop, List.length_take]; rfl)) ?_; (with_reducible refine (alu_put.calls a2 1 (decide ((wrap64 ((wrap64 ((wrap64 (a0)) + (wrap64 (a1)))) + t113)) > 255)) t114 _ A6.out).mono ?_); rintro e w' ⟨rfl, ⟨nd, rfl⟩⟩; refine ⟨_, rfl, ?_⟩) | ((with_reducible refine gate_callee (f := 36) rfl ?_); refine goesL_ (some 39) rfl rfl Try.func36 (by kernel_rfl) rfl #[.int .u8 t114, .int .u8 64, .bool ((Go.bits .and .u8 (Go.bits .and .u8 (Go.bits .xor .u8 a0 ((wrap64 ((wrap64 ((wrap64 (a0)) + (wrap64 (a1)))) + t113)) % 256)) (Go.bits .xor .u8 a1 ((wrap64 ((wrap64 ((wrap64 (a0)) + (wrap64 (a1)))) + t113)) % 256))) 128) != 0)] rfl (by (try simp only [List.map_toArray, List.map_cons, List.map_nil]); first | done | rfl | (simp only [List.length_drop, List.length_take]; rfl)) ?_; (with_reducible refine (alu_put.calls t114 64 ((Go.bits .and .u8 (Go.bits .and .u8 (Go.bits .xor .u8 a0 ((wrap64 ((wrap64 ((wrap64 (a0)) + (wrap64 (a1)))) + t113)) % 256)) (Go.bits .xor .u8 a1 ((wrap64 ((wrap64 ((wrap64 (a0)) + (wrap64 (a1)))) + t113)) % 256))) 128) != 0) t115 _ A7.out).mono ?_); rintro e w' ⟨rfl, ⟨nd, rfl⟩⟩; refine ⟨_, rfl, ?_⟩) | ((with_reducible refine gate_callee (f := 25) rfl ?_); refine goesL_ (some 43) rfl rfl Try.func25 (by kernel_rfl) rfl #[.int .u8 ((wrap64 ((wrap64 ((wrap64 (a0)) + (wrap64 (a1)))) + t113)) % 256), .int .u8 t115] rfl (by (try simp only [List.map_toArray, List.map_cons, List.map_nil]); first | done | rfl | (simp only [List.length_drop, List.length_take]; rfl)) ?_; (with_reducible refine (alu_Nz.calls ((wrap64 ((wrap64 ((wrap64 (a0)) + (wrap64 (a1)))) + t113)) % 256) t115 t116 _ A8.out).mono ?_); rintro e w' ⟨rfl, ⟨nd, rfl⟩⟩; refine ⟨_, rfl, ?_⟩))
    go_ret2
    exact ⟨by first | rfl | (simp; done) | (simp [*]; done), by repeat (first | exact Drawn0.refl _ | apply Drawn0.step)⟩
  · rw [if_neg c5] at H
    have c5b0 : ((Go.bits .and .u8 a2 8) == 0) = false := beq_eq_false_iff_ne.mpr c5
    have c5b1 : ((Go.bits .and .u8 a2 8) != 0) = true := bne_iff_ne.mpr c5
    replace H := Option.bind_eq_some_iff.mp H
    obtain ⟨t117, A90, H⟩ := H
    replace H : (if (wrap64 ((wrap64 ((wrap64 (Go.bits .and .u8 a0 15)) + (wrap64 (Go.bits .and .u8 a1 15)))) + t117)) > 9 then (alu_Adc.j0 k a0 a1 a2 (wrap64 ((wrap64 ((wrap64 (a0)) + (wrap64 (a1)))) + t113)) (wrap64 ((Go.bits .and .i64 (wrap64 ((wrap64 ((wrap64 ((wrap64 (Go.bits .and .u8 a0 15)) + (wrap64 (Go.bits .and .u8 a1 15)))) + t117)) + 6)) 15) + 16))) else (alu_Adc.j0 k a0 a1 a2 (wrap64 ((wrap64 ((wrap64 (a0)) + (wrap64 (a1)))) + t113)) (wrap64 ((wrap64 ((wrap64 (Go.bits .and .u8 a0 15)) + (wrap64 (Go.bits .and .u8 a1 15)))) + t117)))) = some (r1, r2) := H
    have A9 := Aside0.mk A90
    clear A90
    have HC10 := Aside0.mk H
    clear H
    go_enter Try.func22, Try.ntmps22
    go_upto_if 55 with (first | ((with_reducible refine gate_callee (f := 37) rfl ?_); refine goesL_ (some 18) rfl rfl Try.func37 (by kernel_rfl) rfl #[.int .u8 a2] rfl (by (try simp only [List.map_toArray, List.map_cons, List.map_nil]); first | done | rfl | (simp only [List.length_drop, List.length_take]; rfl)) ?_; (with_reducible refine (alu_carry.calls a2 t113 _ A4.out).mono ?_); rintro e w' ⟨rfl, ⟨nd, rfl⟩⟩; refine ⟨_, rfl, ?_⟩) | ((with_reducible refine gate_callee (f := 37) rfl ?_); refine goesL_ (some 52) rfl rfl Try.func37 (by kernel_rfl) rfl #[.int .u8 a2] rfl (by (try simp only [List.map_toArray, List.map_cons, List.map_nil]); first | done | rfl | (simp only [List.length_drop, List.length_take]; rfl)) ?_; (with_reducible refine (alu_carry.calls a2 t117 _ A9.out).mono ?_); rintro e w' ⟨rfl, ⟨nd, rfl⟩⟩; refine ⟨_, rfl, ?_⟩))
    (try simp only [Act.put, List.setIfInBounds_toArray, List.set_cons_zero, List.set_cons_succ])
    go_cut [10] (fun v10 wc => ∃ (kq : Nat) (x10_9 : Int), v10 = .int .i64 x10_9 ∧ Aside0 (alu_Adc.j0 kq a0 a1 a2 (wrap64 ((wrap64 ((wrap64 (a0)) + (wrap64 (a1)))) + t113)) x10_9 = some (r1, r2)) ∧ Aside0 (kq ≤ k) ∧ Drawn0 w wc)
    case first =>
      have H := HC10.out
      clear HC10
      by_cases c11 : (wrap64 ((wrap64 ((wrap64 (Go.bits .and .u8 a0 15)) + (wrap64 (Go.bits .and .u8 a1 15)))) + t117)) > 9
      · rw [if_pos c11] at H
        have c11b0 : decide (9 < (wrap64 ((wrap64 ((wrap64 (Go.bits .and .u8 a0 15)) + (wrap64 (Go.bits .and .u8 a1 15)))) + t117))) = true := decide_eq_true c11
        clear c11
        (first | rw [c11b0] | (simp only [i64_w, i32_w]; rw [c11b0]) | skip)
        have H' := Aside0.mk H
        clear H
        go_wp2
        go_meet
        case rel => exact ⟨_, (wrap64 ((Go.bits .and .i64 (wrap64 ((wrap64 ((wrap64 ((wrap64 (Go.bits .and .u8 a0 15)) + (wrap64 (Go.bits .and .u8 a1 15)))) + t117)) + 6)) 15) + 16)), (by first | rfl | (simp; done) | (simp [*]; done)), H', ⟨by first | omega | exact Nat.le_refl _⟩, by repeat (first | exact Drawn0.refl _ | apply Drawn0.step)⟩
      · rw [if_neg c11] at H
        have c11b0 : decide (9 < (wrap64 ((wrap64 ((wrap64 (Go.bits .and .u8 a0 15)) + (wrap64 (Go.bits .and .u8 a1 15)))) + t117))) = false := decide_eq_false c11
        clear c11
        (first | rw [c11b0] | (simp only [i64_w, i32_w]; rw [c11b0]) | skip)
        have H' := Aside0.mk H
        clear H
        go_wp2
        go_meet
        case rel => exact ⟨_, (wrap64 ((wrap64 ((wrap64 (Go.bits .and .u8 a0 15)) + (wrap64 (Go.bits .and .u8 a1 15)))) + t117)), (by first | rfl | (simp; done) | (simp [*]; done)), H', ⟨by first | omega | exact Nat.le_refl _⟩, by repeat (first | exact Drawn0.refl _ | apply Drawn0.step)⟩
    case rest =>
      clear HC10
      try clear c1
      try clear c2
      try clear p2
      try clear c3
      try clear c5
      try clear c5b0
      try clear c5b1
      try clear p6
      try clear c11
      try clear c11b0
      obtain ⟨kq, x10_9, rfl, HA, HJ9, ⟨mc9, rfl⟩⟩ := hcut
      cases kq with
      | zero => exact absurd HA.out (by simp [alu_Adc.j0])
      | succ kj9 =>
        have H := HA.out
        clear HA
        simp only [alu_Adc.j0] at H
        replace H := Option.bind_eq_some_iff.mp H
        obtain ⟨t118, A120, H⟩ := H
        replace H : ((alu_put.f t118 64 ((Go.bits .and .u8 (Go.bits .and .u8 (Go.bits .xor .u8 a0 ((wrap64 ((wrap64 ((wrap64 (Go.bits .and .u8 a0 240)) + (wrap64 (Go.bits .and .u8 a1 240)))) + x10_9)) % 256)) (Go.bits .xor .u8 a1 ((wrap64 ((wrap64 ((wrap64 (Go.bits .and .u8 a0 240)) + (wrap64 (Go.bits .and .u8 a1 240)))) + x10_9)) % 256))) 128) != 0)).bind fun t119 => ((alu_put.f t119 2 ((((wrap64 ((wrap64 ((wrap64 (a0)) + (wrap64 (a1)))) + t113))) % 256) == 0)).bind fun t120 => (if (wrap64 ((wrap64 ((wrap64 (Go.bits .and .u8 a0 240)) + (wrap64 (Go.bits .and .u8 a1 240)))) + x10_9)) ≥ 160 then ((alu_put.f t120 1 (decide ((wrap64 ((wrap64 ((wrap64 ((wrap64 (Go.bits .and .u8 a0 240)) + (wrap64 (Go.bits .and .u8 a1 240)))) + x10_9)) + 96)) > 255))).bind fun t121 => (some ((wrap64 ((wrap64 ((wrap64 ((wrap64 (Go.bits .and .u8 a0 240)) + (wrap64 (Go.bits .and .u8 a1 240)))) + x10_9)) + 96)) % 256, t121))) else ((alu_put.f t120 1 (decide ((wrap64 ((wrap64 ((wrap64 (Go.bits .and .u8 a0 240)) + (wrap64 (Go.bits .and .u8 a1 240)))) + x10_9)) > 255))).bind fun t122 => (some ((wrap64 ((wrap64 ((wrap64 (Go.bits .and .u8 a0 240)) + (wrap64 (Go.bits .and .u8 a1 240)))) + x10_9)) % 256, t122)))))) = some (r1, r2) := H
        have A12 := Aside0.mk A120
        clear A120
        replace H := Option.bind_eq_some_iff.mp H
        obtain ⟨t119, A130, H⟩ := H
        replace H : ((alu_put.f t119 2 ((((wrap64 ((wrap64 ((wrap64 (a0)) + (wrap64 (a1)))) + t113))) % 256) == 0)).bind fun t120 => (if (wrap64 ((wrap64 ((wrap64 (Go.bits .and .u8 a0 240)) + (wrap64 (Go.bits .and .u8 a1 240)))) + x10_9)) ≥ 160 then ((alu_put.f t120 1 (decide ((wrap64 ((wrap64 ((wrap64 ((wrap64 (Go.bits .and .u8 a0 240)) + (wrap64 (Go.bits .and .u8 a1 240)))) + x10_9)) + 96)) > 255))).bind fun t121 => (some ((wrap64 ((wrap64 ((wrap64 ((wrap64 (Go.bits .and .u8 a0 240)) + (wrap64 (Go.bits .and .u8 a1 240)))) + x10_9)) + 96)) % 256, t121))) else ((alu_put.f t120 1 (decide ((wrap64 ((wrap64 ((wrap64 (Go.bits .and .u8 a0 240)) + (wrap64 (Go.bits .and .u8 a1 240)))) + x10_9)) > 255))).bind fun t122 => (some ((wrap64 ((wrap64 ((wrap64 (Go.bits .and .u8 a0 240)) + (wrap64 (Go.bits .and .u8 a1 240)))) + x10_9)) % 256, t122))))) = some (r1, r2) := H
        have A13 := Aside0.mk A130
        clear A130
        replace H := Option.bind_eq_some_iff.mp H
        obtain ⟨t120, A140, H⟩ := H
        replace H : (if (wrap64 ((wrap64 ((wrap64 (Go.bits .and .u8 a0 240)) + (wrap64 (Go.bits .and .u8 a1 240)))) + x10_9)) ≥ 160 then ((alu_put.f t120 1 (decide ((wrap64 ((wrap64 ((wrap64 ((wrap64 (Go.bits .and .u8 a0 240)) + (wrap64 (Go.bits .and .u8 a1 240)))) + x10_9)) + 96)) > 255))).bind fun t121 => (some ((wrap64 ((wrap64 ((wrap64 ((wrap64 (Go.bits .and .u8 a0 240)) + (wrap64 (Go.bits .and .u8 a1 240)))) + x10_9)) + 96)) % 256, t121))) else ((alu_put.f t120 1 (decide ((wrap64 ((wrap64 ((wrap64 (Go.bits .and .u8 a0 240)) + (wrap64 (Go.bits .and .u8 a1 240)))) + x10_9)) > 255))).bind fun t122 => (some ((wrap64 ((wrap64 ((wrap64 (Go.bits .and .u8 a0 240)) + (wrap64 (Go.bits .and .u8 a1 240)))) + x10_9)) % 256, t122)))) = some (r1, r2) := H
        have A14 := Aside0.mk A140
        clear A140
        by_cases c15 : (wrap64 ((wrap64 ((wrap64 (Go.bits .and .u8 a0 240)) + (wrap64 (Go.bits .and .u8 a1 240)))) + x10_9)) ≥ 160
        · rw [if_pos c15] at H
          have c15b0 : decide (160 ≤ (wrap64 ((wrap64 ((wrap64 (Go.bits .and .u8 a0 240)) + (wrap64 (Go.bits .and .u8 a1 240)))) + x10_9))) = true := decide_eq_true c15
          clear c15
          replace H := Option.bind_eq_some_iff.mp H
          obtain ⟨t121, A160, H⟩ := H
          replace H : (some ((wrap64 ((wrap64 ((wrap64 ((wrap64 (Go.bits .and .u8 a0 240)) + (wrap64 (Go.bits .and .u8 a1 240)))) + x10_9)) + 96)) % 256, t121)) = some (r1, r2) := H
          have A16 := Aside0.mk A160
          clear A160
          simp only [Option.some.injEq, Prod.mk.injEq] at H
          obtain ⟨rfl, rfl⟩ := H
          go_wp2_with (first | ((with_reducible refine gate_callee (f := 25) rfl ?_); refine goesL_ (some 72) rfl rfl Try.func25 (by kernel_rfl) rfl #[.int .u8 ((wrap64 ((wrap64 ((wrap64 (Go.bits .and .u8 a0 240)) + (wrap64 (Go.bits .and .u8 a1 240)))) + x10_9)) % 256), .int .u8 a2] rfl (by (try simp only [List.map_toArray, List.map_cons, List.map_nil]); first | done | rfl | (simp only [List.length_drop, List.length_take]; rfl)) ?_; (with_reducible refine (alu_Nz.calls ((wrap64 ((wrap64 ((wrap64 (Go.bits .and .u8 a0 240)) + (wrap64 (Go.bits .and .u8 a1 240)))) + x10_9)) % 256) a2 t118 _ A12.out).mono ?_); rintro e w' ⟨rfl, ⟨nd, rfl⟩⟩; refine ⟨_, rfl, ?_⟩) | ((with_reducible refine gate_callee (f := 36) rfl ?_); refine goesL_ (some 85) rfl rfl Try.func36 (by kernel_rfl) rfl #[.int .u8 t118, .int .u8 64, .bool ((Go.bits .and .u8 (Go.bits .and .u8 (Go.bits .xor .u8 a0 ((wrap64 ((wrap64 ((wrap64 (Go.bits .and .u8 a0 240)) + (wrap64 (Go.bits .and .u8 a1 240)))) + x10_9)) % 256)) (Go.bits .xor .u8 a1 ((wrap64 ((wrap64 ((wrap64 (Go.bits .and .u8 a0 240)) + (wrap64 (Go.bits .and .u8 a1 240)))) + x10_9)) % 256))) 128) != 0)] rfl (by (try simp only [List.map_toArray, List.map_cons, List.map_nil]); first | done | rfl | (simp only [List.length_drop, List.length_take]; rfl)) ?_; (with_reducible refine (alu_put.calls t118 64 ((Go.bits .and .u8 (Go.bits .and .u8 (Go.bits .xor .u8 a0 ((wrap64 ((wrap64 ((wrap64 (Go.bits .and .u8 a0 240)) + (wrap64 (Go.bits .and .u8 a1 240)))) + x10_9)) % 256)) (Go.bits .xor .u8 a1 ((wrap64 ((wrap64 ((wrap64 (Go.bits .and .u8 a0 240)) + (wrap64 (Go.bits .and .u8 a1 240)))) + x10_9)) % 256))) 128) != 0) t119 _ A13.out).mono ?_); rintro e w' ⟨rfl, ⟨nd, rfl⟩⟩; refine ⟨_, rfl, ?_⟩) | ((with_reducible refine gate_callee (f := 36) rfl ?_); refine goesL_ (some 90) rfl rfl Try.func36 (by kernel_rfl) rfl #[.int .u8 t119, .int .u8 2, .bool ((((wrap64 ((wrap64 ((wrap64 (a0)) + (wrap64 (a1)))) + t113))) % 256) == 0)] rfl (by (try simp only [List.map_toArray, List.map_cons, List.map_nil]); first | done | rfl | (simp only [List.length_drop, List.length_take]; rfl)) ?_; (with_reducible refine (alu_put.calls t119 2 ((((wrap64 ((wrap64 ((wrap64 (a0)) + (wrap64 (a1)))) + t113))) % 256) == 0) t120 _ A14.out).mono ?_); rintro e w' ⟨rfl, ⟨nd, rfl⟩⟩; refine ⟨_, rfl, ?_⟩) | ((with_reducible refine gate_callee (f := 36) rfl ?_); refine goesL_ (some 100) rfl rfl Try.func36 (by kernel_rfl) rfl #[.int .u8 t120, .int .u8 1, .bool (decide ((wrap64 ((wrap64 ((wrap64 ((wrap64 (Go.bits .and .u8 a0 240)) + (wrap64 (Go.bits .and .u8 a1 240)))) + x10_9)) + 96)) > 255))] rfl (by (try simp only [List.map_toArray, List.map_cons, List.map_nil]); first | done | rfl | (simp only [List.length_drop, List.length_take]; rfl)) ?_; (with_reducible refine (alu_put.calls t120 1 (decide ((wrap64 ((wrap64 ((wrap64 ((wrap64 (Go.bits .and .u8 a0 240)) + (wrap64 (Go.bits .and .u8 a1 240)))) + x10_9)) + 96)) > 255)) t121 _ A16.out).mono ?_); rintro e w' ⟨rfl, ⟨nd, rfl⟩⟩; refine ⟨_, rfl, ?_⟩))
          go_ret2
          exact ⟨by first | rfl | (simp; done) | (simp [*]; done), by repeat (first | exact Drawn0.refl _ | apply Drawn0.step)⟩
        · rw [if_neg c15] at H
          have c15b0 : decide (160 ≤ (wrap64 ((wrap64 ((wrap64 (Go.bits .and .u8 a0 240)) + (wrap64 (Go.bits .and .u8 a1 240)))) + x10_9))) = false := decide_eq_false c15
          clear c15
          replace H := Option.bind_eq_some_iff.mp H
          obtain ⟨t122, A170, H⟩ := H
          replace H : (some ((wrap64 ((wrap64 ((wrap64 (Go.bits .and .u8 a0 240)) + (wrap64 (Go.bits .and .u8 a1 240)))) + x10_9)) % 256, t122)) = some (r1, r2) := H
          have A17 := Aside0.mk A170
          clear A170
          simp only [Option.some.injEq, Prod.mk.injEq] at H
          obtain ⟨rfl, rfl⟩ := H
          go_wp2_with (first | ((with_reducible refine gate_callee (f := 25) rfl ?_); refine goesL_ (some 72) rfl rfl Try.func25 (by kernel_rfl) rfl #[.int .u8 ((wrap64 ((wrap64 ((wrap64 (Go.bits .and .u8 a0 240)) + (wrap64 (Go.bits .and .u8 a1 240)))) + x10_9)) % 256), .int .u8 a2] rfl (by (try simp only [List.map_toArray, List.map_cons, List.map_nil]); first | done | rfl | (simp only [List.length_drop, List.length_take]; rfl)) ?_; (with_reducible refine (alu_Nz.calls ((wrap64 ((wrap64 ((wrap64 (Go.bits .and .u8 a0 240)) + (wrap64 (Go.bits .and .u8 a1 240)))) + x10_9)) % 256) a2 t118 _ A12.out).mono ?_); rintro e w' ⟨rfl, ⟨nd, rfl⟩⟩; refine ⟨_, rfl, ?_⟩) | ((with_reducible refine gate_callee (f := 36) rfl ?_); refine goesL_ (some 85) rfl rfl Try.func36 (by kernel_rfl) rfl #[.int .u8 t118, .int .u8 64, .bool ((Go.bits .and .u8 (Go.bits .and .u8 (Go.bits .xor .u8 a0 ((wrap64 ((wrap64 ((wrap64 (Go.bits .and .u8 a0 240)) + (wrap64 (Go.bits .and .u8 a1 240)))) + x10_9)) % 256)) (Go.bits .xor .u8 a1 ((wrap64 ((wrap64 ((wrap64 (Go.bits .and .u8 a0 240)) + (wrap64 (Go.bits .and .u8 a1 240)))) + x10_9)) % 256))) 128) != 0)] rfl (by (try simp only [List.map_toArray, List.map_cons, List.map_nil]); first | done | rfl | (simp only [List.length_drop, List.length_take]; rfl)) ?_; (with_reducible refine (alu_put.calls t118 64 ((Go.bits .and .u8 (Go.bits .and .u8 (Go.bits .xor .u8 a0 ((wrap64 ((wrap64 ((wrap64 (Go.bits .and .u8 a0 240)) + (wrap64 (Go.bits .and .u8 a1 240)))) + x10_9)) % 256)) (Go.bits .xor .u8 a1 ((wrap64 ((wrap64 ((wrap64 (Go.bits .and .u8 a0 240)) + (wrap64 (Go.bits .and .u8 a1 240)))) + x10_9)) % 256))) 128) != 0) t119 _ A13.out).mono ?_); rintro e w' ⟨rfl, ⟨nd, rfl⟩⟩; refine ⟨_, rfl, ?_⟩) | ((with_reducible refine gate_callee (f := 36) rfl ?_); refine goesL_ (some 90) rfl rfl Try.func36 (by kernel_rfl) rfl #[.int .u8 t119, .int .u8 2, .bool ((((wrap64 ((wrap64 ((wrap64 (a0)) + (wrap64 (a1)))) + t113))) % 256) == 0)] rfl (by (try simp only [List.map_toArray, List.map_cons, List.map_nil]); first | done | rfl | (simp only [List.length_drop, List.length_take]; rfl)) ?_; (with_reducible refine (alu_put.calls t119 2 ((((wrap64 ((wrap64 ((wrap64 (a0)) + (wrap64 (a1)))) + t113))) % 256) == 0) t120 _ A14.out).mono ?_); rintro e w' ⟨rfl, ⟨nd, rfl⟩⟩; refine ⟨_, rfl, ?_⟩) | ((with_reducible refine gate_callee (f := 36) rfl ?_); refine goesL_ (some 100) rfl rfl Try.func36 (by kernel_rfl) rfl #[.int .u8 t120, .int .u8 1, .bool (decide ((wrap64 ((wrap64 ((wrap64 (Go.bits .and .u8 a0 240)) + (wrap64 (Go.bits .and .u8 a1 240)))) + x10_9)) > 255))] rfl (by (try simp only [List.map_toArray, List.map_cons, List.map_nil]); first | done | rfl | (simp only [List.length_drop, List.length_take]; rfl)) ?_; (with_reducible refine (alu_put.calls t120 1 (decide ((wrap64 ((wrap64 ((wrap64 (Go.bits .and .u8 a0 240)) + (wrap64 (Go.bits .and .u8 a1 240)))) + x10_9)) > 255)) t122 _ A17.out).mono ?_); rintro e w' ⟨rfl, ⟨nd, rfl⟩⟩; refine ⟨_, rfl, ?_⟩))
          go_ret2
          exact ⟨by first | rfl | (simp; done) | (simp [*]; done), by repeat (first | exact Drawn0.refl _ | apply Drawn0.step)⟩

/-! ### alu_Cmp: function 24 -/
def alu_Cmp.f (a0 : Int) (a1 : Int) (a2 : Int) : Option (Int) := (alu_put.f a2 1 (decide (a0 ≥ a1))).bind fun t123 => ((alu_Nz.f ((a0 - a1) % 256) t123).bind fun t124 => (some t124))
set_option maxHeartbeats 8000000 in
set_option maxRecDepth 100000 in
theorem alu_Cmp.calls (a0 : Int) (a1 : Int) (a2 : Int) (r : Int) (w : World) (h : alu_Cmp.f a0 a1 a2 = some r) :
    Calls Try.prog 24 #[.int .u8 a0, .int .u8 a1, .int .u8 a2] w fun e w' => e = .returned (.int .u8 r) ∧ Drawn0 w w' := by
  have H : ((alu_put.f a2 1 (decide (a0 ≥ a1))).bind fun t123 => ((alu_Nz.f ((a0 - a1) % 256) t123).bind fun t124 => (some t124))) = some r := h
  clear h
  replace H := Option.bind_eq_some_iff.mp H
  obtain ⟨t123, A40, H⟩ := H
  replace H : ((alu_Nz.f ((a0 - a1) % 256) t123).bind fun t124 => (some t124)) = some r := H
  have A4 := Aside0.mk A40
  clear A40
  replace H := Option.bind_eq_some_iff.mp H
  obtain ⟨t124, A50, H⟩ := H
  replace H : (some t124) = some r := H
  have A5 := Aside0.mk A50
  clear A50
  obtain rfl := Option.some.inj H
  go_enter Try.func24, Try.ntmps24
  go_wp2_with (first | ((with_reducible refine gate_callee (f := 36) rfl ?_); refine goesL_ (some 14) rfl rfl Try.func36 (by kernel_rfl) rfl #[.int .u8 a2, .int .u8 1, .bool (decide (a0 ≥ a1))] rfl (by (try simp only [List.map_toArray, List.map_cons, List.map_nil]); first | done | rfl | (simp only [List.length_drop, List.length_take]; rfl)) ?_; (with_reducible refine (alu_put.calls a2 1 (decide (a0 ≥ a1)) t123 _ A4.out).mono ?_); rintro e w' ⟨rfl, ⟨nd, rfl⟩⟩; refine ⟨_, rfl, ?_⟩) | ((with_reducible refine gate_callee (f := 25) rfl ?_); refine goesL_ (some 15) rfl rfl Try.func25 (by kernel_rfl) rfl #[.int .u8 ((a0 - a1) % 256), .int .u8 t123] rfl (by (try simp only [List.map_toArray, List.map_cons, List.map_nil]); first | done | rfl | (simp only [List.length_drop, List.length_take]; rfl)) ?_; (with_reducible refine (alu_Nz.calls ((a0 - a1) % 256) t123 t124 _ A5.out).mono ?_); rintro e w' ⟨rfl, ⟨nd, rfl⟩⟩; refine ⟨_, rfl, ?_⟩))
  go_ret
  exact ⟨by first | rfl | (simp; done) | (simp [*]; done), by repeat (first | exact Drawn0.refl _ | apply Drawn0.step)⟩

/-! ### tandemref3_put: function 38 -/
def tandemref3_put.f (a0 : Int) (a1 : Int) (a2 : Bool) : Option (Int) := if a2 = true then (some (Go.bits .or .u8 a0 a1)) else (some (Go.bits .andNot .u8 a0 a1))
set_option maxHeartbeats 8000000 in
set_option maxRecDepth 100000 in
theorem tandemref3_put.calls (a0 : Int) (a1 : Int) (a2 : Bool) (r : Int) (w : World) (h : tandemref3_put.f a0 a1 a2 = some r) :
    Calls Try.prog 38 #[.int .u8 a0, .int .u8 a1, .bool a2] w fun e w' => e = .returned (.int .u8 r) ∧ Drawn0 w w' := by
  have H : (if a2 = true then (some (Go.bits .or .u8 a0 a1)) else (some (Go.bits .andNot .u8 a0 a1))) = some r := h
  clear h
  by_cases c4 : a2 = true
  · subst c4
    have H1 : (some (Go.bits .or .u8 a0 a1)) = some r := by rw [if_pos rfl] at H; exact H
    clear H
    have H := H1
    clear H1
    obtain rfl := Option.some.inj H
    go_enter Try.func38, Try.ntmps38
    go_wp2
    go_ret
    exact ⟨by first | rfl | (simp; done) | (simp [*]; done), by repeat (first | exact Drawn0.refl _ | apply Drawn0.step)⟩
  · replace c4 := Bool.eq_false_iff.mpr c4
    subst c4
    have H1 : (some (Go.bits .andNot .u8 a0 a1)) = some r := by rw [if_neg (show ¬ (false = true) by decide)] at H; exact H
    clear H
    have H := H1
    clear H1
    obtain rfl := Option.some.inj H
    go_enter Try.func38, Try.ntmps38
    go_wp2
    go_ret
    exact ⟨by first | rfl | (simp; done) | (simp [*]; done), by repeat (first | exact Drawn0.refl _ | apply Drawn0.step)⟩

/-! ### tandemref3_Nz: function 26 -/
def tandemref3_Nz.f (a0 : Int) (a1 : Int) : Option (Int) := (tandemref3_put.f a1 128 (decide (a0 ≥ 128))).bind fun t125 => ((tandemref3_put.f t125 2 (a0 == 0)).bind fun t126 => (some t126))
set_option maxHeartbeats 8000000 in
set_option maxRecDepth 100000 in
theorem tandemref3_Nz.calls (a0 : Int) (a1 : Int) (r : Int) (w : World) (h : tandemref3_Nz.f a0 a1 = some r) :
    Calls Try.prog 26 #[.int .u8 a0, .int .u8 a1] w fun e w' => e = .returned (.int .u8 r) ∧ Drawn0 w w' := by
  have H : ((tandemref3_put.f a1 128 (decide (a0 ≥ 128))).bind fun t125 => ((tandemref3_put.f t125 2 (a0 == 0)).bind fun t126 => (some t126))) = some r := h
  clear h
  replace H := Option.bind_eq_some_iff.mp H
  obtain ⟨t125, A30, H⟩ := H
  replace H : ((tandemref3_put.f t125 2 (a0 == 0)).bind fun t126 => (some t126)) = some r := H
  have A3 := Aside0.mk A30
  clear A30
  replace H := Option.bind_eq_some_iff.mp H
  obtain ⟨t126, A40, H⟩ := H
  replace H : (some t126) = some r := H
  have A4 := Aside0.mk A40
  clear A40
  obtain rfl := Option.some.inj H
  go_enter Try.func26, Try.ntmps26
  go_wp2_with (first | ((with_reducible refine gate_callee (f := 38) rfl ?_); refine goesL_ (some 8) rfl rfl Try.func38 (by kernel_rfl) rfl #[.int .u8 a1, .int .u8 128, .bool (decide (a0 ≥ 128))] rfl (by (try simp only [List.map_toArray, List.map_cons, List.map_nil]); first | done | rfl | (simp only [List.length_drop, List.length_take]; rfl)) ?_; (with_reducible refine (tandemref3_put.calls a1 128 (decide (a0 ≥ 128)) t125 _ A3.out).mono ?_); rintro e w' ⟨rfl, ⟨nd, rfl⟩⟩; refine ⟨_, rfl, ?_⟩) | ((with_reducible refine gate_callee (f := 38) rfl ?_); refine goesL_ (some 12) rfl rfl Try.func38 (by kernel_rfl) rfl #[.int .u8 t125, .int .u8 2, .bool (a0 == 0)] rfl (by (try simp only [List.map_toArray, List.map_cons, List.map_nil]); first | done | rfl | (simp only [List.length_drop, List.length_take]; rfl)) ?_; (with_reducible refine (tandemref3_put.calls t125 2 (a0 == 0) t126 _ A4.out).mono ?_); rintro e w' ⟨rfl, ⟨nd, rfl⟩⟩; refine ⟨_, rfl, ?_⟩))
  go_ret
  exact ⟨by first | rfl | (simp; done) | (simp [*]; done), by repeat (first | exact Drawn0.refl _ | apply Drawn0.step)⟩

/-! ### tandemref3_rest: function 39 -/
def tandemref3_rest.f (a0 : Int) (a1 : Int) : Option (Int) := if a1 = 0 then (none) else (if (Int.tmod a0 a1) < 0 then (some (wrap64 ((Int.tmod a0 a1) + a1))) else (some (Int.tmod a0 a1)))
set_option maxHeartbeats 8000000 in
set_option maxRecDepth 100000 in
theorem tandemref3_rest.calls (a0 : Int) (a1 : Int) (r : Int) (w : World) (h : tandemref3_rest.f a0 a1 = some r) :
    Calls Try.prog 39 #[.int .i64 a0, .int .i64 a1] w fun e w' => e = .returned (.int .i64 r) ∧ Drawn0 w w' := by
  have H : (if a1 = 0 then (none) else (if (Int.tmod a0 a1) < 0 then (some (wrap64 ((Int.tmod a0 a1) + a1))) else (some (Int.tmod a0 a1)))) = some r := h
  clear h
  by_cases c3 : a1 = 0
  · rw [if_pos c3] at H
    exact absurd H (by simp)
  · rw [if_neg c3] at H
    have c3b0 : (a1 == 0) = false := beq_eq_false_iff_ne.mpr c3
    have c3b1 : (a1 != 0) = true := bne_iff_ne.mpr c3
    by_cases c4 : (Int.tmod a0 a1) < 0
    · rw [if_pos c4] at H
      have c4b0 : decide ((Int.tmod a0 a1) < 0) = true := decide_eq_true c4
      clear c4
      obtain rfl := Option.some.inj H
      go_enter Try.func39, Try.ntmps39
      go_wp2
      go_ret
      exact ⟨by first | rfl | (simp; done) | (simp [*]; done), by repeat (first | exact Drawn0.refl _ | apply Drawn0.step)⟩
    · rw [if_neg c4] at H
      have c4b0 : decide ((Int.tmod a0 a1) < 0) = false := decide_eq_false c4
      clear c4
      obtain rfl := Option.some.inj H
      go_enter Try.func39, Try.ntmps39
      go_wp2
      go_ret
      exact ⟨by first | rfl | (simp; done) | (simp [*]; done), by repeat (first | exact Drawn0.refl _ | apply Drawn0.step)⟩

/-! ### tandemref3_Cmp: function 27 -/
def tandemref3_Cmp.f (a0 : Int) (a1 : Int) (a2 : Int) : Option (Int) := (tandemref3_put.f a2 1 (decide (a0 ≥ a1))).bind fun t127 => ((tandemref3_rest.f (wrap64 ((wrap64 (a0)) - (wrap64 (a1)))) 256).bind fun t128 => ((tandemref3_Nz.f ((t128) % 256) t127).bind fun t129 => (some t129)))
set_option maxHeartbeats 8000000 in
set_option maxRecDepth 100000 in
theorem tandemref3_Cmp.calls (a0 : Int) (a1 : Int) (a2 : Int) (r : Int) (w : World) (h : tandemref3_Cmp.f a0 a1 a2 = some r) :
    Calls Try.prog 27 #[.int .u8 a0, .int .u8 a1, .int .u8 a2] w fun e w' => e = .returned (.int .u8 r) ∧ Drawn0 w w' := by
  have H : ((tandemref3_put.f a2 1 (decide (a0 ≥ a1))).bind fun t127 => ((tandemref3_rest.f (wrap64 ((wrap64 (a0)) - (wrap64 (a1)))) 256).bind fun t128 => ((tandemref3_Nz.f ((t128) % 256) t127).bind fun t129 => (some t129)))) = some r := h
  clear h
  replace H := Option.bind_eq_some_iff.mp H
  obtain ⟨t127, A40, H⟩ := H
  replace H : ((tandemref3_rest.f (wrap64 ((wrap64 (a0)) - (wrap64 (a1)))) 256).bind fun t128 => ((tandemref3_Nz.f ((t128) % 256) t127).bind fun t129 => (some t129))) = some r := H
  have A4 := Aside0.mk A40
  clear A40
  replace H := Option.bind_eq_some_iff.mp H
  obtain ⟨t128, A50, H⟩ := H
  replace H : ((tandemref3_Nz.f ((t128) % 256) t127).bind fun t129 => (some t129)) = some r := H
  have A5 := Aside0.mk A50
  clear A50
  replace H := Option.bind_eq_some_iff.mp H
  obtain ⟨t129, A60, H⟩ := H
  replace H : (some t129) = some r := H
  have A6 := Aside0.mk A60
  clear A60
  obtain rfl := Option.some.inj H
  go_enter Try.func27, Try.ntmps27
  go_wp2_with (first | ((with_reducible refine gate_callee (f := 38) rfl ?_); refine goesL_ (some 11) rfl rfl Try.func38 (by kernel_rfl) rfl #[.int .u8 a2, .int .u8 1, .bool (decide (a0 ≥ a1))] rfl (by (try simp only [List.map_toArray, List.map_cons, List.map_nil]); first | done | rfl | (simp only [List.length_drop, List.length_take]; rfl)) ?_; (with_reducible refine (tandemref3_put.calls a2 1 (decide (a0 ≥ a1)) t127 _ A4.out).mono ?_); rintro e w' ⟨rfl, ⟨nd, rfl⟩⟩; refine ⟨_, rfl, ?_⟩) | ((with_reducible refine gate_callee (f := 39) rfl ?_); refine goesL_ (some 17) rfl rfl Try.func39 (by kernel_rfl) rfl #[.int .i64 (wrap64 ((wrap64 (a0)) - (wrap64 (a1)))), .int .i64 256] rfl (by (try simp only [List.map_toArray, List.map_cons, List.map_nil]); first | done | rfl | (simp only [List.length_drop, List.length_take]; rfl)) ?_; (with_reducible refine (tandemref3_rest.calls (wrap64 ((wrap64 (a0)) - (wrap64 (a1)))) 256 t128 _ A5.out).mono ?_); rintro e w' ⟨rfl, ⟨nd, rfl⟩⟩; refine ⟨_, rfl, ?_⟩) | ((with_reducible refine gate_callee (f := 26) rfl ?_); refine goesL_ (some 20) rfl rfl Try.func26 (by kernel_rfl) rfl #[.int .u8 ((t128) % 256), .int .u8 t127] rfl (by (try simp only [List.map_toArray, List.map_cons, List.map_nil]); first | done | rfl | (simp only [List.length_drop, List.length_take]; rfl)) ?_; (with_reducible refine (tandemref3_Nz.calls ((t128) % 256) t127 t129 _ A6.out).mono ?_); rintro e w' ⟨rfl, ⟨nd, rfl⟩⟩; refine ⟨_, rfl, ?_⟩))
  go_ret
  exact ⟨by first | rfl | (simp; done) | (simp [*]; done), by repeat (first | exact Drawn0.refl _ | apply Drawn0.step)⟩

/-! ### tandemref3_carry: function 40 -/
def tandemref3_carry.f (a0 : Int) : Option (Int) := some (wrap64 (Go.bits .and .u8 a0 1))
set_option maxHeartbeats 8000000 in
set_option maxRecDepth 100000 in
theorem tandemref3_carry.calls (a0 : Int) (r : Int) (w : World) (h : tandemref3_carry.f a0 = some r) :
    Calls Try.prog 40 #[.int .u8 a0] w fun e w' => e = .returned (.int .i64 r) ∧ Drawn0 w w' := by
  have H : (some (wrap64 (Go.bits .and .u8 a0 1))) = some r := h
  clear h
  obtain rfl := Option.some.inj H
  go_enter Try.func40, Try.ntmps40
  go_wp2
  go_ret
  exact ⟨by first | rfl | (simp; done) | (simp [*]; done), by repeat (first | exact Drawn0.refl _ | apply Drawn0.step)⟩

/-! ### tandemref3_Shift: function 28 -/
def tandemref3_Shift.f (a0 : Int) (a1 : Int) (a2 : Int) : Option (Int × Int) := if a0 = 2 then ((tandemref3_rest.f (wrap64 (2 * (wrap64 (a1)))) 256).bind fun t130 => ((tandemref3_put.f a2 1 (decide ((wrap64 (a1)) ≥ 128))).bind fun t131 => ((tandemref3_Nz.f ((t130) % 256) t131).bind fun t132 => (some ((t130) % 256, t132))))) else (if a0 = 39 then ((tandemref3_carry.f a2).bind fun t133 => ((tandemref3_rest.f (wrap64 ((wrap64 (2 * (wrap64 (a1)))) + t133)) 256).bind fun t134 => ((tandemref3_put.f a2 1 (decide ((wrap64 (a1)) ≥ 128))).bind fun t135 => ((tandemref3_Nz.f ((t134) % 256) t135).bind fun t136 => (some ((t134) % 256, t136)))))) else (if a0 = 32 then ((tandemref3_rest.f (wrap64 (Int.tdiv (wrap64 (a1)) 2)) 256).bind fun t137 => ((tandemref3_put.f a2 1 ((Int.tmod (wrap64 (a1)) 2) == 1)).bind fun t138 => ((tandemref3_Nz.f ((t137) % 256) t138).bind fun t139 => (some ((t137) % 256, t139))))) else (if a0 = 40 then ((tandemref3_carry.f a2).bind fun t140 => ((tandemref3_rest.f (wrap64 ((wrap64 (Int.tdiv (wrap64 (a1)) 2)) + (wrap64 (128 * t140)))) 256).bind fun t141 => ((tandemref3_put.f a2 1 ((Int.tmod (wrap64 (a1)) 2) == 1)).bind fun t142 => ((tandemref3_Nz.f ((t141) % 256) t142).bind fun t143 => (some ((t141) % 256, t143)))))) else (some (a1, a2)))))
set_option maxHeartbeats 8000000 in
set_option maxRecDepth 100000 in
theorem tandemref3_Shift.calls (a0 : Int) (a1 : Int) (a2 : Int) (r1 : Int) (r2 : Int) (w : World) (h : tandemref3_Shift.f a0 a1 a2 = some (r1, r2)) :
    Calls Try.prog 28 #[.int .i64 a0, .int .u8 a1, .int .u8 a2] w fun e w' => e = .returned (.tuple #[.int .u8 r1, .int .u8 r2]) ∧ Drawn0 w w' := by
  have H : (if a0 = 2 then ((tandemref3_rest.f (wrap64 (2 * (wrap64 (a1)))) 256).bind fun t130 => ((tandemref3_put.f a2 1 (decide ((wrap64 (a1)) ≥ 128))).bind fun t131 => ((tandemref3_Nz.f ((t130) % 256) t131).bind fun t132 => (some ((t130) % 256, t132))))) else (if a0 = 39 then ((tandemref3_carry.f a2).bind fun t133 => ((tandemref3_rest.f (wrap64 ((wrap64 (2 * (wrap64 (a1)))) + t133)) 256).bind fun t134 => ((tandemref3_put.f a2 1 (decide ((wrap64 (a1)) ≥ 128))).bind fun t135 => ((tandemref3_Nz.f ((t134) % 256) t135).bind fun t136 => (some ((t134) % 256, t136)))))) else (if a0 = 32 then ((tandemref3_rest.f (wrap64 (Int.tdiv (wrap64 (a1)) 2)) 256).bind fun t137 => ((tandemref3_put.f a2 1 ((Int.tmod (wrap64 (a1)) 2) == 1)).bind fun t138 => ((tandemref3_Nz.f ((t137) % 256) t138).bind fun t139 => (some ((t137) % 256, t139))))) else (if a0 = 40 then ((tandemref3_carry.f a2).bind fun t140 => ((tandemref3_rest.f (wrap64 ((wrap64 (Int.tdiv (wrap64 (a1)) 2)) + (wrap64 (128 * t140)))) 256).bind fun t141 => ((tandemref3_put.f a2 1 ((Int.tmod (wrap64 (a1)) 2) == 1)).bind fun t142 => ((tandemref3_Nz.f ((t141) % 256) t142).bind fun t143 => (some ((t141) % 256, t143)))))) else (some (a1, a2)))))) = some (r1, r2) := h
  clear h
  by_cases c4 : a0 = 2
  · rw [if_pos c4] at H
    have c4b0 : (a0 == 2) = true := beq_iff_eq.mpr c4
    have c4b1 : (a0 != 2) = false := bne_eq_false_iff_eq.mpr c4
    clear c4
    replace H := Option.bind_eq_some_iff.mp H
    obtain ⟨t130, A50, H⟩ := H
    replace H : ((tandemref3_put.f a2 1 (decide ((wrap64 (a1)) ≥ 128))).bind fun t131 => ((tandemref3_Nz.f ((t130) % 256) t131).bind fun t132 => (some ((t130) % 256, t132)))) = some (r1, r2) := H
    have A5 := Aside0.mk A50
    clear A50
    replace H := Option.bind_eq_some_iff.mp H
    obtain ⟨t131, A60, H⟩ := H
    replace H : ((tandemref3_Nz.f ((t130) % 256) t131).bind fun t132 => (some ((t130) % 256, t132))) = some (r1, r2) := H
    have A6 := Aside0.mk A60
    clear A60
    replace H := Option.bind_eq_some_iff.mp H
    obtain ⟨t132, A70, H⟩ := H
    replace H : (some ((t130) % 256, t132)) = some (r1, r2) := H
    have A7 := Aside0.mk A70
    clear A70
    simp only [Option.some.injEq, Prod.mk.injEq] at H
    obtain ⟨rfl, rfl⟩ := H
    go_enter Try.func28, Try.ntmps28
    go_wp2_with (first | ((with_reducible refine gate_callee (f := 39) rfl ?_); refine goesL_ (some 50) rfl rfl Try.func39 (by kernel_rfl) rfl #[.int .i64 (wrap64 (2 * (wrap64 (a1)))), .int .i64 256] rfl (by (try simp only [List.map_toArray, List.map_cons, List.map_nil]); first | done | rfl | (simp only [List.length_drop, List.length_take]; rfl)) ?_; (with_reducible refine (tandemref3_rest.calls (wrap64 (2 * (wrap64 (a1)))) 256 t130 _ A5.out).mono ?_); rintro e w' ⟨rfl, ⟨nd, rfl⟩⟩; refine ⟨_, rfl, ?_⟩) | ((with_reducible refine gate_callee (f := 38) rfl ?_); refine goesL_ (some 54) rfl rfl Try.func38 (by kernel_rfl) rfl #[.int .u8 a2, .int .u8 1, .bool (decide ((wrap64 (a1)) ≥ 128))] rfl (by (try simp only [List.map_toArray, List.map_cons, List.map_nil]); first | done | rfl | (simp only [List.length_drop, List.length_take]; rfl)) ?_; (with_reducible refine (tandemref3_put.calls a2 1 (decide ((wrap64 (a1)) ≥ 128)) t131 _ A6.out).mono ?_); rintro e w' ⟨rfl, ⟨nd, rfl⟩⟩; refine ⟨_, rfl, ?_⟩) | ((with_reducible refine gate_callee (f := 26) rfl ?_); refine goesL_ (some 58) rfl rfl Try.func26 (by kernel_rfl) rfl #[.int .u8 ((t130) % 256), .int .u8 t131] rfl (by (try simp only [List.map_toArray, List.map_cons, List.map_nil]); first | done | rfl | (simp only [List.length_drop, List.length_take]; rfl)) ?_; (with_reducible refine (tandemref3_Nz.calls ((t130) % 256) t131 t132 _ A7.out).mono ?_); rintro e w' ⟨rfl, ⟨nd, rfl⟩⟩; refine ⟨_, rfl, ?_⟩))
    go_ret2
    exact ⟨by first | rfl | (simp; done) | (simp [*]; done), by repeat (first | exact Drawn0.refl _ | apply Drawn0.step)⟩
  · rw [if_neg c4] at H
    have c4b0 : (a0 == 2) = false := beq_eq_false_iff_ne.mpr c4
    have c4b1 : (a0 != 2) = true := bne_iff_ne.mpr c4
    by_cases c8 : a0 = 39
    · rw [if_pos c8] at H
      have c8b0 : (a0 == 39) = true := beq_iff_eq.mpr c8
      have c8b1 : (a0 != 39) = false := bne_eq_false_iff_eq.mpr c8
      clear c8
      replace H := Option.bind_eq_some_iff.mp H
      obtain ⟨t133, A90, H⟩ := H
      replace H : ((tandemref3_rest.f (wrap64 ((wrap64 (2 * (wrap64 (a1)))) + t133)) 256).bind fun t134 => ((tandemref3_put.f a2 1 (decide ((wrap64 (a1)) ≥ 128))).bind fun t135 => ((tandemref3_Nz.f ((t134) % 256) t135).bind fun t136 => (some ((t134) % 256, t136))))) = some (r1, r2) := H
      have A9 := Aside0.mk A90
      clear A90
      replace H := Option.bind_eq_some_iff.mp H
      obtain ⟨t134, A100, H⟩ := H
      replace H : ((tandemref3_put.f a2 1 (decide ((wrap64 (a1)) ≥ 128))).bind fun t135 => ((tandemref3_Nz.f ((t134) % 256) t135).bind fun t136 => (some ((t134) % 256, t136)))) = some (r1, r2) := H
      have A10 := Aside0.mk A100
      clear A100
      replace H := Option.bind_eq_some_iff.mp H
      obtain ⟨t135, A110, H⟩ := H
      replace H : ((tandemref3_Nz.f ((t134) % 256) t135).bind fun t136 => (some ((t134) % 256, t136))) = some (r1, r2) := H
      have A11 := Aside0.mk A110
      clear A110
      replace H := Option.bind_eq_some_iff.mp H
      obtain ⟨t136, A120, H⟩ := H
      replace H : (some ((t134) % 256, t136)) = some (r1, r2) := H
      have A12 := Aside0.mk A120
      clear A120
      simp only [Option.some.injEq, Prod.mk.injEq] at H
      obtain ⟨rfl, rfl⟩ := H
      go_enter Try.func28, Try.ntmps28
      go_wp2_with (first | ((with_reducible refine gate_callee (f := 40) rfl ?_); refine goesL_ (some 29) rfl rfl Try.func40 (by kernel_rfl) rfl #[.int .u8 a2] rfl (by (try simp only [List.map_toArray, List.map_cons, List.map_nil]); first | done | rfl | (simp only [List.length_drop, List.length_take]; rfl)) ?_; (with_reducible refine (tandemref3_carry.calls a2 t133 _ A9.out).mono ?_); rintro e w' ⟨rfl, ⟨nd, rfl⟩⟩; refine ⟨_, rfl, ?_⟩) | ((with_reducible refine gate_callee (f := 39) rfl ?_); refine goesL_ (some 50) rfl rfl Try.func39 (by kernel_rfl) rfl #[.int .i64 (wrap64 ((wrap64 (2 * (wrap64 (a1)))) + t133)), .int .i64 256] rfl (by (try simp only [List.map_toArray, List.map_cons, List.map_nil]); first | done | rfl | (simp only [List.length_drop, List.length_take]; rfl)) ?_; (with_reducible refine (tandemref3_rest.calls (wrap64 ((wrap64 (2 * (wrap64 (a1)))) + t133)) 256 t134 _ A10.out).mono ?_); rintro e w' ⟨rfl, ⟨nd, rfl⟩⟩; refine ⟨_, rfl, ?_⟩) | ((with_reducible refine gate_callee (f := 38) rfl ?_); refine goesL_ (some 54) rfl rfl Try.func38 (by kernel_rfl) rfl #[.int .u8 a2, .int .u8 1, .bool (decide ((wrap64 (a1)) ≥ 128))] rfl (by (try simp only [List.map_toArray, List.map_cons, List.map_nil]); first | done | rfl | (simp only [List.length_drop, List.length_take]; rfl)) ?_; (with_reducible refine (tandemref3_put.calls a2 1 (decide ((wrap64 (a1)) ≥ 128)) t135 _ A11.out).mono ?_); rintro e w' ⟨rfl, ⟨nd, rfl⟩⟩; refine ⟨_, rfl, ?_⟩) | ((with_reducible refine gate_callee (f := 26) rfl ?_); refine goesL_ (some 58) rfl rfl Try.func26 (by kernel_rfl) rfl #[.int .u8 ((t134) % 256), .int .u8 t135] rfl (by (try simp only [List.map_toArray, List.map_cons, List.map_nil]); first | done | rfl | (simp only [List.length_drop, List.length_take]; rfl)) ?_; (with_reducible refine (tandemref3_Nz.calls ((t134) % 256) t135 t136 _ A12.out).mono ?_); rintro e w' ⟨rfl, ⟨nd, rfl⟩⟩; refine ⟨_, rfl, ?_⟩))
      go_ret2
      exact ⟨by first | rfl | (simp; done) | (simp [*]; done), by repeat (first | exact Drawn0.refl _ | apply Drawn0.step)⟩
    · rw [if_neg c8] at H
      have c8b0 : (a0 == 39) = false := beq_eq_false_iff_ne.mpr c8
      have c8b1 : (a0 != 39) = true := bne_iff_ne.mpr c8
      by_cases c13 : a0 = 32
      · rw [if_pos c13] at H
        have c13b0 : (a0 == 32) = true := beq_iff_eq.mpr c13
        have c13b1 : (a0 != 32) = false := bne_eq_false_iff_eq.mpr c13
        clear c13
        replace H := Option.bind_eq_some_iff.mp H
        obtain ⟨t137, A140, H⟩ := H
        replace H : ((tandemref3_put.f a2 1 ((Int.tmod (wrap64 (a1)) 2) == 1)).bind fun t138 => ((tandemref3_Nz.f ((t137) % 256) t138).bind fun t139 => (some ((t137) % 256, t139)))) = some (r1, r2) := H
        have A14 := Aside0.mk A140
        clear A140
        replace H := Option.bind_eq_some_iff.mp H
        obtain ⟨t138, A150, H⟩ := H
        replace H : ((tandemref3_Nz.f ((t137) % 256) t138).bind fun t139 => (some ((t137) % 256, t139))) = some (r1, r2) := H
        have A15 := Aside0.mk A150
        clear A150
        replace H := Option.bind_eq_some_iff.mp H
        obtain ⟨t139, A160, H⟩ := H
        replace H : (some ((t137) % 256, t139)) = some (r1, r2) := H
        have A16 := Aside0.mk A160
        clear A160
        simp only [Option.some.injEq, Prod.mk.injEq] at H
        obtain ⟨rfl, rfl⟩ := H
        go_enter Try.func28, Try.ntmps28
        go_wp2_with (first | ((with_reducible refine gate_callee (f := 39) rfl ?_); refine goesL_ (some 50) rfl rfl Try.func39 (by kernel_rfl) rfl #[.int .i64 (wrap64 (Int.tdiv (wrap64 (a1)) 2)), .int .i64 256] rfl (by (try simp only [List.map_toArray, List.map_cons, List.map_nil]); first | done | rfl | (simp only [List.length_drop, List.length_take]; rfl)) ?_; (with_reducible refine (tandemref3_rest.calls (wrap64 (Int.tdiv (wrap64 (a1)) 2)) 256 t137 _ A14.out).mono ?_); rintro e w' ⟨rfl, ⟨nd, rfl⟩⟩; refine ⟨_, rfl, ?_⟩) | ((with_reducible refine gate_callee (f := 38) rfl ?_); refine goesL_ (some 54) rfl rfl Try.func38 (by kernel_rfl) rfl #[.int .u8 a2, .int .u8 1, .bool ((Int.tmod (wrap64 (a1)) 2) == 1)] rfl (by (try simp only [List.map_toArray, List.map_cons, List.map_nil]); first | done | rfl | (simp only [List.length_drop, List.length_take]; rfl)) ?_; (with_reducible refine (tandemref3_put.calls a2 1 ((Int.tmod (wrap64 (a1)) 2) == 1) t138 _ A15.out).mono ?_); rintro e w' ⟨rfl, ⟨nd, rfl⟩⟩; refine ⟨_, rfl, ?_⟩) | ((with_reducible refine gate_callee (f := 26) rfl ?_); refine goesL_ (some 58) rfl rfl Try.func26 (by kernel_rfl) rfl #[.int .u8 ((t137) % 256), .int .u8 t138] rfl (by (try simp only [List.map_toArray, List.map_cons, List.map_nil]); first | done | rfl | (simp only [List.length_drop, List.length_take]; rfl)) ?_; (with_reducible refine (tandemref3_Nz.calls ((t137) % 256) t138 t139 _ A16.out).mono ?_); rintro e w' ⟨rfl, ⟨nd, rfl⟩⟩; refine ⟨_, rfl, ?_⟩))
        go_ret2
        exact ⟨by first | rfl | (simp; done) | (simp [*]; done), by repeat (first | exact Drawn0.refl _ | apply Drawn0.step)⟩
      · rw [if_neg c13] at H
        have c13b0 : (a0 == 32) = false := beq_eq_false_iff_ne.mpr c13
        have c13b1 : (a0 != 32) = true := bne_iff_ne.mpr c13
        by_cases c17 : a0 = 40
        · rw [if_pos c17] at H
          have c17b0 : (a0 == 40) = true := beq_iff_eq.mpr c17
          have c17b1 : (a0 != 40) = false := bne_eq_false_iff_eq.mpr c17
          clear c17
          replace H := Option.bind_eq_some_iff.mp H
          obtain ⟨t140, A180, H⟩ := H
          replace H : ((tandemref3_rest.f (wrap64 ((wrap64 (Int.tdiv (wrap64 (a1)) 2)) + (wrap64 (128 * t140)))) 256).bind fun t141 => ((tandemref3_put.f a2 1 ((Int.tmod (wrap64 (a1)) 2) == 1)).bind fun t142 => ((tandemref3_Nz.f ((t141) % 256) t142).bind fun t143 => (some ((t141) % 256, t143))))) = some (r1, r2) := H
          have A18 := Aside0.mk A180
          clear A180
          replace H := Option.bind_eq_some_iff.mp H
          obtain ⟨t141, A190, H⟩ := H
          replace H : ((tandemref3_put.f a2 1 ((Int.tmod (wrap64 (a1)) 2) == 1)).bind fun t142 => ((tandemref3_Nz.f ((t141) % 256) t142).bind fun t143 => (some ((t141) % 256, t143)))) = some (r1, r2) := H
          have A19 := Aside0.mk A190
          clear A190
          replace H := Option.bind_eq_some_iff.mp H
          obtain ⟨t142, A200, H⟩ := H
          replace H : ((tandemref3_Nz.f ((t141) % 256) t142).bind fun t143 => (some ((t141) % 256, t143))) = some (r1, r2) := H
          have A20 := Aside0.mk A200
          clear A200
          replace H := Option.bind_eq_some_iff.mp H
          obtain ⟨t143, A210, H⟩ := H
          replace H : (some ((t141) % 256, t143)) = some (r1, r2) := H
          have A21 := Aside0.mk A210
          clear A210
          simp only [Option.some.injEq, Prod.mk.injEq] at H
          obtain ⟨rfl, rfl⟩ := H
          go_enter Try.func28, Try.ntmps28
          go_wp2_with (first | ((with_reducible refine gate_callee (f := 40) rfl ?_); refine goesL_ (some 46) rfl rfl Try.func40 (by kernel_rfl) rfl #[.int .u8 a2] rfl (by (try simp only [List.map_toArray, List.map_cons, List.map_nil]); first | done | rfl | (simp only [List.length_drop, List.length_take]; rfl)) ?_; (with_reducible refine (tandemref3_carry.calls a2 t140 _ A18.out).mono ?_); rintro e w' ⟨rfl, ⟨nd, rfl⟩⟩; refine ⟨_, rfl, ?_⟩) | ((with_reducible refine gate_callee (f := 39) rfl ?_); refine goesL_ (some 50) rfl rfl Try.func39 (by kernel_rfl) rfl #[.int .i64 (wrap64 ((wrap64 (Int.tdiv (wrap64 (a1)) 2)) + (wrap64 (128 * t140)))), .int .i64 256] rfl (by (try simp only [List.map_toArray, List.map_cons, List.map_nil]); first | done | rfl | (simp only [List.length_drop, List.length_take]; rfl)) ?_; (with_reducible refine (tandemref3_rest.calls (wrap64 ((wrap64 (Int.tdiv (wrap64 (a1)) 2)) + (wrap64 (128 * t140)))) 256 t141 _ A19.out).mono ?_); rintro e w' ⟨rfl, ⟨nd, rfl⟩⟩; refine ⟨_, rfl, ?_⟩) | ((with_reducible refine gate_callee (f := 38) rfl ?_); refine goesL_ (some 54) rfl rfl Try.func38 (by kernel_rfl) rfl #[.int .u8 a2, .int .u8 1, .bool ((Int.tmod (wrap64 (a1)) 2) == 1)] rfl (by (try simp only [List.map_toArray, List.map_cons, List.map_nil]); first | done | rfl | (simp only [List.length_drop, List.length_take]; rfl)) ?_; (with_reducible refine (tandemref3_put.calls a2 1 ((Int.tmod (wrap64 (a1)) 2) == 1) t142 _ A20.out).mono ?_); rintro e w' ⟨rfl, ⟨nd, rfl⟩⟩; refine ⟨_, rfl, ?_⟩) | ((with_reducible refine gate_callee (f := 26) rfl ?_); refine goesL_ (some 58) rfl rfl Try.func26 (by kernel_rfl) rfl #[.int .u8 ((t141) % 256), .int .u8 t142] rfl (by (try simp only [List.map_toArray, List.map_cons, List.map_nil]); first | done | rfl | (simp only [List.length_drop, List.length_take]; rfl)) ?_; (with_reducible refine (tandemref3_Nz.calls ((t141) % 256) t142 t143 _ A21.out).mono ?_); rintro e w' ⟨rfl, ⟨nd, rfl⟩⟩; refine ⟨_, rfl, ?_⟩))
          go_ret2
          exact ⟨by first | rfl | (simp; done) | (simp [*]; done), by repeat (first | exact Drawn0.refl _ | apply Drawn0.step)⟩
        · rw [if_neg c17] at H
          have c17b0 : (a0 == 40) = false := beq_eq_false_iff_ne.mpr c17
          have c17b1 : (a0 != 40) = true := bne_iff_ne.mpr c17
          simp only [Option.some.injEq, Prod.mk.injEq] at H
          obtain ⟨rfl, rfl⟩ := H
          go_enter Try.func28, Try.ntmps28
          go_wp2
          go_ret2
          exact ⟨by first | rfl | (simp; done) | (simp [*]; done), by repeat (first | exact Drawn0.refl _ | apply Drawn0.step)⟩

/-! ### tandemref3_high: function 41 -/
def tandemref3_high.f (a0 : Int) : Option (Bool) := (tandemref3_rest.f a0 256).bind fun t144 => (some (decide (t144 ≥ 128)))
set_option maxHeartbeats 8000000 in
set_option maxRecDepth 100000 in
theorem tandemref3_high.calls (a0 : Int) (r : Bool) (w : World) (h : tandemref3_high.f a0 = some r) :
    Calls Try.prog 41 #[.int .i64 a0] w fun e w' => e = .returned (.bool r) ∧ Drawn0 w w' := by
  have H : ((tandemref3_rest.f a0 256).bind fun t144 => (some (decide (t144 ≥ 128)))) = some r := h
  clear h
  replace H := Option.bind_eq_some_iff.mp H
  obtain ⟨t144, A20, H⟩ := H
  replace H : (some (decide (t144 ≥ 128))) = some r := H
  have A2 := Aside0.mk A20
  clear A20
  obtain rfl := Option.some.inj H
  go_enter Try.func41, Try.ntmps41
  go_wp2_with (first | ((with_reducible refine gate_callee (f := 39) rfl ?_); refine goesL_ (some 4) rfl rfl Try.func39 (by kernel_rfl) rfl #[.int .i64 a0, .int .i64 256] rfl (by (try simp only [List.map_toArray, List.map_cons, List.map_nil]); first | done | rfl | (simp only [List.length_drop, List.length_take]; rfl)) ?_; (with_reducible refine (tandemref3_rest.calls a0 256 t144 _ A2.out).mono ?_); rintro e w' ⟨rfl, ⟨nd, rfl⟩⟩; refine ⟨_, rfl, ?_⟩))
  go_ret
  exact ⟨by first | rfl | (simp; done) | (simp [*]; done), by repeat (first | exact Drawn0.refl _ | apply Drawn0.step)⟩

end Go.Proofs.Ytajffjhfecckbaa.XAluParts
