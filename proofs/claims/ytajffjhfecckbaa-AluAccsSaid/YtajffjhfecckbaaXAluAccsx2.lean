-- Made by this seat's own programs wip/tools/xprint.py and override.py.
import Derived.Test.YtajffjhfecckbaaXAluAccsx0
import Derived.Test.YtajffjhfecckbaaXAluAccsx1
import Derived.Test.YtajffjhfecckbaaOwn
namespace Go.Proofs.Ytajffjhfecckbaa.XAluAccs
open Go.RowKit Go.Proofs.YtajffjhfecckbaaW.PrintWords Go.Proofs.YtajffjhfecckbaaW.PrintLast Go.Proofs.YtajffjhfecckbaaW.PrintMore
attribute [local go_sem] max2_int min2_int max_two min_two max_three min_three max_four min_four   -- for this text's walks alone
set_option linter.unusedVariables false
set_option linter.unusedSimpArgs false

attribute [local go_sem high] eqA35
/-! ### alu_Nz: function 25 -/
def alu_Nz.f (a0 : Int) (a1 : Int) : Option (Int) := if a0 = 0 then (some (Go.bits .or .u8 (Go.bits .or .u8 (Go.bits .andNot .u8 a1 130) 2) (Go.bits .and .u8 a0 128))) else (some (Go.bits .or .u8 (Go.bits .andNot .u8 a1 130) (Go.bits .and .u8 a0 128)))
set_option maxHeartbeats 8000000 in
set_option maxRecDepth 100000 in
theorem alu_Nz.calls (a0 : Int) (a1 : Int) (r : Int) (w : World) (h : alu_Nz.f a0 a1 = some r) :
    Calls Try.prog 25 #[.int .u8 a0, .int .u8 a1] w fun e w' => e = .returned (.int .u8 r) ∧ Drawn0 w w' := by
  have H : (if a0 = 0 then (some (Go.bits .or .u8 (Go.bits .or .u8 (Go.bits .andNot .u8 a1 130) 2) (Go.bits .and .u8 a0 128))) else (some (Go.bits .or .u8 (Go.bits .andNot .u8 a1 130) (Go.bits .and .u8 a0 128)))) = some r := h
  clear h
  by_cases c3 : a0 = 0
  · rw [if_pos c3] at H
    have c3b0 : (a0 == 0) = true := beq_iff_eq.mpr c3
    have c3b1 : (a0 != 0) = false := bne_eq_false_iff_eq.mpr c3
    clear c3
    obtain rfl := Option.some.inj H
    go_enter Try.func25, Try.ntmps25
    go_wp2
    go_ret
    exact ⟨by first | rfl | (simp; done) | (simp [*]; done), by repeat (first | exact Drawn0.refl _ | apply Drawn0.step)⟩
  · rw [if_neg c3] at H
    have c3b0 : (a0 == 0) = false := beq_eq_false_iff_ne.mpr c3
    have c3b1 : (a0 != 0) = true := bne_iff_ne.mpr c3
    obtain rfl := Option.some.inj H
    go_enter Try.func25, Try.ntmps25
    go_wp2
    go_ret
    exact ⟨by first | rfl | (simp; done) | (simp [*]; done), by repeat (first | exact Drawn0.refl _ | apply Drawn0.step)⟩

/-! ### alu_put: function 36 -/
def alu_put.f (a0 : Int) (a1 : Int) (a2 : Bool) : Option (Int) := if a2 = true then (some (Go.bits .or .u8 a0 a1)) else (some (Go.bits .andNot .u8 a0 a1))
set_option maxHeartbeats 8000000 in
set_option maxRecDepth 100000 in
theorem alu_put.calls (a0 : Int) (a1 : Int) (a2 : Bool) (r : Int) (w : World) (h : alu_put.f a0 a1 a2 = some r) :
    Calls Try.prog 36 #[.int .u8 a0, .int .u8 a1, .bool a2] w fun e w' => e = .returned (.int .u8 r) ∧ Drawn0 w w' := by
  have H : (if a2 = true then (some (Go.bits .or .u8 a0 a1)) else (some (Go.bits .andNot .u8 a0 a1))) = some r := h
  clear h
  by_cases c4 : a2 = true
  · subst c4
    have H1 : (some (Go.bits .or .u8 a0 a1)) = some r := by rw [if_pos rfl] at H; exact H
    clear H
    have H := H1
    clear H1
    obtain rfl := Option.some.inj H
    go_enter Try.func36, Try.ntmps36
    go_wp2
    go_ret
    exact ⟨by first | rfl | (simp; done) | (simp [*]; done), by repeat (first | exact Drawn0.refl _ | apply Drawn0.step)⟩
  · replace c4 := Bool.eq_false_iff.mpr c4
    subst c4
    have H1 : (some (Go.bits .andNot .u8 a0 a1)) = some r := by rw [if_neg (show ¬ (false = true) by decide)] at H; exact H
    clear H
    have H := H1
    clear H1
    obtain rfl := Option.some.inj H
    go_enter Try.func36, Try.ntmps36
    go_wp2
    go_ret
    exact ⟨by first | rfl | (simp; done) | (simp [*]; done), by repeat (first | exact Drawn0.refl _ | apply Drawn0.step)⟩

/-! ### alu_Shift: function 14 -/
def alu_Shift.f (a0 : Int) (a1 : Int) (a2 : Int) : Option (Int × Int) := if a0 = 2 then ((alu_put.f a2 1 ((Go.bits .and .u8 a1 128) != 0)).bind fun t101 => ((alu_Nz.f ((a1 * 2) % 256) t101).bind fun t102 => (some ((a1 * 2) % 256, t102)))) else (if a0 = 39 then ((alu_put.f a2 1 ((Go.bits .and .u8 a1 128) != 0)).bind fun t103 => ((alu_Nz.f (Go.bits .or .u8 ((a1 * 2) % 256) (Go.bits .and .u8 a2 1)) t103).bind fun t104 => (some (Go.bits .or .u8 ((a1 * 2) % 256) (Go.bits .and .u8 a2 1), t104)))) else (if a0 = 32 then ((alu_put.f a2 1 ((Go.bits .and .u8 a1 1) != 0)).bind fun t105 => ((alu_Nz.f (a1 / 2) t105).bind fun t106 => (some (a1 / 2, t106)))) else (if a0 = 40 then ((alu_put.f a2 1 ((Go.bits .and .u8 a1 1) != 0)).bind fun t107 => ((alu_Nz.f (Go.bits .or .u8 (a1 / 2) (((Go.bits .and .u8 a2 1) * 128) % 256)) t107).bind fun t108 => (some (Go.bits .or .u8 (a1 / 2) (((Go.bits .and .u8 a2 1) * 128) % 256), t108)))) else (some (a1, a2)))))
set_option maxHeartbeats 8000000 in
set_option maxRecDepth 100000 in
theorem alu_Shift.calls (a0 : Int) (a1 : Int) (a2 : Int) (r1 : Int) (r2 : Int) (w : World) (h : alu_Shift.f a0 a1 a2 = some (r1, r2)) :
    Calls Try.prog 14 #[.int .i64 a0, .int .u8 a1, .int .u8 a2] w fun e w' => e = .returned (.tuple #[.int .u8 r1, .int .u8 r2]) ∧ Drawn0 w w' := by
  have H : (if a0 = 2 then ((alu_put.f a2 1 ((Go.bits .and .u8 a1 128) != 0)).bind fun t101 => ((alu_Nz.f ((a1 * 2) % 256) t101).bind fun t102 => (some ((a1 * 2) % 256, t102)))) else (if a0 = 39 then ((alu_put.f a2 1 ((Go.bits .and .u8 a1 128) != 0)).bind fun t103 => ((alu_Nz.f (Go.bits .or .u8 ((a1 * 2) % 256) (Go.bits .and .u8 a2 1)) t103).bind fun t104 => (some (Go.bits .or .u8 ((a1 * 2) % 256) (Go.bits .and .u8 a2 1), t104)))) else (if a0 = 32 then ((alu_put.f a2 1 ((Go.bits .and .u8 a1 1) != 0)).bind fun t105 => ((alu_Nz.f (a1 / 2) t105).bind fun t106 => (some (a1 / 2, t106)))) else (if a0 = 40 then ((alu_put.f a2 1 ((Go.bits .and .u8 a1 1) != 0)).bind fun t107 => ((alu_Nz.f (Go.bits .or .u8 (a1 / 2) (((Go.bits .and .u8 a2 1) * 128) % 256)) t107).bind fun t108 => (some (Go.bits .or .u8 (a1 / 2) (((Go.bits .and .u8 a2 1) * 128) % 256), t108)))) else (some (a1, a2)))))) = some (r1, r2) := h
  clear h
  by_cases c4 : a0 = 2
  · rw [if_pos c4] at H
    have c4b0 : (a0 == 2) = true := beq_iff_eq.mpr c4
    have c4b1 : (a0 != 2) = false := bne_eq_false_iff_eq.mpr c4
    clear c4
    replace H := Option.bind_eq_some_iff.mp H
    obtain ⟨t101, A50, H⟩ := H
    replace H : ((alu_Nz.f ((a1 * 2) % 256) t101).bind fun t102 => (some ((a1 * 2) % 256, t102))) = some (r1, r2) := H
    have A5 := Aside0.mk A50
    clear A50
    replace H := Option.bind_eq_some_iff.mp H
    obtain ⟨t102, A60, H⟩ := H
    replace H : (some ((a1 * 2) % 256, t102)) = some (r1, r2) := H
    have A6 := Aside0.mk A60
    clear A60
    simp only [Option.some.injEq, Prod.mk.injEq] at H
    obtain ⟨rfl, rfl⟩ := H
    go_enter Try.func14, Try.ntmps14
    go_wp2_with (first | ((with_reducible refine gate_callee (f := 36) rfl ?_); refine goesL_ (some 53) rfl rfl Try.func36 (by kernel_rfl) rfl #[.int .u8 a2, .int .u8 1, .bool ((Go.bits .and .u8 a1 128) != 0)] rfl (by (try simp only [List.map_toArray, List.map_cons, List.map_nil]); first | done | rfl | (simp only [List.length_drop, List.length_take]; rfl)) ?_; (with_reducible refine (alu_put.calls a2 1 ((Go.bits .and .u8 a1 128) != 0) t101 _ A5.out).mono ?_); rintro e w' ⟨rfl, ⟨nd, rfl⟩⟩; refine ⟨_, rfl, ?_⟩) | ((with_reducible refine gate_callee (f := 25) rfl ?_); refine goesL_ (some 54) rfl rfl Try.func25 (by kernel_rfl) rfl #[.int .u8 ((a1 * 2) % 256), .int .u8 t101] rfl (by (try simp only [List.map_toArray, List.map_cons, List.map_nil]); first | done | rfl | (simp only [List.length_drop, List.length_take]; rfl)) ?_; (with_reducible refine (alu_Nz.calls ((a1 * 2) % 256) t101 t102 _ A6.out).mono ?_); rintro e w' ⟨rfl, ⟨nd, rfl⟩⟩; refine ⟨_, rfl, ?_⟩))
    go_ret2
    exact ⟨by first | rfl | (simp; done) | (simp [*]; done), by repeat (first | exact Drawn0.refl _ | apply Drawn0.step)⟩
  · rw [if_neg c4] at H
    have c4b0 : (a0 == 2) = false := beq_eq_false_iff_ne.mpr c4
    have c4b1 : (a0 != 2) = true := bne_iff_ne.mpr c4
    by_cases c7 : a0 = 39
    · rw [if_pos c7] at H
      have c7b0 : (a0 == 39) = true := beq_iff_eq.mpr c7
      have c7b1 : (a0 != 39) = false := bne_eq_false_iff_eq.mpr c7
      clear c7
      replace H := Option.bind_eq_some_iff.mp H
      obtain ⟨t103, A80, H⟩ := H
      replace H : ((alu_Nz.f (Go.bits .or .u8 ((a1 * 2) % 256) (Go.bits .and .u8 a2 1)) t103).bind fun t104 => (some (Go.bits .or .u8 ((a1 * 2) % 256) (Go.bits .and .u8 a2 1), t104))) = some (r1, r2) := H
      have A8 := Aside0.mk A80
      clear A80
      replace H := Option.bind_eq_some_iff.mp H
      obtain ⟨t104, A90, H⟩ := H
      replace H : (some (Go.bits .or .u8 ((a1 * 2) % 256) (Go.bits .and .u8 a2 1), t104)) = some (r1, r2) := H
      have A9 := Aside0.mk A90
      clear A90
      simp only [Option.some.injEq, Prod.mk.injEq] at H
      obtain ⟨rfl, rfl⟩ := H
      go_enter Try.func14, Try.ntmps14
      go_wp2_with (first | ((with_reducible refine gate_callee (f := 36) rfl ?_); refine goesL_ (some 53) rfl rfl Try.func36 (by kernel_rfl) rfl #[.int .u8 a2, .int .u8 1, .bool ((Go.bits .and .u8 a1 128) != 0)] rfl (by (try simp only [List.map_toArray, List.map_cons, List.map_nil]); first | done | rfl | (simp only [List.length_drop, List.length_take]; rfl)) ?_; (with_reducible refine (alu_put.calls a2 1 ((Go.bits .and .u8 a1 128) != 0) t103 _ A8.out).mono ?_); rintro e w' ⟨rfl, ⟨nd, rfl⟩⟩; refine ⟨_, rfl, ?_⟩) | ((with_reducible refine gate_callee (f := 25) rfl ?_); refine goesL_ (some 54) rfl rfl Try.func25 (by kernel_rfl) rfl #[.int .u8 (Go.bits .or .u8 ((a1 * 2) % 256) (Go.bits .and .u8 a2 1)), .int .u8 t103] rfl (by (try simp only [List.map_toArray, List.map_cons, List.map_nil]); first | done | rfl | (simp only [List.length_drop, List.length_take]; rfl)) ?_; (with_reducible refine (alu_Nz.calls (Go.bits .or .u8 ((a1 * 2) % 256) (Go.bits .and .u8 a2 1)) t103 t104 _ A9.out).mono ?_); rintro e w' ⟨rfl, ⟨nd, rfl⟩⟩; refine ⟨_, rfl, ?_⟩))
      go_ret2
      exact ⟨by first | rfl | (simp; done) | (simp [*]; done), by repeat (first | exact Drawn0.refl _ | apply Drawn0.step)⟩
    · rw [if_neg c7] at H
      have c7b0 : (a0 == 39) = false := beq_eq_false_iff_ne.mpr c7
      have c7b1 : (a0 != 39) = true := bne_iff_ne.mpr c7
      by_cases c10 : a0 = 32
      · rw [if_pos c10] at H
        have c10b0 : (a0 == 32) = true := beq_iff_eq.mpr c10
        have c10b1 : (a0 != 32) = false := bne_eq_false_iff_eq.mpr c10
        clear c10
        replace H := Option.bind_eq_some_iff.mp H
        obtain ⟨t105, A110, H⟩ := H
        replace H : ((alu_Nz.f (a1 / 2) t105).bind fun t106 => (some (a1 / 2, t106))) = some (r1, r2) := H
        have A11 := Aside0.mk A110
        clear A110
        replace H := Option.bind_eq_some_iff.mp H
        obtain ⟨t106, A120, H⟩ := H
        replace H : (some (a1 / 2, t106)) = some (r1, r2) := H
        have A12 := Aside0.mk A120
        clear A120
        simp only [Option.some.injEq, Prod.mk.injEq] at H
        obtain ⟨rfl, rfl⟩ := H
        go_enter Try.func14, Try.ntmps14
        go_wp2_with (first | ((with_reducible refine gate_callee (f := 36) rfl ?_); refine goesL_ (some 53) rfl rfl Try.func36 (by kernel_rfl) rfl #[.int .u8 a2, .int .u8 1, .bool ((Go.bits .and .u8 a1 1) != 0)] rfl (by (try simp only [List.map_toArray, List.map_cons, List.map_nil]); first | done | rfl | (simp only [List.length_drop, List.length_take]; rfl)) ?_; (with_reducible refine (alu_put.calls a2 1 ((Go.bits .and .u8 a1 1) != 0) t105 _ A11.out).mono ?_); rintro e w' ⟨rfl, ⟨nd, rfl⟩⟩; refine ⟨_, rfl, ?_⟩) | ((with_reducible refine gate_callee (f := 25) rfl ?_); refine goesL_ (some 54) rfl rfl Try.func25 (by kernel_rfl) rfl #[.int .u8 (a1 / 2), .int .u8 t105] rfl (by (try simp only [List.map_toArray, List.map_cons, List.map_nil]); first | done | rfl | (simp only [List.length_drop, List.length_take]; rfl)) ?_; (with_reducible refine (alu_Nz.calls (a1 / 2) t105 t106 _ A12.out).mono ?_); rintro e w' ⟨rfl, ⟨nd, rfl⟩⟩; refine ⟨_, rfl, ?_⟩))
        go_ret2
        exact ⟨by first | rfl | (simp; done) | (simp [*]; done), by repeat (first | exact Drawn0.refl _ | apply Drawn0.step)⟩
      · rw [if_neg c10] at H
        have c10b0 : (a0 == 32) = false := beq_eq_false_iff_ne.mpr c10
        have c10b1 : (a0 != 32) = true := bne_iff_ne.mpr c10
        by_cases c13 : a0 = 40
        · rw [if_pos c13] at H
          have c13b0 : (a0 == 40) = true := beq_iff_eq.mpr c13
          have c13b1 : (a0 != 40) = false := bne_eq_false_iff_eq.mpr c13
          clear c13
          replace H := Option.bind_eq_some_iff.mp H
          obtain ⟨t107, A140, H⟩ := H
          replace H : ((alu_Nz.f (Go.bits .or .u8 (a1 / 2) (((Go.bits .and .u8 a2 1) * 128) % 256)) t107).bind fun t108 => (some (Go.bits .or .u8 (a1 / 2) (((Go.bits .and .u8 a2 1) * 128) % 256), t108))) = some (r1, r2) := H
          have A14 := Aside0.mk A140
          clear A140
          replace H := Option.bind_eq_some_iff.mp H
          obtain ⟨t108, A150, H⟩ := H
          replace H : (some (Go.bits .or .u8 (a1 / 2) (((Go.bits .and .u8 a2 1) * 128) % 256), t108)) = some (r1, r2) := H
          have A15 := Aside0.mk A150
          clear A150
          simp only [Option.some.injEq, Prod.mk.injEq] at H
          obtain ⟨rfl, rfl⟩ := H
          go_enter Try.func14, Try.ntmps14
          go_wp2_with (first | ((with_reducible refine gate_callee (f := 36) rfl ?_); refine goesL_ (some 53) rfl rfl Try.func36 (by kernel_rfl) rfl #[.int .u8 a2, .int .u8 1, .bool ((Go.bits .and .u8 a1 1) != 0)] rfl (by (try simp only [List.map_toArray, List.map_cons, List.map_nil]); first | done | rfl | (simp only [List.length_drop, List.length_take]; rfl)) ?_; (with_reducible refine (alu_put.calls a2 1 ((Go.bits .and .u8 a1 1) != 0) t107 _ A14.out).mono ?_); rintro e w' ⟨rfl, ⟨nd, rfl⟩⟩; refine ⟨_, rfl, ?_⟩) | ((with_reducible refine gate_callee (f := 25) rfl ?_); refine goesL_ (some 54) rfl rfl Try.func25 (by kernel_rfl) rfl #[.int .u8 (Go.bits .or .u8 (a1 / 2) (((Go.bits .and .u8 a2 1) * 128) % 256)), .int .u8 t107] rfl (by (try simp only [List.map_toArray, List.map_cons, List.map_nil]); first | done | rfl | (simp only [List.length_drop, List.length_take]; rfl)) ?_; (with_reducible refine (alu_Nz.calls (Go.bits .or .u8 (a1 / 2) (((Go.bits .and .u8 a2 1) * 128) % 256)) t107 t108 _ A15.out).mono ?_); rintro e w' ⟨rfl, ⟨nd, rfl⟩⟩; refine ⟨_, rfl, ?_⟩))
          go_ret2
          exact ⟨by first | rfl | (simp; done) | (simp [*]; done), by repeat (first | exact Drawn0.refl _ | apply Drawn0.step)⟩
        · rw [if_neg c13] at H
          have c13b0 : (a0 == 40) = false := beq_eq_false_iff_ne.mpr c13
          have c13b1 : (a0 != 40) = true := bne_iff_ne.mpr c13
          simp only [Option.some.injEq, Prod.mk.injEq] at H
          obtain ⟨rfl, rfl⟩ := H
          go_enter Try.func14, Try.ntmps14
          go_wp2
          go_ret2
          exact ⟨by first | rfl | (simp; done) | (simp [*]; done), by repeat (first | exact Drawn0.refl _ | apply Drawn0.step)⟩

/-! ### alu_Acc: function 20 -/
def alu_Acc.f (a0 : Int) (a1_0 : Int) (a1_1 : Int) (a1_2 : Int) (a1_3 : Int) (a1_4 : Int) (a1_5 : Int) : Option (Int × Int × Int × Int × Int × Int) := (alu_Shift.f a0 a1_0 a1_4).bind fun bt111 => (some (bt111.1, a1_1, a1_2, a1_3, bt111.2, a1_5))
set_option maxHeartbeats 8000000 in
set_option maxRecDepth 100000 in
theorem alu_Acc.calls (a0 : Int) (a1_0 : Int) (a1_1 : Int) (a1_2 : Int) (a1_3 : Int) (a1_4 : Int) (a1_5 : Int) (r1 : Int) (r2 : Int) (r3 : Int) (r4 : Int) (r5 : Int) (r6 : Int) (w : World) (h : alu_Acc.f a0 a1_0 a1_1 a1_2 a1_3 a1_4 a1_5 = some (r1, r2, r3, r4, r5, r6)) :
    Calls Try.prog 20 #[.int .i64 a0, .agg #[.int .u8 a1_0, .int .u8 a1_1, .int .u8 a1_2, .int .u8 a1_3, .int .u8 a1_4, .int .u8 a1_5]] w fun e w' => e = .returned (.agg #[.int .u8 r1, .int .u8 r2, .int .u8 r3, .int .u8 r4, .int .u8 r5, .int .u8 r6]) ∧ Below w.heap.size w w' := by
  obtain ⟨⟨x, y⟩, A, H⟩ := Option.bind_eq_some_iff.mp h
  clear h
  simp only [Option.some.injEq, Prod.mk.injEq] at H
  obtain ⟨rfl, rfl, rfl, rfl, rfl, rfl⟩ := H
  have H := Aside0.mk A
  clear A
  go_enter Try.func20, Try.ntmps20
  go_wp2_with (first | ((with_reducible refine gate_callee (f := 14) rfl ?_); refine goesL_ (some 11) rfl rfl Try.func14 (by kernel_rfl) rfl #[.int .i64 a0, .int .u8 a1_0, .int .u8 a1_4] rfl (by (try simp only [List.map_toArray, List.map_cons, List.map_nil]); first | done | rfl) ?_; (with_reducible refine (alu_Shift.calls a0 a1_0 a1_4 _ _ _ H.out).mono ?_); rintro e w' ⟨rfl, ⟨nd, rfl⟩⟩; refine ⟨_, rfl, ?_⟩))
  refine Own.ret_cell 6 (w.heap.size + 1) rfl rfl rfl Try.underlying35 rfl (by kernel_rfl) ?_
  repeat (first | with_reducible refine Own.e_set ?_ | (with_reducible refine Own.e_far (by simp) ?_) | with_reducible refine Own.e_drewN ?_ | with_reducible refine Own.e_new (by simp) ?_ | with_reducible refine Own.e_alloc ?_)
  refine ⟨rfl, rfl, ?_⟩
  repeat (first | with_reducible exact Below.refl _ _ | (with_reducible refine below_alloc ?_ _) | (with_reducible refine pw_below_drewN ?_ _) | (with_reducible refine below_set ?_ (by simp)))

/-! ### tandemref3_put: function 38 -/
def tandemref3_put.f (a0 : Int) (a1 : Int) (a2 : Bool) : Option (Int) := if a2 = true then (some (Go.bits .or .u8 a0 a1)) else (some (Go.bits .andNot .u8 a0 a1))
set_option maxHeartbeats 8000000 in
set_option maxRecDepth 100000 in
theorem tandemref3_put.calls (a0 : Int) (a1 : Int) (a2 : Bool) (r : Int) (w : World) (h : tandemref3_put.f a0 a1 a2 = some r) :
    Calls Try.prog 38 #[.int .u8 a0, .int .u8 a1, .bool a2] w fun e w' => e = .returned (.int .u8 r) ∧ Drawn0 w w' := by
  have H : (if a2 = true then (some (Go.bits .or .u8 a0 a1)) else (some (Go.bits .andNot .u8 a0 a1))) = some r := h
  clear h
  by_cases c4 : a2 = true
  · subst c4
    have H1 : (some (Go.bits .or .u8 a0 a1)) = some r := by rw [if_pos rfl] at H; exact H
    clear H
    have H := H1
    clear H1
    obtain rfl := Option.some.inj H
    go_enter Try.func38, Try.ntmps38
    go_wp2
    go_ret
    exact ⟨by first | rfl | (simp; done) | (simp [*]; done), by repeat (first | exact Drawn0.refl _ | apply Drawn0.step)⟩
  · replace c4 := Bool.eq_false_iff.mpr c4
    subst c4
    have H1 : (some (Go.bits .andNot .u8 a0 a1)) = some r := by rw [if_neg (show ¬ (false = true) by decide)] at H; exact H
    clear H
    have H := H1
    clear H1
    obtain rfl := Option.some.inj H
    go_enter Try.func38, Try.ntmps38
    go_wp2
    go_ret
    exact ⟨by first | rfl | (simp; done) | (simp [*]; done), by repeat (first | exact Drawn0.refl _ | apply Drawn0.step)⟩

/-! ### tandemref3_Nz: function 26 -/
def tandemref3_Nz.f (a0 : Int) (a1 : Int) : Option (Int) := (tandemref3_put.f a1 128 (decide (a0 ≥ 128))).bind fun t113 => ((tandemref3_put.f t113 2 (a0 == 0)).bind fun t114 => (some t114))
set_option maxHeartbeats 8000000 in
set_option maxRecDepth 100000 in
theorem tandemref3_Nz.calls (a0 : Int) (a1 : Int) (r : Int) (w : World) (h : tandemref3_Nz.f a0 a1 = some r) :
    Calls Try.prog 26 #[.int .u8 a0, .int .u8 a1] w fun e w' => e = .returned (.int .u8 r) ∧ Drawn0 w w' := by
  have H : ((tandemref3_put.f a1 128 (decide (a0 ≥ 128))).bind fun t113 => ((tandemref3_put.f t113 2 (a0 == 0)).bind fun t114 => (some t114))) = some r := h
  clear h
  replace H := Option.bind_eq_some_iff.mp H
  obtain ⟨t113, A30, H⟩ := H
  replace H : ((tandemref3_put.f t113 2 (a0 == 0)).bind fun t114 => (some t114)) = some r := H
  have A3 := Aside0.mk A30
  clear A30
  replace H := Option.bind_eq_some_iff.mp H
  obtain ⟨t114, A40, H⟩ := H
  replace H : (some t114) = some r := H
  have A4 := Aside0.mk A40
  clear A40
  obtain rfl := Option.some.inj H
  go_enter Try.func26, Try.ntmps26
  go_wp2_with (first | ((with_reducible refine gate_callee (f := 38) rfl ?_); refine goesL_ (some 8) rfl rfl Try.func38 (by kernel_rfl) rfl #[.int .u8 a1, .int .u8 128, .bool (decide (a0 ≥ 128))] rfl (by (try simp only [List.map_toArray, List.map_cons, List.map_nil]); first | done | rfl | (simp only [List.length_drop, List.length_take]; rfl)) ?_; (with_reducible refine (tandemref3_put.calls a1 128 (decide (a0 ≥ 128)) t113 _ A3.out).mono ?_); rintro e w' ⟨rfl, ⟨nd, rfl⟩⟩; refine ⟨_, rfl, ?_⟩) | ((with_reducible refine gate_callee (f := 38) rfl ?_); refine goesL_ (some 12) rfl rfl Try.func38 (by kernel_rfl) rfl #[.int .u8 t113, .int .u8 2, .bool (a0 == 0)] rfl (by (try simp only [List.map_toArray, List.map_cons, List.map_nil]); first | done | rfl | (simp only [List.length_drop, List.length_take]; rfl)) ?_; (with_reducible refine (tandemref3_put.calls t113 2 (a0 == 0) t114 _ A4.out).mono ?_); rintro e w' ⟨rfl, ⟨nd, rfl⟩⟩; refine ⟨_, rfl, ?_⟩))
  go_ret
  exact ⟨by first | rfl | (simp; done) | (simp [*]; done), by repeat (first | exact Drawn0.refl _ | apply Drawn0.step)⟩

/-! ### tandemref3_rest: function 39 -/
def tandemref3_rest.f (a0 : Int) (a1 : Int) : Option (Int) := if a1 = 0 then (none) else (if (Int.tmod a0 a1) < 0 then (some (wrap64 ((Int.tmod a0 a1) + a1))) else (some (Int.tmod a0 a1)))
set_option maxHeartbeats 8000000 in
set_option maxRecDepth 100000 in
theorem tandemref3_rest.calls (a0 : Int) (a1 : Int) (r : Int) (w : World) (h : tandemref3_rest.f a0 a1 = some r) :
    Calls Try.prog 39 #[.int .i64 a0, .int .i64 a1] w fun e w' => e = .returned (.int .i64 r) ∧ Drawn0 w w' := by
  have H : (if a1 = 0 then (none) else (if (Int.tmod a0 a1) < 0 then (some (wrap64 ((Int.tmod a0 a1) + a1))) else (some (Int.tmod a0 a1)))) = some r := h
  clear h
  by_cases c3 : a1 = 0
  · rw [if_pos c3] at H
    exact absurd H (by simp)
  · rw [if_neg c3] at H
    have c3b0 : (a1 == 0) = false := beq_eq_false_iff_ne.mpr c3
    have c3b1 : (a1 != 0) = true := bne_iff_ne.mpr c3
    by_cases c4 : (Int.tmod a0 a1) < 0
    · rw [if_pos c4] at H
      have c4b0 : decide ((Int.tmod a0 a1) < 0) = true := decide_eq_true c4
      clear c4
      obtain rfl := Option.some.inj H
      go_enter Try.func39, Try.ntmps39
      go_wp2
      go_ret
      exact ⟨by first | rfl | (simp; done) | (simp [*]; done), by repeat (first | exact Drawn0.refl _ | apply Drawn0.step)⟩
    · rw [if_neg c4] at H
      have c4b0 : decide ((Int.tmod a0 a1) < 0) = false := decide_eq_false c4
      clear c4
      obtain rfl := Option.some.inj H
      go_enter Try.func39, Try.ntmps39
      go_wp2
      go_ret
      exact ⟨by first | rfl | (simp; done) | (simp [*]; done), by repeat (first | exact Drawn0.refl _ | apply Drawn0.step)⟩

/-! ### tandemref3_carry: function 40 -/
def tandemref3_carry.f (a0 : Int) : Option (Int) := some (wrap64 (Go.bits .and .u8 a0 1))
set_option maxHeartbeats 8000000 in
set_option maxRecDepth 100000 in
theorem tandemref3_carry.calls (a0 : Int) (r : Int) (w : World) (h : tandemref3_carry.f a0 = some r) :
    Calls Try.prog 40 #[.int .u8 a0] w fun e w' => e = .returned (.int .i64 r) ∧ Drawn0 w w' := by
  have H : (some (wrap64 (Go.bits .and .u8 a0 1))) = some r := h
  clear h
  obtain rfl := Option.some.inj H
  go_enter Try.func40, Try.ntmps40
  go_wp2
  go_ret
  exact ⟨by first | rfl | (simp; done) | (simp [*]; done), by repeat (first | exact Drawn0.refl _ | apply Drawn0.step)⟩

/-! ### tandemref3_Shift: function 28 -/
def tandemref3_Shift.f (a0 : Int) (a1 : Int) (a2 : Int) : Option (Int × Int) := if a0 = 2 then ((tandemref3_rest.f (wrap64 (2 * (wrap64 (a1)))) 256).bind fun t115 => ((tandemref3_put.f a2 1 (decide ((wrap64 (a1)) ≥ 128))).bind fun t116 => ((tandemref3_Nz.f ((t115) % 256) t116).bind fun t117 => (some ((t115) % 256, t117))))) else (if a0 = 39 then ((tandemref3_carry.f a2).bind fun t118 => ((tandemref3_rest.f (wrap64 ((wrap64 (2 * (wrap64 (a1)))) + t118)) 256).bind fun t119 => ((tandemref3_put.f a2 1 (decide ((wrap64 (a1)) ≥ 128))).bind fun t120 => ((tandemref3_Nz.f ((t119) % 256) t120).bind fun t121 => (some ((t119) % 256, t121)))))) else (if a0 = 32 then ((tandemref3_rest.f (wrap64 (Int.tdiv (wrap64 (a1)) 2)) 256).bind fun t122 => ((tandemref3_put.f a2 1 ((Int.tmod (wrap64 (a1)) 2) == 1)).bind fun t123 => ((tandemref3_Nz.f ((t122) % 256) t123).bind fun t124 => (some ((t122) % 256, t124))))) else (if a0 = 40 then ((tandemref3_carry.f a2).bind fun t125 => ((tandemref3_rest.f (wrap64 ((wrap64 (Int.tdiv (wrap64 (a1)) 2)) + (wrap64 (128 * t125)))) 256).bind fun t126 => ((tandemref3_put.f a2 1 ((Int.tmod (wrap64 (a1)) 2) == 1)).bind fun t127 => ((tandemref3_Nz.f ((t126) % 256) t127).bind fun t128 => (some ((t126) % 256, t128)))))) else (some (a1, a2)))))
set_option maxHeartbeats 8000000 in
set_option maxRecDepth 100000 in
theorem tandemref3_Shift.calls (a0 : Int) (a1 : Int) (a2 : Int) (r1 : Int) (r2 : Int) (w : World) (h : tandemref3_Shift.f a0 a1 a2 = some (r1, r2)) :
    Calls Try.prog 28 #[.int .i64 a0, .int .u8 a1, .int .u8 a2] w fun e w' => e = .returned (.tuple #[.int .u8 r1, .int .u8 r2]) ∧ Drawn0 w w' := by
  have H : (if a0 = 2 then ((tandemref3_rest.f (wrap64 (2 * (wrap64 (a1)))) 256).bind fun t115 => ((tandemref3_put.f a2 1 (decide ((wrap64 (a1)) ≥ 128))).bind fun t116 => ((tandemref3_Nz.f ((t115) % 256) t116).bind fun t117 => (some ((t115) % 256, t117))))) else (if a0 = 39 then ((tandemref3_carry.f a2).bind fun t118 => ((tandemref3_rest.f (wrap64 ((wrap64 (2 * (wrap64 (a1)))) + t118)) 256).bind fun t119 => ((tandemref3_put.f a2 1 (decide ((wrap64 (a1)) ≥ 128))).bind fun t120 => ((tandemref3_Nz.f ((t119) % 256) t120).bind fun t121 => (some ((t119) % 256, t121)))))) else (if a0 = 32 then ((tandemref3_rest.f (wrap64 (Int.tdiv (wrap64 (a1)) 2)) 256).bind fun t122 => ((tandemref3_put.f a2 1 ((Int.tmod (wrap64 (a1)) 2) == 1)).bind fun t123 => ((tandemref3_Nz.f ((t122) % 256) t123).bind fun t124 => (some ((t122) % 256, t124))))) else (if a0 = 40 then ((tandemref3_carry.f a2).bind fun t125 => ((tandemref3_rest.f (wrap64 ((wrap64 (Int.tdiv (wrap64 (a1)) 2)) + (wrap64 (128 * t125)))) 256).bind fun t126 => ((tandemref3_put.f a2 1 ((Int.tmod (wrap64 (a1)) 2) == 1)).bind fun t127 => ((tandemref3_Nz.f ((t126) % 256) t127).bind fun t128 => (some ((t126) % 256, t128)))))) else (some (a1, a2)))))) = some (r1, r2) := h
  clear h
  by_cases c4 : a0 = 2
  · rw [if_pos c4] at H
    have c4b0 : (a0 == 2) = true := beq_iff_eq.mpr c4
    have c4b1 : (a0 != 2) = false := bne_eq_false_iff_eq.mpr c4
    clear c4
    replace H := Option.bind_eq_some_iff.mp H
    obtain ⟨t115, A50, H⟩ := H
    replace H : ((tandemref3_put.f a2 1 (decide ((wrap64 (a1)) ≥ 128))).bind fun t116 => ((tandemref3_Nz.f ((t115) % 256) t116).bind fun t117 => (some ((t115) % 256, t117)))) = some (r1, r2) := H
    have A5 := Aside0.mk A50
    clear A50
    replace H := Option.bind_eq_some_iff.mp H
    obtain ⟨t116, A60, H⟩ := H
    replace H : ((tandemref3_Nz.f ((t115) % 256) t116).bind fun t117 => (some ((t115) % 256, t117))) = some (r1, r2) := H
    have A6 := Aside0.mk A60
    clear A60
    replace H := Option.bind_eq_some_iff.mp H
    obtain ⟨t117, A70, H⟩ := H
    replace H : (some ((t115) % 256, t117)) = some (r1, r2) := H
    have A7 := Aside0.mk A70
    clear A70
    simp only [Option.some.injEq, Prod.mk.injEq] at H
    obtain ⟨rfl, rfl⟩ := H
    go_enter Try.func28, Try.ntmps28
    go_wp2_with (first | ((with_reducible refine gate_callee (f := 39) rfl ?_); refine goesL_ (some 50) rfl rfl Try.func39 (by kernel_rfl) rfl #[.int .i64 (wrap64 (2 * (wrap64 (a1)))), .int .i64 256] rfl (by (try simp only [List.map_toArray, List.map_cons, List.map_nil]); first | done | rfl | (simp only [List.length_drop, List.length_take]; rfl)) ?_; (with_reducible refine (tandemref3_rest.calls (wrap64 (2 * (wrap64 (a1)))) 256 t115 _ A5.out).mono ?_); rintro e w' ⟨rfl, ⟨nd, rfl⟩⟩; refine ⟨_, rfl, ?_⟩) | ((with_reducible refine gate_callee (f := 38) rfl ?_); refine goesL_ (some 54) rfl rfl Try.func38 (by kernel_rfl) rfl #[.int .u8 a2, .int .u8 1, .bool (decide ((wrap64 (a1)) ≥ 128))] rfl (by (try simp only [List.map_toArray, List.map_cons, List.map_nil]); first | done | rfl | (simp only [List.length_drop, List.length_take]; rfl)) ?_; (with_reducible refine (tandemref3_put.calls a2 1 (decide ((wrap64 (a1)) ≥ 128)) t116 _ A6.out).mono ?_); rintro e w' ⟨rfl, ⟨nd, rfl⟩⟩; refine ⟨_, rfl, ?_⟩) | ((with_reducible refine gate_callee (f := 26) rfl ?_); refine goesL_ (some 58) rfl rfl Try.func26 (by kernel_rfl) rfl #[.int .u8 ((t115) % 256), .int .u8 t116] rfl (by (try simp only [List.map_toArray, List.map_cons, List.map_nil]); first | done | rfl | (simp only [List.length_drop, List.length_take]; rfl)) ?_; (with_reducible refine (tandemref3_Nz.calls ((t115) % 256) t116 t117 _ A7.out).mono ?_); rintro e w' ⟨rfl, ⟨nd, rfl⟩⟩; refine ⟨_, rfl, ?_⟩))
    go_ret2
    exact ⟨by first | rfl | (simp; done) | (simp [*]; done), by repeat (first | exact Drawn0.refl _ | apply Drawn0.step)⟩
  · rw [if_neg c4] at H
    have c4b0 : (a0 == 2) = false := beq_eq_false_iff_ne.mpr c4
    have c4b1 : (a0 != 2) = true := bne_iff_ne.mpr c4
    by_cases c8 : a0 = 39
    · rw [if_pos c8] at H
      have c8b0 : (a0 == 39) = true := beq_iff_eq.mpr c8
      have c8b1 : (a0 != 39) = false := bne_eq_false_iff_eq.mpr c8
      clear c8
      replace H := Option.bind_eq_some_iff.mp H
      obtain ⟨t118, A90, H⟩ := H
      replace H : ((tandemref3_rest.f (wrap64 ((wrap64 (2 * (wrap64 (a1)))) + t118)) 256).bind fun t119 => ((tandemref3_put.f a2 1 (decide ((wrap64 (a1)) ≥ 128))).bind fun t120 => ((tandemref3_Nz.f ((t119) % 256) t120).bind fun t121 => (some ((t119) % 256, t121))))) = some (r1, r2) := H
      have A9 := Aside0.mk A90
      clear A90
      replace H := Option.bind_eq_some_iff.mp H
      obtain ⟨t119, A100, H⟩ := H
      replace H : ((tandemref3_put.f a2 1 (decide ((wrap64 (a1)) ≥ 128))).bind fun t120 => ((tandemref3_Nz.f ((t119) % 256) t120).bind fun t121 => (some ((t119) % 256, t121)))) = some (r1, r2) := H
      have A10 := Aside0.mk A100
      clear A100
      replace H := Option.bind_eq_some_iff.mp H
      obtain ⟨t120, A110, H⟩ := H
      replace H : ((tandemref3_Nz.f ((t119) % 256) t120).bind fun t121 => (some ((t119) % 256, t121))) = some (r1, r2) := H
      have A11 := Aside0.mk A110
      clear A110
      replace H := Option.bind_eq_some_iff.mp H
      obtain ⟨t121, A120, H⟩ := H
      replace H : (some ((t119) % 256, t121)) = some (r1, r2) := H
      have A12 := Aside0.mk A120
      clear A120
      simp only [Option.some.injEq, Prod.mk.injEq] at H
      obtain ⟨rfl, rfl⟩ := H
      go_enter Try.func28, Try.ntmps28
      go_wp2_with (first | ((with_reducible refine gate_callee (f := 40) rfl ?_); refine goesL_ (some 29) rfl rfl Try.func40 (by kernel_rfl) rfl #[.int .u8 a2] rfl (by (try simp only [List.map_toArray, List.map_cons, List.map_nil]); first | done | rfl | (simp only [List.length_drop, List.length_take]; rfl)) ?_; (with_reducible refine (tandemref3_carry.calls a2 t118 _ A9.out).mono ?_); rintro e w' ⟨rfl, ⟨nd, rfl⟩⟩; refine ⟨_, rfl, ?_⟩) | ((with_reducible refine gate_callee (f := 39) rfl ?_); refine goesL_ (some 50) rfl rfl Try.func39 (by kernel_rfl) rfl #[.int .i64 (wrap64 ((wrap64 (2 * (wrap64 (a1)))) + t118)), .int .i64 256] rfl (by (try simp only [List.map_toArray, List.map_cons, List.map_nil]); first | done | rfl | (simp only [List.length_drop, List.length_take]; rfl)) ?_; (with_reducible refine (tandemref3_rest.calls (wrap64 ((wrap64 (2 * (wrap64 (a1)))) + t118)) 256 t119 _ A10.out).mono ?_); rintro e w' ⟨rfl, ⟨nd, rfl⟩⟩; refine ⟨_, rfl, ?_⟩) | ((with_reducible refine gate_callee (f := 38) rfl ?_); refine goesL_ (some 54) rfl rfl Try.func38 (by kernel_rfl) rfl #[.int .u8 a2, .int .u8 1, .bool (decide ((wrap64 (a1)) ≥ 128))] rfl (by (try simp only [List.map_toArray, List.map_cons, List.map_nil]); first | done | rfl | (simp only [List.length_drop, List.length_take]; rfl)) ?_; (with_reducible refine (tandemref3_put.calls a2 1 (decide ((wrap64 (a1)) ≥ 128)) t120 _ A11.out).mono ?_); rintro e w' ⟨rfl, ⟨nd, rfl⟩⟩; refine ⟨_, rfl, ?_⟩) | ((with_reducible refine gate_callee (f := 26) rfl ?_); refine goesL_ (some 58) rfl rfl Try.func26 (by kernel_rfl) rfl #[.int .u8 ((t119) % 256), .int .u8 t120] rfl (by (try simp only [List.map_toArray, List.map_cons, List.map_nil]); first | done | rfl | (simp only [List.length_drop, List.length_take]; rfl)) ?_; (with_reducible refine (tandemref3_Nz.calls ((t119) % 256) t120 t121 _ A12.out).mono ?_); rintro e w' ⟨rfl, ⟨nd, rfl⟩⟩; refine ⟨_, rfl, ?_⟩))
      go_ret2
      exact ⟨by first | rfl | (simp; done) | (simp [*]; done), by repeat (first | exact Drawn0.refl _ | apply Drawn0.step)⟩
    · rw [if_neg c8] at H
      have c8b0 : (a0 == 39) = false := beq_eq_false_iff_ne.mpr c8
      have c8b1 : (a0 != 39) = true := bne_iff_ne.mpr c8
      by_cases c13 : a0 = 32
      · rw [if_pos c13] at H
        have c13b0 : (a0 == 32) = true := beq_iff_eq.mpr c13
        have c13b1 : (a0 != 32) = false := bne_eq_false_iff_eq.mpr c13
        clear c13
        replace H := Option.bind_eq_some_iff.mp H
        obtain ⟨t122, A140, H⟩ := H
        replace H : ((tandemref3_put.f a2 1 ((Int.tmod (wrap64 (a1)) 2) == 1)).bind fun t123 => ((tandemref3_Nz.f ((t122) % 256) t123).bind fun t124 => (some ((t122) % 256, t124)))) = some (r1, r2) := H
        have A14 := Aside0.mk A140
        clear A140
        replace H := Option.bind_eq_some_iff.mp H
        obtain ⟨t123, A150, H⟩ := H
        replace H : ((tandemref3_Nz.f ((t122) % 256) t123).bind fun t124 => (some ((t122) % 256, t124))) = some (r1, r2) := H
        have A15 := Aside0.mk A150
        clear A150
        replace H := Option.bind_eq_some_iff.mp H
        obtain ⟨t124, A160, H⟩ := H
        replace H : (some ((t122) % 256, t124)) = some (r1, r2) := H
        have A16 := Aside0.mk A160
        clear A160
        simp only [Option.some.injEq, Prod.mk.injEq] at H
        obtain ⟨rfl, rfl⟩ := H
        go_enter Try.func28, Try.ntmps28
        go_wp2_with (first | ((with_reducible refine gate_callee (f := 39) rfl ?_); refine goesL_ (some 50) rfl rfl Try.func39 (by kernel_rfl) rfl #[.int .i64 (wrap64 (Int.tdiv (wrap64 (a1)) 2)), .int .i64 256] rfl (by (try simp only [List.map_toArray, List.map_cons, List.map_nil]); first | done | rfl | (simp only [List.length_drop, List.length_take]; rfl)) ?_; (with_reducible refine (tandemref3_rest.calls (wrap64 (Int.tdiv (wrap64 (a1)) 2)) 256 t122 _ A14.out).mono ?_); rintro e w' ⟨rfl, ⟨nd, rfl⟩⟩; refine ⟨_, rfl, ?_⟩) | ((with_reducible refine gate_callee (f := 38) rfl ?_); refine goesL_ (some 54) rfl rfl Try.func38 (by kernel_rfl) rfl #[.int .u8 a2, .int .u8 1, .bool ((Int.tmod (wrap64 (a1)) 2) == 1)] rfl (by (try simp only [List.map_toArray, List.map_cons, List.map_nil]); first | done | rfl | (simp only [List.length_drop, List.length_take]; rfl)) ?_; (with_reducible refine (tandemref3_put.calls a2 1 ((Int.tmod (wrap64 (a1)) 2) == 1) t123 _ A15.out).mono ?_); rintro e w' ⟨rfl, ⟨nd, rfl⟩⟩; refine ⟨_, rfl, ?_⟩) | ((with_reducible refine gate_callee (f := 26) rfl ?_); refine goesL_ (some 58) rfl rfl Try.func26 (by kernel_rfl) rfl #[.int .u8 ((t122) % 256), .int .u8 t123] rfl (by (try simp only [List.map_toArray, List.map_cons, List.map_nil]); first | done | rfl | (simp only [List.length_drop, List.length_take]; rfl)) ?_; (with_reducible refine (tandemref3_Nz.calls ((t122) % 256) t123 t124 _ A16.out).mono ?_); rintro e w' ⟨rfl, ⟨nd, rfl⟩⟩; refine ⟨_, rfl, ?_⟩))
        go_ret2
        exact ⟨by first | rfl | (simp; done) | (simp [*]; done), by repeat (first | exact Drawn0.refl _ | apply Drawn0.step)⟩
      · rw [if_neg c13] at H
        have c13b0 : (a0 == 32) = false := beq_eq_false_iff_ne.mpr c13
        have c13b1 : (a0 != 32) = true := bne_iff_ne.mpr c13
        by_cases c17 : a0 = 40
        · rw [if_pos c17] at H
          have c17b0 : (a0 == 40) = true := beq_iff_eq.mpr c17
          have c17b1 : (a0 != 40) = false := bne_eq_false_iff_eq.mpr c17
          clear c17
          replace H := Option.bind_eq_some_iff.mp H
          obtain ⟨t125, A180, H⟩ := H
          replace H : ((tandemref3_rest.f (wrap64 ((wrap64 (Int.tdiv (wrap64 (a1)) 2)) + (wrap64 (128 * t125)))) 256).bind fun t126 => ((tandemref3_put.f a2 1 ((Int.tmod (wrap64 (a1)) 2) == 1)).bind fun t127 => ((tandemref3_Nz.f ((t126) % 256) t127).bind fun t128 => (some ((t126) % 256, t128))))) = some (r1, r2) := H
          have A18 := Aside0.mk A180
          clear A180
          replace H := Option.bind_eq_some_iff.mp H
          obtain ⟨t126, A190, H⟩ := H
          replace H : ((tandemref3_put.f a2 1 ((Int.tmod (wrap64 (a1)) 2) == 1)).bind fun t127 => ((tandemref3_Nz.f ((t126) % 256) t127).bind fun t128 => (some ((t126) % 256, t128)))) = some (r1, r2) := H
          have A19 := Aside0.mk A190
          clear A190
          replace H := Option.bind_eq_some_iff.mp H
          obtain ⟨t127, A200, H⟩ := H
          replace H : ((tandemref3_Nz.f ((t126) % 256) t127).bind fun t128 => (some ((t126) % 256, t128))) = some (r1, r2) := H
          have A20 := Aside0.mk A200
          clear A200
          replace H := Option.bind_eq_some_iff.mp H
          obtain ⟨t128, A210, H⟩ := H
          replace H : (some ((t126) % 256, t128)) = some (r1, r2) := H
          have A21 := Aside0.mk A210
          clear A210
          simp only [Option.some.injEq, Prod.mk.injEq] at H
          obtain ⟨rfl, rfl⟩ := H
          go_enter Try.func28, Try.ntmps28
          go_wp2_with (first | ((with_reducible refine gate_callee (f := 40) rfl ?_); refine goesL_ (some 46) rfl rfl Try.func40 (by kernel_rfl) rfl #[.int .u8 a2] rfl (by (try simp only [List.map_toArray, List.map_cons, List.map_nil]); first | done | rfl | (simp only [List.length_drop, List.length_take]; rfl)) ?_; (with_reducible refine (tandemref3_carry.calls a2 t125 _ A18.out).mono ?_); rintro e w' ⟨rfl, ⟨nd, rfl⟩⟩; refine ⟨_, rfl, ?_⟩) | ((with_reducible refine gate_callee (f := 39) rfl ?_); refine goesL_ (some 50) rfl rfl Try.func39 (by kernel_rfl) rfl #[.int .i64 (wrap64 ((wrap64 (Int.tdiv (wrap64 (a1)) 2)) + (wrap64 (128 * t125)))), .int .i64 256] rfl (by (try simp only [List.map_toArray, List.map_cons, List.map_nil]); first | done | rfl | (simp only [List.length_drop, List.length_take]; rfl)) ?_; (with_reducible refine (tandemref3_rest.calls (wrap64 ((wrap64 (Int.tdiv (wrap64 (a1)) 2)) + (wrap64 (128 * t125)))) 256 t126 _ A19.out).mono ?_); rintro e w' ⟨rfl, ⟨nd, rfl⟩⟩; refine ⟨_, rfl, ?_⟩) | ((with_reducible refine gate_callee (f := 38) rfl ?_); refine goesL_ (some 54) rfl rfl Try.func38 (by kernel_rfl) rfl #[.int .u8 a2, .int .u8 1, .bool ((Int.tmod (wrap64 (a1)) 2) == 1)] rfl (by (try simp only [List.map_toArray, List.map_cons, List.map_nil]); first | done | rfl | (simp only [List.length_drop, List.length_take]; rfl)) ?_; (with_reducible refine (tandemref3_put.calls a2 1 ((Int.tmod (wrap64 (a1)) 2) == 1) t127 _ A20.out).mono ?_); rintro e w' ⟨rfl, ⟨nd, rfl⟩⟩; refine ⟨_, rfl, ?_⟩) | ((with_reducible refine gate_callee (f := 26) rfl ?_); refine goesL_ (some 58) rfl rfl Try.func26 (by kernel_rfl) rfl #[.int .u8 ((t126) % 256), .int .u8 t127] rfl (by (try simp only [List.map_toArray, List.map_cons, List.map_nil]); first | done | rfl | (simp only [List.length_drop, List.length_take]; rfl)) ?_; (with_reducible refine (tandemref3_Nz.calls ((t126) % 256) t127 t128 _ A21.out).mono ?_); rintro e w' ⟨rfl, ⟨nd, rfl⟩⟩; refine ⟨_, rfl, ?_⟩))
          go_ret2
          exact ⟨by first | rfl | (simp; done) | (simp [*]; done), by repeat (first | exact Drawn0.refl _ | apply Drawn0.step)⟩
        · rw [if_neg c17] at H
          have c17b0 : (a0 == 40) = false := beq_eq_false_iff_ne.mpr c17
          have c17b1 : (a0 != 40) = true := bne_iff_ne.mpr c17
          simp only [Option.some.injEq, Prod.mk.injEq] at H
          obtain ⟨rfl, rfl⟩ := H
          go_enter Try.func28, Try.ntmps28
          go_wp2
          go_ret2
          exact ⟨by first | rfl | (simp; done) | (simp [*]; done), by repeat (first | exact Drawn0.refl _ | apply Drawn0.step)⟩

/-! ### tandemref3_Acc: function 21 -/
def tandemref3_Acc.f (a0 : Int) (a1_0 : Int) (a1_1 : Int) (a1_2 : Int) (a1_3 : Int) (a1_4 : Int) (a1_5 : Int) : Option (Int × Int × Int × Int × Int × Int) := (tandemref3_Shift.f a0 a1_0 a1_4).bind fun bt131 => (some (bt131.1, a1_1, a1_2, a1_3, bt131.2, a1_5))
set_option maxHeartbeats 8000000 in
set_option maxRecDepth 100000 in
theorem tandemref3_Acc.calls (a0 : Int) (a1_0 : Int) (a1_1 : Int) (a1_2 : Int) (a1_3 : Int) (a1_4 : Int) (a1_5 : Int) (r1 : Int) (r2 : Int) (r3 : Int) (r4 : Int) (r5 : Int) (r6 : Int) (w : World) (h : tandemref3_Acc.f a0 a1_0 a1_1 a1_2 a1_3 a1_4 a1_5 = some (r1, r2, r3, r4, r5, r6)) :
    Calls Try.prog 21 #[.int .i64 a0, .agg #[.int .u8 a1_0, .int .u8 a1_1, .int .u8 a1_2, .int .u8 a1_3, .int .u8 a1_4, .int .u8 a1_5]] w fun e w' => e = .returned (.agg #[.int .u8 r1, .int .u8 r2, .int .u8 r3, .int .u8 r4, .int .u8 r5, .int .u8 r6]) ∧ Below w.heap.size w w' := by
  obtain ⟨⟨x, y⟩, A, H⟩ := Option.bind_eq_some_iff.mp h
  clear h
  simp only [Option.some.injEq, Prod.mk.injEq] at H
  obtain ⟨rfl, rfl, rfl, rfl, rfl, rfl⟩ := H
  have H := Aside0.mk A
  clear A
  go_enter Try.func21, Try.ntmps21
  go_wp2_with (first | ((with_reducible refine gate_callee (f := 28) rfl ?_); refine goesL_ (some 11) rfl rfl Try.func28 (by kernel_rfl) rfl #[.int .i64 a0, .int .u8 a1_0, .int .u8 a1_4] rfl (by (try simp only [List.map_toArray, List.map_cons, List.map_nil]); first | done | rfl) ?_; (with_reducible refine (tandemref3_Shift.calls a0 a1_0 a1_4 _ _ _ H.out).mono ?_); rintro e w' ⟨rfl, ⟨nd, rfl⟩⟩; refine ⟨_, rfl, ?_⟩))
  refine Own.ret_cell 6 (w.heap.size + 1) rfl rfl rfl Try.underlying35 rfl (by kernel_rfl) ?_
  repeat (first | with_reducible refine Own.e_set ?_ | (with_reducible refine Own.e_far (by simp) ?_) | with_reducible refine Own.e_drewN ?_ | with_reducible refine Own.e_new (by simp) ?_ | with_reducible refine Own.e_alloc ?_)
  refine ⟨rfl, rfl, ?_⟩
  repeat (first | with_reducible exact Below.refl _ _ | (with_reducible refine below_alloc ?_ _) | (with_reducible refine pw_below_drewN ?_ _) | (with_reducible refine below_set ?_ (by simp)))

/-! ### tandemlaw3_AluAccs: function 6 -/
def tandemlaw3_AluAccs.f (a0 : Int) (a1_0 : Int) (a1_1 : Int) (a1_2 : Int) (a1_3 : Int) (a1_4 : Int) (a1_5 : Int) : Option (Bool) := (alu_Acc.f a0 a1_0 a1_1 a1_2 a1_3 a1_4 a1_5).bind fun bt134 => ((tandemref3_Acc.f a0 a1_0 a1_1 a1_2 a1_3 a1_4 a1_5).bind fun bt140 => (some (bt134.1 == bt140.1 && (bt134.2.1 == bt140.2.1 && (bt134.2.2.1 == bt140.2.2.1 && (bt134.2.2.2.1 == bt140.2.2.2.1 && (bt134.2.2.2.2.1 == bt140.2.2.2.2.1 && (bt134.2.2.2.2.2 == bt140.2.2.2.2.2))))))))
def tandemlaw3_AluAccs.T1 : Bool × List (List Nat × List Nat) := (true, [([], []), ([], []), ([0, 1], [0, 1]), ([], []), ([], []), ([3, 4, 2], [3, 4]), ([2, 5], [2, 5]), ([6, 5, 0, 1, 2, 3, 4, 5, 6], [6])])
def tandemlaw3_AluAccs.B1 : List Nat := [0, 0, 3, 0, 0, 31, 63, 127]
theorem tandemlaw3_AluAccs.tab1 : rtab .any (opsOf Try.f6 1) = tandemlaw3_AluAccs.T1 := by kernel_rfl
theorem tandemlaw3_AluAccs.bits1 : waitsOk tandemlaw3_AluAccs.T1.2 tandemlaw3_AluAccs.B1 = true := by kernel_rfl
set_option maxHeartbeats 8000000 in
set_option maxRecDepth 100000 in
theorem tandemlaw3_AluAccs.calls (a0 : Int) (a1_0 : Int) (a1_1 : Int) (a1_2 : Int) (a1_3 : Int) (a1_4 : Int) (a1_5 : Int) (r : Bool) (w : World) (h : tandemlaw3_AluAccs.f a0 a1_0 a1_1 a1_2 a1_3 a1_4 a1_5 = some r) :
    Calls Try.prog 6 #[.int .i64 a0, .agg #[.int .u8 a1_0, .int .u8 a1_1, .int .u8 a1_2, .int .u8 a1_3, .int .u8 a1_4, .int .u8 a1_5]] w fun e w' => e = .returned (.bool r) ∧ Below w.heap.size w w' := by
  have hu35 := Try.underlying35
  have HB := Aside0.mk (Below.refl w.heap.size w)
  have H : ((alu_Acc.f a0 a1_0 a1_1 a1_2 a1_3 a1_4 a1_5).bind fun bt134 => ((tandemref3_Acc.f a0 a1_0 a1_1 a1_2 a1_3 a1_4 a1_5).bind fun bt140 => (some (bt134.1 == bt140.1 && (bt134.2.1 == bt140.2.1 && (bt134.2.2.1 == bt140.2.2.1 && (bt134.2.2.2.1 == bt140.2.2.2.1 && (bt134.2.2.2.2.1 == bt140.2.2.2.2.1 && (bt134.2.2.2.2.2 == bt140.2.2.2.2.2))))))))) = some r := h
  clear h
  replace H := Option.bind_eq_some_iff.mp H
  obtain ⟨⟨t134, t135, t136, t137, t138, t139⟩, A30, H⟩ := H
  replace H : ((tandemref3_Acc.f a0 a1_0 a1_1 a1_2 a1_3 a1_4 a1_5).bind fun bt140 => (some (t134 == bt140.1 && (t135 == bt140.2.1 && (t136 == bt140.2.2.1 && (t137 == bt140.2.2.2.1 && (t138 == bt140.2.2.2.2.1 && (t139 == bt140.2.2.2.2.2)))))))) = some r := H
  have A3 := Aside0.mk A30
  clear A30
  replace H := Option.bind_eq_some_iff.mp H
  obtain ⟨⟨t140, t141, t142, t143, t144, t145⟩, A40, H⟩ := H
  replace H : (some (t134 == t140 && (t135 == t141 && (t136 == t142 && (t137 == t143 && (t138 == t144 && (t139 == t145))))))) = some r := H
  have A4 := Aside0.mk A40
  clear A40
  obtain rfl := Option.some.inj H
  go_enter Try.func6, Try.ntmps6
  try go_wp2_with (first | ((with_reducible refine gate_dst (N := 3) rfl ?_); refine box_event ?hg (N := 3) ?hd (cs := #[.int .u8 a1_0, .int .u8 a1_1, .int .u8 a1_2, .int .u8 a1_3, .int .u8 a1_4, .int .u8 a1_5]) (t := 35) ?hr ?_; (case hd => rfl); (case hg => rfl); (case hr => first | (go_simp; done) | (go_simp; rfl)); intro gb133 hg w5 hbox hb; have n0_ := Aside0.mk (below_step (by repeat (first | (with_reducible first | exact HB.out | apply below_alloc | apply pw_below_drewN | apply below_drew1) | exact HB.out)) hb); have n1_ := Aside0.mk (hbox); have n2_ := Aside0.mk ((by rw [hg]; exact (below_size (by repeat (first | (with_reducible first | exact HB.out | apply below_alloc | apply pw_below_drewN | apply below_drew1) | exact HB.out))) : w.heap.size ≤ gb133)); have n3_ := Aside0.mk ((by rw [hg]; exact (below_size (by repeat (first | (with_reducible first | exact HB.out | apply below_alloc | apply pw_below_drewN | apply below_drew1) | exact HB.out))) : w.heap.size ≤ gb133)); clear HB; have HB := n0_; have BK133 := n1_; have GW133 := n2_; have GE133 := n3_; clear n0_ n1_ n2_ n3_; clear hb hbox hg))
  have n0_ := Aside0.mk (blk_drew BK133.out)
  have n1_ := Aside0.mk (below_drew1 HB.out)
  clear BK133
  clear HB
  have BK133 := n0_
  have HB := n1_
  clear n0_ n1_
  refine start_ (n := 8) (S := fun w' => w'.cell? ⟨gb133, 0, none⟩ = some (.int .u8 a1_0) ∧ w'.cell? ⟨gb133, 1, none⟩ = some (.int .u8 a1_1) ∧ w'.cell? ⟨gb133, 2, none⟩ = some (.int .u8 a1_2) ∧ w'.cell? ⟨gb133, 3, none⟩ = some (.int .u8 a1_3) ∧ w'.cell? ⟨gb133, 4, none⟩ = some (.int .u8 a1_4) ∧ w'.cell? ⟨gb133, 5, none⟩ = some (.int .u8 a1_5)) (ds := []) #[false, false, false, false, false, false, false, false] (by kernel_rfl) rfl rfl ⟨(blk_cell BK133.out 0).trans rfl, (blk_cell BK133.out 1).trans rfl, (blk_cell BK133.out 2).trans rfl, (blk_cell BK133.out 3).trans rfl, (blk_cell BK133.out 4).trans rfl, (blk_cell BK133.out 5).trans rfl⟩ (fun hHeld => ?_); refine with_tabW tandemlaw3_AluAccs.tab1 tandemlaw3_AluAccs.bits1 (fun HT_ HW_ => ?_)
  generalize w5.drew = w6 at BK133 HB hHeld ⊢
  refine pure_ (i := 0) (N := some 5) (v := ?_) (a' := ?_) #[true, false, false, false, false, false, false, false] rfl rfl (any_of HT_.out (by kernel_rfl)) (fun _ _ _ h => h) (Or.inl ⟨by rfl, ?_⟩) ?_ ?_
  rotate_left
  · intro w'
    go_simp
    with_reducible rfl
  rotate_left
  · simp only [Act.put, List.setIfInBounds_toArray, List.set_cons_zero, List.set_cons_succ, i64_w, i32_w]
    rfl
  refine pure_ (i := 3) (N := some 8) (v := ?_) (a' := ?_) #[true, false, false, true, false, false, false, false] rfl rfl (any_of HT_.out (by kernel_rfl)) (fun _ _ _ h => h) (Or.inl ⟨by rfl, ?_⟩) ?_ ?_
  rotate_left
  · intro w'
    go_simp
    with_reducible rfl
  rotate_left
  · simp only [Act.put, List.setIfInBounds_toArray, List.set_cons_zero, List.set_cons_succ, i64_w, i32_w]
    rfl
  refine take_ (i := 1) (N := some 6) (v := ?_) (a' := ?_) #[true, true, false, true, false, false, false, false] rfl rfl (take_ofW HT_.out HW_.out (by kernel_rfl)) (fun _ _ _ h => h) (Or.inl ⟨by rfl, ?_⟩) hHeld ?_ ?_
  rotate_left
  · rintro w' ⟨s0, s1, s2, s3, s4, s5⟩
    go_simp
    with_reducible rfl
  rotate_left
  · simp only [Act.put, List.setIfInBounds_toArray, List.set_cons_zero, List.set_cons_succ, i64_w, i32_w]
    rfl
  refine take_ (i := 4) (N := some 9) (v := ?_) (a' := ?_) #[true, true, false, true, true, false, false, false] rfl rfl (take_ofW HT_.out HW_.out (by kernel_rfl)) (fun _ _ _ h => h) (Or.inl ⟨by rfl, ?_⟩) hHeld ?_ ?_
  rotate_left
  · rintro w' ⟨s0, s1, s2, s3, s4, s5⟩
    go_simp
    with_reducible rfl
  rotate_left
  · simp only [Act.put, List.setIfInBounds_toArray, List.set_cons_zero, List.set_cons_succ, i64_w, i32_w]
    rfl
  refine one_ (i := 2) (N := some 7) #[true, true, true, true, true, false, false, false] rfl rfl (one_of HT_.out (by kernel_rfl)) (by decide) (fun K hK => ?_)
  refine goes_ Try.func20 (by kernel_rfl) rfl #[.int .i64 a0, .agg #[.int .u8 a1_0, .int .u8 a1_1, .int .u8 a1_2, .int .u8 a1_3, .int .u8 a1_4, .int .u8 a1_5]] (by rfl) rfl rfl (by (try simp only [List.map_toArray, List.map_cons, List.map_nil]); first | done | rfl | (simp only [List.length_drop, List.length_take]; rfl)) ?_
  with_reducible refine (alu_Acc.calls a0 a1_0 a1_1 a1_2 a1_3 a1_4 a1_5 t134 t135 t136 t137 t138 t139 _ A3.out).mono ?_
  rintro e w7 ⟨rfl, hb⟩
  refine ⟨_, rfl, ?_⟩
  have n0_ := Aside0.mk (blk_below (g := gb133) (o := .cells #[.int .u8 a1_0, .int .u8 a1_1, .int .u8 a1_2, .int .u8 a1_3, .int .u8 a1_4, .int .u8 a1_5] 35 (0, 0)) (by (with_reducible repeat (first | refine blk_drewN ?_ _ | refine blk_drew ?_ | refine blk_alloc ?_ _)); exact BK133.out) hb)
  have n1_ := Aside0.mk (below_step (by repeat (first | (with_reducible first | exact HB.out | apply below_alloc | apply pw_below_drewN | apply below_drew1 | refine below_set ?_ GE133.out) | exact HB.out)) hb)
  clear BK133
  clear HB
  have BK133 := n0_
  have HB := n1_
  clear n0_ n1_
  (try clear hb)
  (try clear hb2)
  (try clear hk)
  (try clear hi)
  refine hK.out _ _ ⟨(blk_cell BK133.out 0).trans rfl, (blk_cell BK133.out 1).trans rfl, (blk_cell BK133.out 2).trans rfl, (blk_cell BK133.out 3).trans rfl, (blk_cell BK133.out 4).trans rfl, (blk_cell BK133.out 5).trans rfl⟩ (fun hHeld => ?_)
  clear hK K
  refine norm_ (a' := ?_) ?_ ?_
  rotate_left
  · show Act.put _ (some 7) _ = _
    simp only [Act.put, List.setIfInBounds_toArray, List.set_cons_zero, List.set_cons_succ, i64_w, i32_w]
    rfl
  refine one_ (i := 5) (N := some 10) #[true, true, true, true, true, true, false, false] rfl rfl (one_of HT_.out (by kernel_rfl)) (by decide) (fun K hK => ?_)
  refine goes_ Try.func21 (by kernel_rfl) rfl #[.int .i64 a0, .agg #[.int .u8 a1_0, .int .u8 a1_1, .int .u8 a1_2, .int .u8 a1_3, .int .u8 a1_4, .int .u8 a1_5]] (by rfl) rfl rfl (by (try simp only [List.map_toArray, List.map_cons, List.map_nil]); first | done | rfl | (simp only [List.length_drop, List.length_take]; rfl)) ?_
  with_reducible refine (tandemref3_Acc.calls a0 a1_0 a1_1 a1_2 a1_3 a1_4 a1_5 t140 t141 t142 t143 t144 t145 _ A4.out).mono ?_
  rintro e w8 ⟨rfl, hb⟩
  refine ⟨_, rfl, ?_⟩
  have n0_ := Aside0.mk (blk_below (g := gb133) (o := .cells #[.int .u8 a1_0, .int .u8 a1_1, .int .u8 a1_2, .int .u8 a1_3, .int .u8 a1_4, .int .u8 a1_5] 35 (0, 0)) (by (with_reducible repeat (first | refine blk_drewN ?_ _ | refine blk_drew ?_ | refine blk_alloc ?_ _)); exact BK133.out) hb)
  have n1_ := Aside0.mk (below_step (by repeat (first | (with_reducible first | exact HB.out | apply below_alloc | apply pw_below_drewN | apply below_drew1 | refine below_set ?_ GE133.out) | exact HB.out)) hb)
  clear BK133
  clear HB
  have BK133 := n0_
  have HB := n1_
  clear n0_ n1_
  (try clear hb)
  (try clear hb2)
  (try clear hk)
  (try clear hi)
  refine hK.out _ _ ⟨(blk_cell BK133.out 0).trans rfl, (blk_cell BK133.out 1).trans rfl, (blk_cell BK133.out 2).trans rfl, (blk_cell BK133.out 3).trans rfl, (blk_cell BK133.out 4).trans rfl, (blk_cell BK133.out 5).trans rfl⟩ (fun hHeld => ?_)
  clear hK K
  refine norm_ (a' := ?_) ?_ ?_
  rotate_left
  · show Act.put _ (some 10) _ = _
    simp only [Act.put, List.setIfInBounds_toArray, List.set_cons_zero, List.set_cons_succ, i64_w, i32_w]
    rfl
  refine pure_ (i := 6) (N := some 11) (v := ?_) (a' := ?_) #[true, true, true, true, true, true, true, false] rfl rfl (any_of HT_.out (by kernel_rfl)) (fun _ _ _ h => h) (Or.inl ⟨by rfl, ?_⟩) ?_ ?_
  rotate_left
  · intro w'
    go_simp
    with_reducible rfl
  rotate_left
  · simp only [Act.put, List.setIfInBounds_toArray, List.set_cons_zero, List.set_cons_succ, i64_w, i32_w]
    rfl
  refine pure_ (i := 7) (N := some 4) (v := ?_) (a' := ?_) #[true, true, true, true, true, true, true, true] rfl rfl (any_of HT_.out (by kernel_rfl)) (fun _ _ _ h => h) (Or.inl ⟨by rfl, ?_⟩) ?_ ?_
  rotate_left
  · intro w'
    go_simp
    with_reducible rfl
  rotate_left
  · simp only [Act.put, List.setIfInBounds_toArray, List.set_cons_zero, List.set_cons_succ, i64_w, i32_w]
    rfl
  refine done_ (done_of HT_.out (by kernel_rfl)) ?_
  try go_wp2
  go_ret
  exact ⟨by first | rfl | (simp [errW_none, errW_some] <;> rfl) | (simp [*, errW_none, errW_some] <;> rfl), by repeat (first | (with_reducible first | exact HB.out | apply below_alloc | apply pw_below_drewN | apply below_drew1 | refine below_set ?_ GE133.out) | exact HB.out)⟩

end Go.Proofs.Ytajffjhfecckbaa.XAluAccs
