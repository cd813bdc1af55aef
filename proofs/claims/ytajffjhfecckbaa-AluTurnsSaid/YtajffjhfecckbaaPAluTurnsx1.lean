-- PRINTED BY print.sh 35421559b90ae4d0a3588c463048766b98c2df88dd9212a6774a882060cdf62d: not written by this session
import Derived.Test.YtajffjhfecckbaaPAluTurnsx0
namespace Go.Proofs.Ytajffjhfecckbaa.PAluTurns
open Go.RowKit Go.Proofs.YtajffjhfecckbaaW.PrintWords Go.Proofs.YtajffjhfecckbaaW.PrintLast Go.Proofs.YtajffjhfecckbaaW.PrintMore
attribute [local go_sem] max2_int min2_int max_two min_two max_three min_three max_four min_four   -- for this text's walks alone
set_option linter.unusedVariables false
set_option linter.unusedSimpArgs false

/-! ### alu_Nz: function 25 -/
def alu_Nz.f (a0 : Int) (a1 : Int) : Option (Int) := if a0 = 0 then (some (Go.bits .or .u8 (Go.bits .or .u8 (Go.bits .andNot .u8 a1 130) 2) (Go.bits .and .u8 a0 128))) else (some (Go.bits .or .u8 (Go.bits .andNot .u8 a1 130) (Go.bits .and .u8 a0 128)))
set_option maxHeartbeats 8000000 in
set_option maxRecDepth 100000 in
theorem alu_Nz.calls (a0 : Int) (a1 : Int) (r : Int) (w : World) (h : alu_Nz.f a0 a1 = some r) :
    Calls Try.prog 25 #[.int .u8 a0, .int .u8 a1] w fun e w' => e = .returned (.int .u8 r) ∧ Drawn0 w w' := by
  have H : (if a0 = 0 then (some (Go.bits .or .u8 (Go.bits .or .u8 (Go.bits .andNot .u8 a1 130) 2) (Go.bits .and .u8 a0 128))) else (some (Go.bits .or .u8 (Go.bits .andNot .u8 a1 130) (Go.bits .and .u8 a0 128)))) = some r := h
  clear h
  by_cases c3 : a0 = 0
  · rw [if_pos c3] at H
    have c3b0 : (a0 == 0) = true := beq_iff_eq.mpr c3
    have c3b1 : (a0 != 0) = false := bne_eq_false_iff_eq.mpr c3
    clear c3
    obtain rfl := Option.some.inj H
    go_enter Try.func25, Try.ntmps25
    go_wp2
    go_ret
    exact ⟨by first | rfl | (simp; done) | (simp [*]; done), by repeat (first | exact Drawn0.refl _ | apply Drawn0.step)⟩
  · rw [if_neg c3] at H
    have c3b0 : (a0 == 0) = false := beq_eq_false_iff_ne.mpr c3
    have c3b1 : (a0 != 0) = true := bne_iff_ne.mpr c3
    obtain rfl := Option.some.inj H
    go_enter Try.func25, Try.ntmps25
    go_wp2
    go_ret
    exact ⟨by first | rfl | (simp; done) | (simp [*]; done), by repeat (first | exact Drawn0.refl _ | apply Drawn0.step)⟩

/-! ### alu_put: function 36 -/
def alu_put.f (a0 : Int) (a1 : Int) (a2 : Bool) : Option (Int) := if a2 = true then (some (Go.bits .or .u8 a0 a1)) else (some (Go.bits .andNot .u8 a0 a1))
set_option maxHeartbeats 8000000 in
set_option maxRecDepth 100000 in
theorem alu_put.calls (a0 : Int) (a1 : Int) (a2 : Bool) (r : Int) (w : World) (h : alu_put.f a0 a1 a2 = some r) :
    Calls Try.prog 36 #[.int .u8 a0, .int .u8 a1, .bool a2] w fun e w' => e = .returned (.int .u8 r) ∧ Drawn0 w w' := by
  have H : (if a2 = true then (some (Go.bits .or .u8 a0 a1)) else (some (Go.bits .andNot .u8 a0 a1))) = some r := h
  clear h
  by_cases c4 : a2 = true
  · subst c4
    have H1 : (some (Go.bits .or .u8 a0 a1)) = some r := by rw [if_pos rfl] at H; exact H
    clear H
    have H := H1
    clear H1
    obtain rfl := Option.some.inj H
    go_enter Try.func36, Try.ntmps36
    go_wp2
    go_ret
    exact ⟨by first | rfl | (simp; done) | (simp [*]; done), by repeat (first | exact Drawn0.refl _ | apply Drawn0.step)⟩
  · replace c4 := Bool.eq_false_iff.mpr c4
    subst c4
    have H1 : (some (Go.bits .andNot .u8 a0 a1)) = some r := by rw [if_neg (show ¬ (false = true) by decide)] at H; exact H
    clear H
    have H := H1
    clear H1
    obtain rfl := Option.some.inj H
    go_enter Try.func36, Try.ntmps36
    go_wp2
    go_ret
    exact ⟨by first | rfl | (simp; done) | (simp [*]; done), by repeat (first | exact Drawn0.refl _ | apply Drawn0.step)⟩

/-! ### alu_Shift: function 14 -/
def alu_Shift.f (a0 : Int) (a1 : Int) (a2 : Int) : Option (Int × Int) := if a0 = 2 then ((alu_put.f a2 1 ((Go.bits .and .u8 a1 128) != 0)).bind fun t101 => ((alu_Nz.f ((a1 * 2) % 256) t101).bind fun t102 => (some ((a1 * 2) % 256, t102)))) else (if a0 = 39 then ((alu_put.f a2 1 ((Go.bits .and .u8 a1 128) != 0)).bind fun t103 => ((alu_Nz.f (Go.bits .or .u8 ((a1 * 2) % 256) (Go.bits .and .u8 a2 1)) t103).bind fun t104 => (some (Go.bits .or .u8 ((a1 * 2) % 256) (Go.bits .and .u8 a2 1), t104)))) else (if a0 = 32 then ((alu_put.f a2 1 ((Go.bits .and .u8 a1 1) != 0)).bind fun t105 => ((alu_Nz.f (a1 / 2) t105).bind fun t106 => (some (a1 / 2, t106)))) else (if a0 = 40 then ((alu_put.f a2 1 ((Go.bits .and .u8 a1 1) != 0)).bind fun t107 => ((alu_Nz.f (Go.bits .or .u8 (a1 / 2) (((Go.bits .and .u8 a2 1) * 128) % 256)) t107).bind fun t108 => (some (Go.bits .or .u8 (a1 / 2) (((Go.bits .and .u8 a2 1) * 128) % 256), t108)))) else (some (a1, a2)))))
set_option maxHeartbeats 8000000 in
set_option maxRecDepth 100000 in
theorem alu_Shift.calls (a0 : Int) (a1 : Int) (a2 : Int) (r1 : Int) (r2 : Int) (w : World) (h : alu_Shift.f a0 a1 a2 = some (r1, r2)) :
    Calls Try.prog 14 #[.int .i64 a0, .int .u8 a1, .int .u8 a2] w fun e w' => e = .returned (.tuple #[.int .u8 r1, .int .u8 r2]) ∧ Drawn0 w w' := by
  have H : (if a0 = 2 then ((alu_put.f a2 1 ((Go.bits .and .u8 a1 128) != 0)).bind fun t101 => ((alu_Nz.f ((a1 * 2) % 256) t101).bind fun t102 => (some ((a1 * 2) % 256, t102)))) else (if a0 = 39 then ((alu_put.f a2 1 ((Go.bits .and .u8 a1 128) != 0)).bind fun t103 => ((alu_Nz.f (Go.bits .or .u8 ((a1 * 2) % 256) (Go.bits .and .u8 a2 1)) t103).bind fun t104 => (some (Go.bits .or .u8 ((a1 * 2) % 256) (Go.bits .and .u8 a2 1), t104)))) else (if a0 = 32 then ((alu_put.f a2 1 ((Go.bits .and .u8 a1 1) != 0)).bind fun t105 => ((alu_Nz.f (a1 / 2) t105).bind fun t106 => (some (a1 / 2, t106)))) else (if a0 = 40 then ((alu_put.f a2 1 ((Go.bits .and .u8 a1 1) != 0)).bind fun t107 => ((alu_Nz.f (Go.bits .or .u8 (a1 / 2) (((Go.bits .and .u8 a2 1) * 128) % 256)) t107).bind fun t108 => (some (Go.bits .or .u8 (a1 / 2) (((Go.bits .and .u8 a2 1) * 128) % 256), t108)))) else (some (a1, a2)))))) = some (r1, r2) := h
  clear h
  by_cases c4 : a0 = 2
  · rw [if_pos c4] at H
    have c4b0 : (a0 == 2) = true := beq_iff_eq.mpr c4
    have c4b1 : (a0 != 2) = false := bne_eq_false_iff_eq.mpr c4
    clear c4
    replace H := Option.bind_eq_some_iff.mp H
    obtain ⟨t101, A50, H⟩ := H
    replace H : ((alu_Nz.f ((a1 * 2) % 256) t101).bind fun t102 => (some ((a1 * 2) % 256, t102))) = some (r1, r2) := H
    have A5 := Aside0.mk A50
    clear A50
    replace H := Option.bind_eq_some_iff.mp H
    obtain ⟨t102, A60, H⟩ := H
    replace H : (some ((a1 * 2) % 256, t102)) = some (r1, r2) := H
    have A6 := Aside0.mk A60
    clear A60
    simp only [Option.some.injEq, Prod.mk.injEq] at H
    obtain ⟨rfl, rfl⟩ := H
    go_enter Try.func14, Try.ntmps14
    go_wp2_with (first | ((with_reducible refine gate_callee (f := 36) rfl ?_); refine goesL_ (some 53) rfl rfl Try.func36 (by kernel_rfl) rfl #[.int .u8 a2, .int .u8 1, .bool ((Go.bits .and .u8 a1 128) != 0)] rfl (by (try simp only [List.map_toArray, List.map_cons, List.map_nil]); first | done | rfl | (simp only [List.length_drop, List.length_take]; rfl)) ?_; (with_reducible refine (alu_put.calls a2 1 ((Go.bits .and .u8 a1 128) != 0) t101 _ A5.out).mono ?_); rintro e w' ⟨rfl, ⟨nd, rfl⟩⟩; refine ⟨_, rfl, ?_⟩) | ((with_reducible refine gate_callee (f := 25) rfl ?_); refine goesL_ (some 54) rfl rfl Try.func25 (by kernel_rfl) rfl #[.int .u8 ((a1 * 2) % 256), .int .u8 t101] rfl (by (try simp only [List.map_toArray, List.map_cons, List.map_nil]); first | done | rfl | (simp only [List.length_drop, List.length_take]; rfl)) ?_; (with_reducible refine (alu_Nz.calls ((a1 * 2) % 256) t101 t102 _ A6.out).mono ?_); rintro e w' ⟨rfl, ⟨nd, rfl⟩⟩; refine ⟨_, rfl, ?_⟩))
    go_ret2
    exact ⟨by first | rfl | (simp; done) | (simp [*]; done), by repeat (first | exact Drawn0.refl _ | apply Drawn0.step)⟩
  · rw [if_neg c4] at H
    have c4b0 : (a0 == 2) = false := beq_eq_false_iff_ne.mpr c4
    have c4b1 : (a0 != 2) = true := bne_iff_ne.mpr c4
    by_cases c7 : a0 = 39
    · rw [if_pos c7] at H
      have c7b0 : (a0 == 39) = true := beq_iff_eq.mpr c7
      have c7b1 : (a0 != 39) = false := bne_eq_false_iff_eq.mpr c7
      clear c7
      replace H := Option.bind_eq_some_iff.mp H
      obtain ⟨t103, A80, H⟩ := H
      replace H : ((alu_Nz.f (Go.bits .or .u8 ((a1 * 2) % 256) (Go.bits .and .u8 a2 1)) t103).bind fun t104 => (some (Go.bits .or .u8 ((a1 * 2) % 256) (Go.bits .and .u8 a2 1), t104))) = some (r1, r2) := H
      have A8 := Aside0.mk A80
      clear A80
      replace H := Option.bind_eq_some_iff.mp H
      obtain ⟨t104, A90, H⟩ := H
      replace H : (some (Go.bits .or .u8 ((a1 * 2) % 256) (Go.bits .and .u8 a2 1), t104)) = some (r1, r2) := H
      have A9 := Aside0.mk A90
      clear A90
      simp only [Option.some.injEq, Prod.mk.injEq] at H
      obtain ⟨rfl, rfl⟩ := H
      go_enter Try.func14, Try.ntmps14
      go_wp2_with (first | ((with_reducible refine gate_callee (f := 36) rfl ?_); refine goesL_ (some 53) rfl rfl Try.func36 (by kernel_rfl) rfl #[.int .u8 a2, .int .u8 1, .bool ((Go.bits .and .u8 a1 128) != 0)] rfl (by (try simp only [List.map_toArray, List.map_cons, List.map_nil]); first | done | rfl | (simp only [List.length_drop, List.length_take]; rfl)) ?_; (with_reducible refine (alu_put.calls a2 1 ((Go.bits .and .u8 a1 128) != 0) t103 _ A8.out).mono ?_); rintro e w' ⟨rfl, ⟨nd, rfl⟩⟩; refine ⟨_, rfl, ?_⟩) | ((with_reducible refine gate_callee (f := 25) rfl ?_); refine goesL_ (some 54) rfl rfl Try.func25 (by kernel_rfl) rfl #[.int .u8 (Go.bits .or .u8 ((a1 * 2) % 256) (Go.bits .and .u8 a2 1)), .int .u8 t103] rfl (by (try simp only [List.map_toArray, List.map_cons, List.map_nil]); first | done | rfl | (simp only [List.length_drop, List.length_take]; rfl)) ?_; (with_reducible refine (alu_Nz.calls (Go.bits .or .u8 ((a1 * 2) % 256) (Go.bits .and .u8 a2 1)) t103 t104 _ A9.out).mono ?_); rintro e w' ⟨rfl, ⟨nd, rfl⟩⟩; refine ⟨_, rfl, ?_⟩))
      go_ret2
      exact ⟨by first | rfl | (simp; done) | (simp [*]; done), by repeat (first | exact Drawn0.refl _ | apply Drawn0.step)⟩
    · rw [if_neg c7] at H
      have c7b0 : (a0 == 39) = false := beq_eq_false_iff_ne.mpr c7
      have c7b1 : (a0 != 39) = true := bne_iff_ne.mpr c7
      by_cases c10 : a0 = 32
      · rw [if_pos c10] at H
        have c10b0 : (a0 == 32) = true := beq_iff_eq.mpr c10
        have c10b1 : (a0 != 32) = false := bne_eq_false_iff_eq.mpr c10
        clear c10
        replace H := Option.bind_eq_some_iff.mp H
        obtain ⟨t105, A110, H⟩ := H
        replace H : ((alu_Nz.f (a1 / 2) t105).bind fun t106 => (some (a1 / 2, t106))) = some (r1, r2) := H
        have A11 := Aside0.mk A110
        clear A110
        replace H := Option.bind_eq_some_iff.mp H
        obtain ⟨t106, A120, H⟩ := H
        replace H : (some (a1 / 2, t106)) = some (r1, r2) := H
        have A12 := Aside0.mk A120
        clear A120
        simp only [Option.some.injEq, Prod.mk.injEq] at H
        obtain ⟨rfl, rfl⟩ := H
        go_enter Try.func14, Try.ntmps14
        go_wp2_with (first | ((with_reducible refine gate_callee (f := 36) rfl ?_); refine goesL_ (some 53) rfl rfl Try.func36 (by kernel_rfl) rfl #[.int .u8 a2, .int .u8 1, .bool ((Go.bits .and .u8 a1 1) != 0)] rfl (by (try simp only [List.map_toArray, List.map_cons, List.map_nil]); first | done | rfl | (simp only [List.length_drop, List.length_take]; rfl)) ?_; (with_reducible refine (alu_put.calls a2 1 ((Go.bits .and .u8 a1 1) != 0) t105 _ A11.out).mono ?_); rintro e w' ⟨rfl, ⟨nd, rfl⟩⟩; refine ⟨_, rfl, ?_⟩) | ((with_reducible refine gate_callee (f := 25) rfl ?_); refine goesL_ (some 54) rfl rfl Try.func25 (by kernel_rfl) rfl #[.int .u8 (a1 / 2), .int .u8 t105] rfl (by (try simp only [List.map_toArray, List.map_cons, List.map_nil]); first | done | rfl | (simp only [List.length_drop, List.length_take]; rfl)) ?_; (with_reducible refine (alu_Nz.calls (a1 / 2) t105 t106 _ A12.out).mono ?_); rintro e w' ⟨rfl, ⟨nd, rfl⟩⟩; refine ⟨_, rfl, ?_⟩))
        go_ret2
        exact ⟨by first | rfl | (simp; done) | (simp [*]; done), by repeat (first | exact Drawn0.refl _ | apply Drawn0.step)⟩
      · rw [if_neg c10] at H
        have c10b0 : (a0 == 32) = false := beq_eq_false_iff_ne.mpr c10
        have c10b1 : (a0 != 32) = true := bne_iff_ne.mpr c10
        by_cases c13 : a0 = 40
        · rw [if_pos c13] at H
          have c13b0 : (a0 == 40) = true := beq_iff_eq.mpr c13
          have c13b1 : (a0 != 40) = false := bne_eq_false_iff_eq.mpr c13
          clear c13
          replace H := Option.bind_eq_some_iff.mp H
          obtain ⟨t107, A140, H⟩ := H
          replace H : ((alu_Nz.f (Go.bits .or .u8 (a1 / 2) (((Go.bits .and .u8 a2 1) * 128) % 256)) t107).bind fun t108 => (some (Go.bits .or .u8 (a1 / 2) (((Go.bits .and .u8 a2 1) * 128) % 256), t108))) = some (r1, r2) := H
          have A14 := Aside0.mk A140
          clear A140
          replace H := Option.bind_eq_some_iff.mp H
          obtain ⟨t108, A150, H⟩ := H
          replace H : (some (Go.bits .or .u8 (a1 / 2) (((Go.bits .and .u8 a2 1) * 128) % 256), t108)) = some (r1, r2) := H
          have A15 := Aside0.mk A150
          clear A150
          simp only [Option.some.injEq, Prod.mk.injEq] at H
          obtain ⟨rfl, rfl⟩ := H
          go_enter Try.func14, Try.ntmps14
          go_wp2_with (first | ((with_reducible refine gate_callee (f := 36) rfl ?_); refine goesL_ (some 53) rfl rfl Try.func36 (by kernel_rfl) rfl #[.int .u8 a2, .int .u8 1, .bool ((Go.bits .and .u8 a1 1) != 0)] rfl (by (try simp only [List.map_toArray, List.map_cons, List.map_nil]); first | done | rfl | (simp only [List.length_drop, List.length_take]; rfl)) ?_; (with_reducible refine (alu_put.calls a2 1 ((Go.bits .and .u8 a1 1) != 0) t107 _ A14.out).mono ?_); rintro e w' ⟨rfl, ⟨nd, rfl⟩⟩; refine ⟨_, rfl, ?_⟩) | ((with_reducible refine gate_callee (f := 25) rfl ?_); refine goesL_ (some 54) rfl rfl Try.func25 (by kernel_rfl) rfl #[.int .u8 (Go.bits .or .u8 (a1 / 2) (((Go.bits .and .u8 a2 1) * 128) % 256)), .int .u8 t107] rfl (by (try simp only [List.map_toArray, List.map_cons, List.map_nil]); first | done | rfl | (simp only [List.length_drop, List.length_take]; rfl)) ?_; (with_reducible refine (alu_Nz.calls (Go.bits .or .u8 (a1 / 2) (((Go.bits .and .u8 a2 1) * 128) % 256)) t107 t108 _ A15.out).mono ?_); rintro e w' ⟨rfl, ⟨nd, rfl⟩⟩; refine ⟨_, rfl, ?_⟩))
          go_ret2
          exact ⟨by first | rfl | (simp; done) | (simp [*]; done), by repeat (first | exact Drawn0.refl _ | apply Drawn0.step)⟩
        · rw [if_neg c13] at H
          have c13b0 : (a0 == 40) = false := beq_eq_false_iff_ne.mpr c13
          have c13b1 : (a0 != 40) = true := bne_iff_ne.mpr c13
          simp only [Option.some.injEq, Prod.mk.injEq] at H
          obtain ⟨rfl, rfl⟩ := H
          go_enter Try.func14, Try.ntmps14
          go_wp2
          go_ret2
          exact ⟨by first | rfl | (simp; done) | (simp [*]; done), by repeat (first | exact Drawn0.refl _ | apply Drawn0.step)⟩

/-! ### tandemlaw3_has: function 15 -/
def tandemlaw3_has.f (a0 : Int) (a1 : Int) : Option (Bool) := some ((Go.bits .and .u8 a0 a1) != 0)
set_option maxHeartbeats 8000000 in
set_option maxRecDepth 100000 in
theorem tandemlaw3_has.calls (a0 : Int) (a1 : Int) (r : Bool) (w : World) (h : tandemlaw3_has.f a0 a1 = some r) :
    Calls Try.prog 15 #[.int .u8 a0, .int .u8 a1] w fun e w' => e = .returned (.bool r) ∧ Drawn0 w w' := by
  have H : (some ((Go.bits .and .u8 a0 a1) != 0)) = some r := h
  clear h
  obtain rfl := Option.some.inj H
  go_enter Try.func15, Try.ntmps15
  go_wp2
  go_ret
  exact ⟨by first | rfl | (simp; done) | (simp [*]; done), by repeat (first | exact Drawn0.refl _ | apply Drawn0.step)⟩

/-! ### tandemlaw3_AluTurns: function 3 -/
mutual
def tandemlaw3_AluTurns.l0 : Nat → Int → Int → Int → Int → Int → Option (Bool)
  | 0, _, _, _, _, _ => none
  | k + 1, x0, x1, x5, x6, x7 => if x7 < 9 then ((alu_Shift.f 39 x5 x6).bind fun bt111 => (if x7 < 8 then ((tandemlaw3_has.f bt111.2 1).bind fun t113 => (if 0 ≤ (IntKind.u64.wrap (wrap64 (7 - x7))) then (tandemlaw3_AluTurns.j1 k x0 x1 x5 x6 x7 bt111.1 bt111.2 (t113 != ((Go.bits .and .u8 (shr .u8 x0 (IntKind.u64.wrap (wrap64 (7 - x7)))) 1) == 1))) else (none))) else (tandemlaw3_AluTurns.j1 k x0 x1 x5 x6 x7 bt111.1 bt111.2 false))) else (if x5 = x0 then ((tandemlaw3_has.f x6 1).bind fun t109 => ((tandemlaw3_has.f x1 1).bind fun t110 => (some (t109 == t110)))) else (some false))
def tandemlaw3_AluTurns.j1 : Nat → Int → Int → Int → Int → Int → Int → Int → Bool → Option (Bool)
  | 0, _, _, _, _, _, _, _, _ => none
  | k + 1, x0, x1, x5, x6, x7, x8, x9, x37 => if x37 = true then (some false) else ((tandemlaw3_has.f x8 1).bind fun t114 => ((tandemlaw3_has.f x6 1).bind fun t115 => (if (t114 != t115) = true then (tandemlaw3_AluTurns.j2 k x0 x1 x5 x6 x7 x8 x9 true) else ((tandemlaw3_has.f x9 2).bind fun t116 => (if (t116 != (x8 == 0)) = true then (tandemlaw3_AluTurns.j2 k x0 x1 x5 x6 x7 x8 x9 true) else ((tandemlaw3_has.f x9 128).bind fun t117 => (tandemlaw3_AluTurns.j2 k x0 x1 x5 x6 x7 x8 x9 (t117 != (decide (x8 ≥ 128))))))))))
def tandemlaw3_AluTurns.j2 : Nat → Int → Int → Int → Int → Int → Int → Int → Bool → Option (Bool)
  | 0, _, _, _, _, _, _, _, _ => none
  | k + 1, x0, x1, x5, x6, x7, x8, x9, x56 => if x56 = true then (some false) else ((alu_Shift.f 40 x8 x9).bind fun bt118 => (if bt118.1 = x5 then ((tandemlaw3_has.f bt118.2 1).bind fun t120 => ((tandemlaw3_has.f x6 1).bind fun t121 => (if (t120 != t121) = true then (some false) else (tandemlaw3_AluTurns.l0 k x0 x1 x8 x9 (wrap64 (x7 + 1)))))) else (some false)))
end
def tandemlaw3_AluTurns.f (k : Nat) (a0 : Int) (a1 : Int) : Option (Bool) := tandemlaw3_AluTurns.l0 k a0 a1 a0 a1 0
theorem tandemlaw3_AluTurns.mono_l : ∀ k, (∀ y0 y1 y2 y3 y4, LeO (tandemlaw3_AluTurns.l0 k y0 y1 y2 y3 y4) (tandemlaw3_AluTurns.l0 (k + 1) y0 y1 y2 y3 y4)) ∧ (∀ y0 y1 y2 y3 y4 y5 y6 y7, LeO (tandemlaw3_AluTurns.j1 k y0 y1 y2 y3 y4 y5 y6 y7) (tandemlaw3_AluTurns.j1 (k + 1) y0 y1 y2 y3 y4 y5 y6 y7)) ∧ (∀ y0 y1 y2 y3 y4 y5 y6 y7, LeO (tandemlaw3_AluTurns.j2 k y0 y1 y2 y3 y4 y5 y6 y7) (tandemlaw3_AluTurns.j2 (k + 1) y0 y1 y2 y3 y4 y5 y6 y7))
  | 0 => ⟨fun _ _ _ _ _ r h => by simp [tandemlaw3_AluTurns.l0] at h, fun _ _ _ _ _ _ _ _ r h => by simp [tandemlaw3_AluTurns.j1] at h, fun _ _ _ _ _ _ _ _ r h => by simp [tandemlaw3_AluTurns.j2] at h⟩
  | k + 1 => by
    obtain ⟨ih0, ih1, ih2⟩ := tandemlaw3_AluTurns.mono_l k
    refine ⟨?_, ?_, ?_⟩
    · intro y0 y1 y2 y3 y4
      unfold tandemlaw3_AluTurns.l0
      repeat' first
      | (with_reducible exact ih0 _ _ _ _ _)
      | (with_reducible exact ih1 _ _ _ _ _ _ _ _)
      | (with_reducible exact ih2 _ _ _ _ _ _ _ _)
      | (with_reducible exact LeO.refl _)
      | (with_reducible exact LeO.none _)
      | (with_reducible refine LeO.ite ?_ ?_)
      | (with_reducible refine LeO.bind ?_ (fun _ => ?_))
      | exact ih0 _ _ _ _ _
      | exact ih1 _ _ _ _ _ _ _ _
      | exact ih2 _ _ _ _ _ _ _ _
      | exact LeO.none _
      | refine LeO.ite ?_ ?_
      | refine LeO.bind ?_ (fun _ => ?_)
    · intro y0 y1 y2 y3 y4 y5 y6 y7
      unfold tandemlaw3_AluTurns.j1
      repeat' first
      | (with_reducible exact ih0 _ _ _ _ _)
      | (with_reducible exact ih1 _ _ _ _ _ _ _ _)
      | (with_reducible exact ih2 _ _ _ _ _ _ _ _)
      | (with_reducible exact LeO.refl _)
      | (with_reducible exact LeO.none _)
      | (with_reducible refine LeO.ite ?_ ?_)
      | (with_reducible refine LeO.bind ?_ (fun _ => ?_))
      | exact ih0 _ _ _ _ _
      | exact ih1 _ _ _ _ _ _ _ _
      | exact ih2 _ _ _ _ _ _ _ _
      | exact LeO.none _
      | refine LeO.ite ?_ ?_
      | refine LeO.bind ?_ (fun _ => ?_)
    · intro y0 y1 y2 y3 y4 y5 y6 y7
      unfold tandemlaw3_AluTurns.j2
      repeat' first
      | (with_reducible exact ih0 _ _ _ _ _)
      | (with_reducible exact ih1 _ _ _ _ _ _ _ _)
      | (with_reducible exact ih2 _ _ _ _ _ _ _ _)
      | (with_reducible exact LeO.refl _)
      | (with_reducible exact LeO.none _)
      | (with_reducible refine LeO.ite ?_ ?_)
      | (with_reducible refine LeO.bind ?_ (fun _ => ?_))
      | exact ih0 _ _ _ _ _
      | exact ih1 _ _ _ _ _ _ _ _
      | exact ih2 _ _ _ _ _ _ _ _
      | exact LeO.none _
      | refine LeO.ite ?_ ?_
      | refine LeO.bind ?_ (fun _ => ?_)
theorem tandemlaw3_AluTurns.mono : ∀ a0 a1 k, LeO (tandemlaw3_AluTurns.f k a0 a1) (tandemlaw3_AluTurns.f (k + 1) a0 a1) := by
  intro a0 a1 k
  obtain ⟨ih0, ih1, ih2⟩ := tandemlaw3_AluTurns.mono_l k
  unfold tandemlaw3_AluTurns.f
  repeat' first
      | (with_reducible exact ih0 _ _ _ _ _)
      | (with_reducible exact ih1 _ _ _ _ _ _ _ _)
      | (with_reducible exact ih2 _ _ _ _ _ _ _ _)
      | (with_reducible exact LeO.refl _)
      | (with_reducible exact LeO.none _)
      | (with_reducible refine LeO.ite ?_ ?_)
      | (with_reducible refine LeO.bind ?_ (fun _ => ?_))
      | exact ih0 _ _ _ _ _
      | exact ih1 _ _ _ _ _ _ _ _
      | exact ih2 _ _ _ _ _ _ _ _
      | exact LeO.none _
      | refine LeO.ite ?_ ?_
      | refine LeO.bind ?_ (fun _ => ?_)
set_option maxHeartbeats 8000000 in
set_option maxRecDepth 100000 in
theorem tandemlaw3_AluTurns.calls (k : Nat) (a0 : Int) (a1 : Int) (r : Bool) (w : World) (h : tandemlaw3_AluTurns.f k a0 a1 = some r) :
    Calls Try.prog 3 #[.int .u8 a0, .int .u8 a1] w fun e w' => e = .returned (.bool r) ∧ Drawn0 w w' := by
  have H : (tandemlaw3_AluTurns.l0 k a0 a1 a0 a1 0) = some r := h
  clear h
  have H' := Aside0.mk H
  clear H
  go_enter Try.func3, Try.ntmps3
  go_wp2
  go_loopg [5, 6, 7] k (fun kq v5 v6 v7 w' => ∃ (x5_1 : Int) (x6_1 : Int) (x7_1 : Int), v5 = .int .u8 x5_1 ∧ v6 = .int .u8 x6_1 ∧ v7 = .int .i64 x7_1 ∧ Aside0 (tandemlaw3_AluTurns.l0 kq a0 a1 x5_1 x6_1 x7_1 = some r) ∧ Aside0 (kq ≤ k) ∧ Drawn0 w w')
  case atStart => exact ⟨(a0), (a1), (0), (by first | rfl | (simp; done) | (simp [*]; done)), (by first | rfl | (simp; done) | (simp [*]; done)), (by first | rfl | (simp; done) | (simp [*]; done)), H', ⟨Nat.le_refl _⟩, by repeat (first | exact Drawn0.refl _ | apply Drawn0.step)⟩
  case round =>
    clear H'
    try clear p2
    obtain ⟨x5_1, x6_1, x7_1, rfl, rfl, rfl, HA, HK1, ⟨m1, rfl⟩⟩ := hrel
    cases gk with
    | zero => exact absurd HA.out (by simp [tandemlaw3_AluTurns.l0])
    | succ k1 =>
      have H := HA.out
      clear HA
      simp only [tandemlaw3_AluTurns.l0] at H
      by_cases c3 : x7_1 < 9
      · rw [if_pos c3] at H
        have c3b0 : decide (x7_1 < 9) = true := decide_eq_true c3
        clear c3
        replace H := Option.bind_eq_some_iff.mp H
        obtain ⟨⟨t111, t112⟩, A40, H⟩ := H
        replace H : (if x7_1 < 8 then ((tandemlaw3_has.f t112 1).bind fun t113 => (if 0 ≤ (IntKind.u64.wrap (wrap64 (7 - x7_1))) then (tandemlaw3_AluTurns.j1 k1 a0 a1 x5_1 x6_1 x7_1 t111 t112 (t113 != ((Go.bits .and .u8 (shr .u8 a0 (IntKind.u64.wrap (wrap64 (7 - x7_1)))) 1) == 1))) else (none))) else (tandemlaw3_AluTurns.j1 k1 a0 a1 x5_1 x6_1 x7_1 t111 t112 false)) = some r := H
        have A4 := Aside0.mk A40
        clear A40
        have HC5 := Aside0.mk H
        clear H
        go_upto_region 7 with (first | ((with_reducible refine gate_callee (f := 14) rfl ?_); refine goesL_ (some 21) rfl rfl Try.func14 (by kernel_rfl) rfl #[.int .i64 39, .int .u8 x5_1, .int .u8 x6_1] rfl (by (try simp only [List.map_toArray, List.map_cons, List.map_nil]); first | done | rfl | (simp only [List.length_drop, List.length_take]; rfl)) ?_; (with_reducible refine (alu_Shift.calls 39 x5_1 x6_1 t111 t112 _ A4.out).mono ?_); rintro e w' ⟨rfl, ⟨nd, rfl⟩⟩; refine ⟨_, rfl, ?_⟩))
        (try simp only [Act.put, List.setIfInBounds_toArray, List.set_cons_zero, List.set_cons_succ])
        go_cut [37] (fun v37 wc => ∃ (kq : Nat) (x37_4 : Bool), v37 = .bool x37_4 ∧ Aside0 (tandemlaw3_AluTurns.j1 kq a0 a1 x5_1 x6_1 x7_1 t111 t112 x37_4 = some r) ∧ Aside0 (kq ≤ k1) ∧ Drawn0 w wc)
        case first =>
          have H := HC5.out
          clear HC5
          by_cases c6 : x7_1 < 8
          · rw [if_pos c6] at H
            have c6b0 : decide (x7_1 < 8) = true := decide_eq_true c6
            clear c6
            (first | rw [c6b0] | (simp only [i64_w, i32_w]; rw [c6b0]) | skip)
            replace H := Option.bind_eq_some_iff.mp H
            obtain ⟨t113, A70, H⟩ := H
            replace H : (if 0 ≤ (IntKind.u64.wrap (wrap64 (7 - x7_1))) then (tandemlaw3_AluTurns.j1 k1 a0 a1 x5_1 x6_1 x7_1 t111 t112 (t113 != ((Go.bits .and .u8 (shr .u8 a0 (IntKind.u64.wrap (wrap64 (7 - x7_1)))) 1) == 1))) else (none)) = some r := H
            have A7 := Aside0.mk A70
            clear A70
            obtain ⟨ji8, hji8⟩ : ∃ j_ : Int, (IntKind.u64.wrap (wrap64 (7 - x7_1))) = j_ := ⟨_, rfl⟩
            replace H : (if 0 ≤ (ji8) then (tandemlaw3_AluTurns.j1 k1 a0 a1 x5_1 x6_1 x7_1 t111 t112 (t113 != ((Go.bits .and .u8 (shr .u8 a0 (ji8)) 1) == 1))) else (none)) = some r := by first | (rw [hji8] at H; exact H) | (simp only [hji8] at H ⊢; exact H)
            (try rw [hji8] at A7)
            by_cases c9 : 0 ≤ (ji8)
            · rw [if_pos c9] at H
              have c9b0 := eq_true c9
              have c9b1 : decide (0 ≤ (ji8)) = true := decide_eq_true c9
              clear c9
              obtain ⟨ji10, hji10⟩ : ∃ j_ : Int, (shr .u8 a0 (ji8)) = j_ := ⟨_, rfl⟩
              replace H : (tandemlaw3_AluTurns.j1 k1 a0 a1 x5_1 x6_1 x7_1 t111 t112 (t113 != ((Go.bits .and .u8 (ji10) 1) == 1))) = some r := by first | (rw [hji10] at H; exact H) | (simp only [hji10] at H ⊢; exact H)
              (try rw [hji10] at A7)
              have hji10_ : (a0 / 2 ^ min (ji8).toNat 8) = ji10 := hji10
              have hji10z : (ji8) ≤ 8 → (a0 / 2 ^ (ji8).toNat) = ji10 := shr_small hji10
              have H' := Aside0.mk H
              clear H
              go_wp2_with (first | (go_at_call 15; (with_reducible refine (tandemlaw3_has.calls t112 1 t113 _ A7.out).mono ?_); rintro e w' ⟨rfl, ⟨nd, rfl⟩⟩))
              go_meet
              case rel => exact ⟨_, ((t113 != ((Go.bits .and .u8 (ji10) 1) == 1))), (by first | rfl | (simp; done) | (simp only [← hji10] <;> (first | rfl | simp)) | (simp [*]; done)), H', ⟨by have := HK1.out; first | omega | exact Nat.le_refl _⟩, by repeat (first | exact Drawn0.refl _ | apply Drawn0.step)⟩
            · rw [if_neg c9] at H
              exact absurd H (by simp)
          · rw [if_neg c6] at H
            have c6b0 : decide (x7_1 < 8) = false := decide_eq_false c6
            clear c6
            (first | rw [c6b0] | (simp only [i64_w, i32_w]; rw [c6b0]) | skip)
            have H' := Aside0.mk H
            clear H
            go_wp2
            go_meet
            case rel => exact ⟨_, (false), (by first | rfl | (simp; done) | (simp [*]; done)), H', ⟨by have := HK1.out; first | omega | exact Nat.le_refl _⟩, by repeat (first | exact Drawn0.refl _ | apply Drawn0.step)⟩
        case rest =>
          clear HC5
          try clear c1
          try clear p2
          try clear c3
          try clear c3b0
          try clear c6
          try clear c6b0
          try clear p6
          try clear c9
          try clear c9b0
          try clear c9b1
          try clear p2
          obtain ⟨kq, x37_4, rfl, HA, HJ4, ⟨mc4, rfl⟩⟩ := hcut
          cases kq with
          | zero => exact absurd HA.out (by simp [tandemlaw3_AluTurns.j1])
          | succ kj4 =>
            have H := HA.out
            clear HA
            simp only [tandemlaw3_AluTurns.j1] at H
            by_cases c11 : x37_4 = true
            · subst c11
              have H1 : (some false) = some r := by rw [if_pos rfl] at H; exact H
              clear H
              have H := H1
              clear H1
              obtain rfl := Option.some.inj H
              go_wp2
              go_ret
              exact ⟨by first | rfl | (simp; done) | (simp [*]; done), by repeat (first | exact Drawn0.refl _ | apply Drawn0.step)⟩
            · replace c11 := Bool.eq_false_iff.mpr c11
              subst c11
              have H1 : ((tandemlaw3_has.f t111 1).bind fun t114 => ((tandemlaw3_has.f x6_1 1).bind fun t115 => (if (t114 != t115) = true then (tandemlaw3_AluTurns.j2 kj4 a0 a1 x5_1 x6_1 x7_1 t111 t112 true) else ((tandemlaw3_has.f t112 2).bind fun t116 => (if (t116 != (t111 == 0)) = true then (tandemlaw3_AluTurns.j2 kj4 a0 a1 x5_1 x6_1 x7_1 t111 t112 true) else ((tandemlaw3_has.f t112 128).bind fun t117 => (tandemlaw3_AluTurns.j2 kj4 a0 a1 x5_1 x6_1 x7_1 t111 t112 (t117 != (decide (t111 ≥ 128)))))))))) = some r := by rw [if_neg (show ¬ (false = true) by decide)] at H; exact H
              clear H
              have H := H1
              clear H1
              have HC12 := Aside0.mk H
              clear H
              go_upto_region 9 with (fail)
              go_cut [56] (fun v56 wc => ∃ (kq : Nat) (x56_11 : Bool), v56 = .bool x56_11 ∧ Aside0 (tandemlaw3_AluTurns.j2 kq a0 a1 x5_1 x6_1 x7_1 t111 t112 x56_11 = some r) ∧ Aside0 (kq ≤ kj4) ∧ Drawn0 w wc)
              case first =>
                have H := HC12.out
                clear HC12
                replace H := Option.bind_eq_some_iff.mp H
                obtain ⟨t114, A130, H⟩ := H
                replace H : ((tandemlaw3_has.f x6_1 1).bind fun t115 => (if (t114 != t115) = true then (tandemlaw3_AluTurns.j2 kj4 a0 a1 x5_1 x6_1 x7_1 t111 t112 true) else ((tandemlaw3_has.f t112 2).bind fun t116 => (if (t116 != (t111 == 0)) = true then (tandemlaw3_AluTurns.j2 kj4 a0 a1 x5_1 x6_1 x7_1 t111 t112 true) else ((tandemlaw3_has.f t112 128).bind fun t117 => (tandemlaw3_AluTurns.j2 kj4 a0 a1 x5_1 x6_1 x7_1 t111 t112 (t117 != (decide (t111 ≥ 128))))))))) = some r := H
                have A13 := Aside0.mk A130
                clear A130
                replace H := Option.bind_eq_some_iff.mp H
                obtain ⟨t115, A140, H⟩ := H
                replace H : (if (t114 != t115) = true then (tandemlaw3_AluTurns.j2 kj4 a0 a1 x5_1 x6_1 x7_1 t111 t112 true) else ((tandemlaw3_has.f t112 2).bind fun t116 => (if (t116 != (t111 == 0)) = true then (tandemlaw3_AluTurns.j2 kj4 a0 a1 x5_1 x6_1 x7_1 t111 t112 true) else ((tandemlaw3_has.f t112 128).bind fun t117 => (tandemlaw3_AluTurns.j2 kj4 a0 a1 x5_1 x6_1 x7_1 t111 t112 (t117 != (decide (t111 ≥ 128)))))))) = some r := H
                have A14 := Aside0.mk A140
                clear A140
                by_cases c15 : (t114 != t115) = true
                · rw [if_pos c15] at H
                  have c15b0 : (t114 != t115) = true := c15
                  (try (have c15b1 : decide (t114 = t115) = false := by simpa using c15))
                  (try (have c15b2 : (t114 == t115) = false := by simpa using c15))
                  (try (have c15b3 : ¬ (t114 = t115) := by simpa using c15))
                  clear c15
                  (first | rw [c15b0] | (simp only [i64_w, i32_w]; rw [c15b0]) | skip)
                  have H' := Aside0.mk H
                  clear H
                  go_wp2_with (first | ((with_reducible refine gate_callee (f := 15) rfl ?_); refine goesL_ (some 39) rfl rfl Try.func15 (by kernel_rfl) rfl #[.int .u8 t111, .int .u8 1] rfl (by (try simp only [List.map_toArray, List.map_cons, List.map_nil]); first | done | rfl | (simp only [List.length_drop, List.length_take]; rfl)) ?_; (with_reducible refine (tandemlaw3_has.calls t111 1 t114 _ A13.out).mono ?_); rintro e w' ⟨rfl, ⟨nd, rfl⟩⟩; refine ⟨_, rfl, ?_⟩) | ((with_reducible refine gate_callee (f := 15) rfl ?_); refine goesL_ (some 41) rfl rfl Try.func15 (by kernel_rfl) rfl #[.int .u8 x6_1, .int .u8 1] rfl (by (try simp only [List.map_toArray, List.map_cons, List.map_nil]); first | done | rfl | (simp only [List.length_drop, List.length_take]; rfl)) ?_; (with_reducible refine (tandemlaw3_has.calls x6_1 1 t115 _ A14.out).mono ?_); rintro e w' ⟨rfl, ⟨nd, rfl⟩⟩; refine ⟨_, rfl, ?_⟩))
                  go_meet
                  case rel => exact ⟨_, (true), (by first | rfl | (simp; done) | (simp [*]; done)), H', ⟨by have := HK1.out; have := HJ4.out; first | omega | exact Nat.le_refl _⟩, by repeat (first | exact Drawn0.refl _ | apply Drawn0.step)⟩
                · rw [if_neg c15] at H
                  have c15b0 : (t114 != t115) = false := by simpa using c15
                  (try (have c15b1 : decide (t114 = t115) = true := by simpa using c15))
                  (try (have c15b2 : (t114 == t115) = true := by simpa using c15))
                  clear c15
                  (first | rw [c15b0] | (simp only [i64_w, i32_w]; rw [c15b0]) | skip)
                  replace H := Option.bind_eq_some_iff.mp H
                  obtain ⟨t116, A160, H⟩ := H
                  replace H : (if (t116 != (t111 == 0)) = true then (tandemlaw3_AluTurns.j2 kj4 a0 a1 x5_1 x6_1 x7_1 t111 t112 true) else ((tandemlaw3_has.f t112 128).bind fun t117 => (tandemlaw3_AluTurns.j2 kj4 a0 a1 x5_1 x6_1 x7_1 t111 t112 (t117 != (decide (t111 ≥ 128)))))) = some r := H
                  have A16 := Aside0.mk A160
                  clear A160
                  by_cases c17 : (t116 != (t111 == 0)) = true
                  · rw [if_pos c17] at H
                    have c17b0 : (t116 != (t111 == 0)) = true := c17
                    (try (have c17b1 : decide (t116 = (t111 == 0)) = false := by simpa using c17))
                    (try (have c17b2 : (t116 == (t111 == 0)) = false := by simpa using c17))
                    (try (have c17b3 : ¬ (t116 = (t111 == 0)) := by simpa using c17))
                    clear c17
                    have H' := Aside0.mk H
                    clear H
                    go_wp2_with (first | ((with_reducible refine gate_callee (f := 15) rfl ?_); refine goesL_ (some 39) rfl rfl Try.func15 (by kernel_rfl) rfl #[.int .u8 t111, .int .u8 1] rfl (by (try simp only [List.map_toArray, List.map_cons, List.map_nil]); first | done | rfl | (simp only [List.length_drop, List.length_take]; rfl)) ?_; (with_reducible refine (tandemlaw3_has.calls t111 1 t114 _ A13.out).mono ?_); rintro e w' ⟨rfl, ⟨nd, rfl⟩⟩; refine ⟨_, rfl, ?_⟩) | ((with_reducible refine gate_callee (f := 15) rfl ?_); refine goesL_ (some 41) rfl rfl Try.func15 (by kernel_rfl) rfl #[.int .u8 x6_1, .int .u8 1] rfl (by (try simp only [List.map_toArray, List.map_cons, List.map_nil]); first | done | rfl | (simp only [List.length_drop, List.length_take]; rfl)) ?_; (with_reducible refine (tandemlaw3_has.calls x6_1 1 t115 _ A14.out).mono ?_); rintro e w' ⟨rfl, ⟨nd, rfl⟩⟩; refine ⟨_, rfl, ?_⟩) | (go_at_call 15; (with_reducible refine (tandemlaw3_has.calls t112 2 t116 _ A16.out).mono ?_); rintro e w' ⟨rfl, ⟨nd, rfl⟩⟩))
                    go_meet
                    case rel => exact ⟨_, (true), (by first | rfl | (simp; done) | (simp [*]; done)), H', ⟨by have := HK1.out; have := HJ4.out; first | omega | exact Nat.le_refl _⟩, by repeat (first | exact Drawn0.refl _ | apply Drawn0.step)⟩
                  · rw [if_neg c17] at H
                    have c17b0 : (t116 != (t111 == 0)) = false := by simpa using c17
                    (try (have c17b1 : decide (t116 = (t111 == 0)) = true := by simpa using c17))
                    (try (have c17b2 : (t116 == (t111 == 0)) = true := by simpa using c17))
                    clear c17
                    replace H := Option.bind_eq_some_iff.mp H
                    obtain ⟨t117, A180, H⟩ := H
                    replace H : (tandemlaw3_AluTurns.j2 kj4 a0 a1 x5_1 x6_1 x7_1 t111 t112 (t117 != (decide (t111 ≥ 128)))) = some r := H
                    have A18 := Aside0.mk A180
                    clear A180
                    have H' := Aside0.mk H
                    clear H
                    go_wp2_with (first | ((with_reducible refine gate_callee (f := 15) rfl ?_); refine goesL_ (some 39) rfl rfl Try.func15 (by kernel_rfl) rfl #[.int .u8 t111, .int .u8 1] rfl (by (try simp only [List.map_toArray, List.map_cons, List.map_nil]); first | done | rfl | (simp only [List.length_drop, List.length_take]; rfl)) ?_; (with_reducible refine (tandemlaw3_has.calls t111 1 t114 _ A13.out).mono ?_); rintro e w' ⟨rfl, ⟨nd, rfl⟩⟩; refine ⟨_, rfl, ?_⟩) | ((with_reducible refine gate_callee (f := 15) rfl ?_); refine goesL_ (some 41) rfl rfl Try.func15 (by kernel_rfl) rfl #[.int .u8 x6_1, .int .u8 1] rfl (by (try simp only [List.map_toArray, List.map_cons, List.map_nil]); first | done | rfl | (simp only [List.length_drop, List.length_take]; rfl)) ?_; (with_reducible refine (tandemlaw3_has.calls x6_1 1 t115 _ A14.out).mono ?_); rintro e w' ⟨rfl, ⟨nd, rfl⟩⟩; refine ⟨_, rfl, ?_⟩) | (go_at_call 15; (with_reducible refine (tandemlaw3_has.calls t112 2 t116 _ A16.out).mono ?_); rintro e w' ⟨rfl, ⟨nd, rfl⟩⟩) | (go_at_call 15; (with_reducible refine (tandemlaw3_has.calls t112 128 t117 _ A18.out).mono ?_); rintro e w' ⟨rfl, ⟨nd, rfl⟩⟩))
                    go_meet
                    case rel => exact ⟨_, ((t117 != (decide (t111 ≥ 128)))), (by first | rfl | (simp; done) | (simp [*]; done)), H', ⟨by have := HK1.out; have := HJ4.out; first | omega | exact Nat.le_refl _⟩, by repeat (first | exact Drawn0.refl _ | apply Drawn0.step)⟩
              case rest =>
                clear HC12
                try clear c1
                try clear p2
                try clear c3
                try clear c3b0
                try clear c4
                try clear c6
                try clear c6b0
                try clear p6
                try clear c9
                try clear c9b0
                try clear c9b1
                try clear c11
                try clear c14
                try clear c15
                try clear c15b0
                try clear c15b1
                try clear c15b2
                try clear c17
                try clear c17b0
                try clear c17b1
                try clear c17b2
                try clear p2
                try clear p6
                obtain ⟨kq, x56_11, rfl, HA, HJ11, ⟨mc11, rfl⟩⟩ := hcut
                cases kq with
                | zero => exact absurd HA.out (by simp [tandemlaw3_AluTurns.j2])
                | succ kj11 =>
                  have H := HA.out
                  clear HA
                  simp only [tandemlaw3_AluTurns.j2] at H
                  by_cases c19 : x56_11 = true
                  · subst c19
                    have H1 : (some false) = some r := by rw [if_pos rfl] at H; exact H
                    clear H
                    have H := H1
                    clear H1
                    obtain rfl := Option.some.inj H
                    go_wp2
                    go_ret
                    exact ⟨by first | rfl | (simp; done) | (simp [*]; done), by repeat (first | exact Drawn0.refl _ | apply Drawn0.step)⟩
                  · replace c19 := Bool.eq_false_iff.mpr c19
                    subst c19
                    have H1 : ((alu_Shift.f 40 t111 t112).bind fun bt118 => (if bt118.1 = x5_1 then ((tandemlaw3_has.f bt118.2 1).bind fun t120 => ((tandemlaw3_has.f x6_1 1).bind fun t121 => (if (t120 != t121) = true then (some false) else (tandemlaw3_AluTurns.l0 kj11 a0 a1 t111 t112 (wrap64 (x7_1 + 1)))))) else (some false))) = some r := by rw [if_neg (show ¬ (false = true) by decide)] at H; exact H
                    clear H
                    have H := H1
                    clear H1
                    replace H := Option.bind_eq_some_iff.mp H
                    obtain ⟨⟨t118, t119⟩, A200, H⟩ := H
                    replace H : (if t118 = x5_1 then ((tandemlaw3_has.f t119 1).bind fun t120 => ((tandemlaw3_has.f x6_1 1).bind fun t121 => (if (t120 != t121) = true then (some false) else (tandemlaw3_AluTurns.l0 kj11 a0 a1 t111 t112 (wrap64 (x7_1 + 1)))))) else (some false)) = some r := H
                    have A20 := Aside0.mk A200
                    clear A200
                    by_cases c21 : t118 = x5_1
                    · rw [if_pos c21] at H
                      have c21b0 : (t118 == x5_1) = true := beq_iff_eq.mpr c21
                      have c21b1 : (t118 != x5_1) = false := bne_eq_false_iff_eq.mpr c21
                      clear c21
                      replace H := Option.bind_eq_some_iff.mp H
                      obtain ⟨t120, A220, H⟩ := H
                      replace H : ((tandemlaw3_has.f x6_1 1).bind fun t121 => (if (t120 != t121) = true then (some false) else (tandemlaw3_AluTurns.l0 kj11 a0 a1 t111 t112 (wrap64 (x7_1 + 1))))) = some r := H
                      have A22 := Aside0.mk A220
                      clear A220
                      replace H := Option.bind_eq_some_iff.mp H
                      obtain ⟨t121, A230, H⟩ := H
                      replace H : (if (t120 != t121) = true then (some false) else (tandemlaw3_AluTurns.l0 kj11 a0 a1 t111 t112 (wrap64 (x7_1 + 1)))) = some r := H
                      have A23 := Aside0.mk A230
                      clear A230
                      by_cases c24 : (t120 != t121) = true
                      · rw [if_pos c24] at H
                        have c24b0 : (t120 != t121) = true := c24
                        (try (have c24b1 : decide (t120 = t121) = false := by simpa using c24))
                        (try (have c24b2 : (t120 == t121) = false := by simpa using c24))
                        (try (have c24b3 : ¬ (t120 = t121) := by simpa using c24))
                        clear c24
                        obtain rfl := Option.some.inj H
                        go_wp2_with (first | ((with_reducible refine gate_callee (f := 14) rfl ?_); refine goesL_ (some 60) rfl rfl Try.func14 (by kernel_rfl) rfl #[.int .i64 40, .int .u8 t111, .int .u8 t112] rfl (by (try simp only [List.map_toArray, List.map_cons, List.map_nil]); first | done | rfl | (simp only [List.length_drop, List.length_take]; rfl)) ?_; (with_reducible refine (alu_Shift.calls 40 t111 t112 t118 t119 _ A20.out).mono ?_); rintro e w' ⟨rfl, ⟨nd, rfl⟩⟩; refine ⟨_, rfl, ?_⟩) | (go_at_call 15; (with_reducible refine (tandemlaw3_has.calls t119 1 t120 _ A22.out).mono ?_); rintro e w' ⟨rfl, ⟨nd, rfl⟩⟩) | (go_at_call 15; (with_reducible refine (tandemlaw3_has.calls x6_1 1 t121 _ A23.out).mono ?_); rintro e w' ⟨rfl, ⟨nd, rfl⟩⟩))
                        go_ret
                        exact ⟨by first | rfl | (simp; done) | (simp [*]; done), by repeat (first | exact Drawn0.refl _ | apply Drawn0.step)⟩
                      · rw [if_neg c24] at H
                        have c24b0 : (t120 != t121) = false := by simpa using c24
                        (try (have c24b1 : decide (t120 = t121) = true := by simpa using c24))
                        (try (have c24b2 : (t120 == t121) = true := by simpa using c24))
                        clear c24
                        have H' := Aside0.mk H
                        clear H
                        go_wp2_with (first | ((with_reducible refine gate_callee (f := 14) rfl ?_); refine goesL_ (some 60) rfl rfl Try.func14 (by kernel_rfl) rfl #[.int .i64 40, .int .u8 t111, .int .u8 t112] rfl (by (try simp only [List.map_toArray, List.map_cons, List.map_nil]); first | done | rfl | (simp only [List.length_drop, List.length_take]; rfl)) ?_; (with_reducible refine (alu_Shift.calls 40 t111 t112 t118 t119 _ A20.out).mono ?_); rintro e w' ⟨rfl, ⟨nd, rfl⟩⟩; refine ⟨_, rfl, ?_⟩) | (go_at_call 15; (with_reducible refine (tandemlaw3_has.calls t119 1 t120 _ A22.out).mono ?_); rintro e w' ⟨rfl, ⟨nd, rfl⟩⟩) | (go_at_call 15; (with_reducible refine (tandemlaw3_has.calls x6_1 1 t121 _ A23.out).mono ?_); rintro e w' ⟨rfl, ⟨nd, rfl⟩⟩))
                        go_roundg kj11
                        case measure => have := HK1.out; have := HJ4.out; have := HJ11.out; omega
                        case rel => exact ⟨(t111), (t112), (wrap64 (x7_1 + 1)), (by first | rfl | (simp; done) | (simp [*]; done)), (by first | rfl | (simp; done) | (simp [*]; done)), (by first | rfl | (simp; done) | (simp [*]; done)), H', ⟨by have := HK1.out; have := HJ4.out; have := HJ11.out; omega⟩, by repeat (first | exact Drawn0.refl _ | apply Drawn0.step)⟩
                    · rw [if_neg c21] at H
                      have c21b0 : (t118 == x5_1) = false := beq_eq_false_iff_ne.mpr c21
                      have c21b1 : (t118 != x5_1) = true := bne_iff_ne.mpr c21
                      obtain rfl := Option.some.inj H
                      go_wp2_with (first | ((with_reducible refine gate_callee (f := 14) rfl ?_); refine goesL_ (some 60) rfl rfl Try.func14 (by kernel_rfl) rfl #[.int .i64 40, .int .u8 t111, .int .u8 t112] rfl (by (try simp only [List.map_toArray, List.map_cons, List.map_nil]); first | done | rfl | (simp only [List.length_drop, List.length_take]; rfl)) ?_; (with_reducible refine (alu_Shift.calls 40 t111 t112 t118 t119 _ A20.out).mono ?_); rintro e w' ⟨rfl, ⟨nd, rfl⟩⟩; refine ⟨_, rfl, ?_⟩))
                      go_ret
                      exact ⟨by first | rfl | (simp; done) | (simp [*]; done), by repeat (first | exact Drawn0.refl _ | apply Drawn0.step)⟩
      · rw [if_neg c3] at H
        have c3b0 : decide (x7_1 < 9) = false := decide_eq_false c3
        clear c3
        by_cases c25 : x5_1 = a0
        · rw [if_pos c25] at H
          have c25b0 : (x5_1 == a0) = true := beq_iff_eq.mpr c25
          have c25b1 : (x5_1 != a0) = false := bne_eq_false_iff_eq.mpr c25
          clear c25
          replace H := Option.bind_eq_some_iff.mp H
          obtain ⟨t109, A260, H⟩ := H
          replace H : ((tandemlaw3_has.f a1 1).bind fun t110 => (some (t109 == t110))) = some r := H
          have A26 := Aside0.mk A260
          clear A260
          replace H := Option.bind_eq_some_iff.mp H
          obtain ⟨t110, A270, H⟩ := H
          replace H : (some (t109 == t110)) = some r := H
          have A27 := Aside0.mk A270
          clear A270
          obtain rfl := Option.some.inj H
          go_wp2_with (first | (go_at_call 15; (with_reducible refine (tandemlaw3_has.calls x6_1 1 t109 _ A26.out).mono ?_); rintro e w' ⟨rfl, ⟨nd, rfl⟩⟩) | (go_at_call 15; (with_reducible refine (tandemlaw3_has.calls a1 1 t110 _ A27.out).mono ?_); rintro e w' ⟨rfl, ⟨nd, rfl⟩⟩))
          go_ret
          exact ⟨by first | rfl | (simp; done) | (simp [*]; done), by repeat (first | exact Drawn0.refl _ | apply Drawn0.step)⟩
        · rw [if_neg c25] at H
          have c25b0 : (x5_1 == a0) = false := beq_eq_false_iff_ne.mpr c25
          have c25b1 : (x5_1 != a0) = true := bne_iff_ne.mpr c25
          obtain rfl := Option.some.inj H
          go_wp2
          go_ret
          exact ⟨by first | rfl | (simp; done) | (simp [*]; done), by repeat (first | exact Drawn0.refl _ | apply Drawn0.step)⟩

/-- THE ONE PURE STATEMENT of tandemlaw3_AluTurns: yours. -/
def tandemlaw3_AluTurns.Pure : Prop := ∀ (a0 : Int) (a1 : Int), (Lit.int .u8 a0).wf = true → (Lit.int .u8 a1).wf = true → ∃ k, tandemlaw3_AluTurns.f k a0 a1 = some true
theorem tandemlaw3_AluTurns.walk (P : tandemlaw3_AluTurns.Pure) (a0 : Int) (a1 : Int) (w : World) (w0 : (Lit.int .u8 a0).wf = true) (w1 : (Lit.int .u8 a1).wf = true) :
    Calls Try.prog 3 #[.int .u8 a0, .int .u8 a1] w fun e w' => e = .returned (.bool true) ∧ Below w.heap.size w w' := by
  obtain ⟨k, h⟩ := P a0 a1 w0 w1
  refine (tandemlaw3_AluTurns.calls k a0 a1 true w h).mono ?_
  rintro e w' ⟨rfl, hd⟩
  exact ⟨rfl, hd.below⟩

end Go.Proofs.Ytajffjhfecckbaa.PAluTurns
