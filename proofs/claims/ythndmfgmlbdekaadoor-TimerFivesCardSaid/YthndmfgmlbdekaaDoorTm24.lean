/- The sequencer round after round, from its beginning. -/
import Derived.Test.YthndmfgmlbdekaaDoorTm23
namespace Go.Proofs.YthndmfgmlbdekaaDoor.Ev
open Go Go.RowKit
set_option linter.unusedVariables false
set_option linter.unusedSimpArgs false
set_option linter.constructorNameAsVariable false
namespace K
def seq0 (fi : Bool) (be : Int) : Clk := ⟨0, 0, 0, 0, 0, false, false, fi, false, false, 0, 0, be⟩
end K
theorem okv_seq0 {fi : Bool} {be : Int} (h0 : 0 ≤ be) (h1 : be ≤ 63) : K.okv (K.seq0 fi be) = true :=
  okv_iff.2 ⟨okC_iff.2 ⟨by show (0 : Int) ≤ 0 ∧ (0 : Int) < 65536; omega, by show (0 : Int) ≤ 0 ∧ (0 : Int) < 65536; omega, by show (0 : Int) ≤ 0 ∧ (0 : Int) < 65536; omega, by show (0 : Int) ≤ 0 ∧ (0 : Int) < 256; omega, by show (0 : Int) ≤ 0 ∧ (0 : Int) < 256; omega, by show (0 : Int) ≤ 0 ∧ (0 : Int) < 65536; omega, by show (0 : Int) ≤ 0 ∧ (0 : Int) < 256; omega, by show 0 ≤ be ∧ be < 256; omega⟩,
    valid_iff.2 ⟨⟨by show (0 : Int) < 32; omega, by show (0 : Int) < K.dvn 0; decide, by show (0 : Int) ≤ 37281; omega, by show (0 : Int) ≤ 4; omega, h1⟩, fun h => (by cases h), fun h => (by cases h)⟩⟩
theorem passed_at {R k j : Int} (hR : 0 < R) (j0 : 0 ≤ j) (j1 : j < R) (ms : List Int) : K.passed (0 + (k * R + j)) R ms = k * (ms.length : Int) + K.cnt j ms := by
  have e : 0 + (k * R + j) = j + R * k := by rw [Int.mul_comm R]; omega
  unfold K.passed
  rw [e, Int.add_mul_ediv_left _ _ (by omega), Int.add_mul_emod_self_left, Int.ediv_eq_zero_of_lt j0 j1, Int.emod_eq_of_lt j0 j1, Int.zero_add]
theorem cnt_marks (j l : Int) : K.cnt j [7457, 14913, 22371, l] = K.marks j l := by
  have h : ∀ p q r s : Int, 0 + s + r + q + p = p + q + r + s := fun _ _ _ _ => by omega
  exact h _ _ _ _
theorem cnt_ask {j : Int} (h1 : j < 29830) : (K.cnt j [29828, 29829, 29830] ≥ 1 ↔ j ≥ 29828) ∧ 0 ≤ K.cnt j [29828, 29829, 29830] := by
  show (0 + (if 29830 ≤ j then 1 else 0) + (if 29829 ≤ j then 1 else 0) + (if 29828 ≤ j then (1 : Int) else 0) ≥ 1 ↔ j ≥ 29828) ∧ 0 ≤ 0 + (if 29830 ≤ j then 1 else 0) + (if 29829 ≤ j then 1 else 0) + (if 29828 ≤ j then (1 : Int) else 0)
  split <;> split <;> split <;> omega
theorem rounds {fi : Bool} {be k j : Int} (b0 : 0 ≤ be) (b1 : be ≤ 63) (k0 : 0 ≤ k) (j0 : 0 ≤ j) (j1 : j < K.rnd fi) :
    K.it K.one (k * K.rnd fi + j).toNat (K.seq0 fi be) = { K.seq0 fi be with fr := !fi && decide (k ≥ 1 ∨ j ≥ 29828), pl := j, be := (be + 4 * k + K.marks j (K.lastB fi)) % 64 } := by
  have hR : 0 < K.rnd fi := by cases fi <;> decide
  have n0 : 0 ≤ k * K.rnd fi := Int.mul_nonneg k0 (by omega)
  rw [← tail_it (okv_seq0 b0 b1) rfl (show (0 : Int) < K.rnd fi from hR)]
  have en : (((k * K.rnd fi + j).toNat : Nat) : Int) = k * K.rnd fi + j := Int.toNat_of_nonneg (by omega)
  have z : ∀ ms : List Int, K.passed 0 (K.rnd fi) ms = K.cnt 0 ms := fun ms => by unfold K.passed; rw [Int.zero_ediv, Int.zero_emod, Int.zero_mul, Int.zero_add]
  have z1 : K.cnt 0 [7457, 14913, 22371, K.lastB fi] = 0 := by cases fi <;> decide
  have z2 : K.cnt 0 [29828, 29829, 29830] = 0 := by decide
  unfold K.tail
  rw [en]
  have e1 : (0 + (k * K.rnd fi + j)) % K.rnd fi = j := by
    rw [show 0 + (k * K.rnd fi + j) = j + K.rnd fi * k by rw [Int.mul_comm (K.rnd fi)]; omega, Int.add_mul_emod_self_left, Int.emod_eq_of_lt j0 j1]
  have e2 : (be + K.passed (0 + (k * K.rnd fi + j)) (K.rnd fi) [7457, 14913, 22371, K.lastB fi] - K.passed 0 (K.rnd fi) [7457, 14913, 22371, K.lastB fi]) % 64 = (be + 4 * k + K.marks j (K.lastB fi)) % 64 := by
    rw [passed_at hR j0 j1, z, z1, cnt_marks]
    congr 1
    show be + (k * 4 + _) - 0 = _
    omega
  have e3 : (false || (!fi && (!false && decide (K.passed (0 + (k * K.rnd fi + j)) (K.rnd fi) [29828, 29829, 29830] > K.passed 0 (K.rnd fi) [29828, 29829, 29830])))) = (!fi && decide (k ≥ 1 ∨ j ≥ 29828)) := by
    cases fi with
    | true => rfl
    | false =>
      have hj : j < 29830 := j1
      obtain ⟨h1, h2⟩ := cnt_ask hj
      rw [passed_at hR j0 j1, z, z2]
      show (false || (true && (true && decide (k * 3 + K.cnt j [29828, 29829, 29830] > 0)))) = (true && decide (k ≥ 1 ∨ j ≥ 29828))
      simp only [Bool.false_or, Bool.true_and, decide_eq_decide]
      omega
  show Clk.mk 0 0 0 0 0 false false fi false (false || (!fi && (!false && decide (K.passed (0 + (k * K.rnd fi + j)) (K.rnd fi) [29828, 29829, 29830] > K.passed 0 (K.rnd fi) [29828, 29829, 29830])))) ((0 + (k * K.rnd fi + j)) % K.rnd fi) 0 ((be + K.passed (0 + (k * K.rnd fi + j)) (K.rnd fi) [7457, 14913, 22371, K.lastB fi] - K.passed 0 (K.rnd fi) [7457, 14913, 22371, K.lastB fi]) % 64) = _
  rw [e1, e2, e3]
  rfl
/-- The sequencer's beginning behind a write. -/
theorem begun {fi : Bool} {w : Int} (hw : w = 3 ∨ w = 4) {k j : Int} (k0 : 0 ≤ k) (j0 : 0 ≤ j) (j1 : j < K.rnd fi) :
    K.adv { K.zero with fi := fi, wa := w } (w + (k * K.rnd fi + j)) = { K.seq0 fi 0 with fr := !fi && decide (k ≥ 1 ∨ j ≥ 29828), pl := j, be := ((bif fi then 1 else 0) + 4 * k + K.marks j (K.lastB fi)) % 64 } := by
  have hR : 0 < K.rnd fi := by cases fi <;> decide
  have n0 : 0 ≤ k * K.rnd fi := Int.mul_nonneg k0 (by omega)
  have hv : K.okv { K.zero with fi := fi, wa := w } = true := by rcases hw with rfl | rfl <;> cases fi <;> decide
  have hc : K.count { K.zero with fi := fi, wa := w } (w + (k * K.rnd fi + j)) = { K.zero with fi := fi, wa := w } := by
    unfold K.count; exact if_pos (show (0 : Int) % 2 = 0 by decide)
  have hs : K.it K.one w.toNat { K.zero with fi := fi, wa := w } = K.seq0 fi (bif fi then 1 else 0) := by
    rcases hw with rfl | rfl <;> cases fi <;> rfl
  rw [adv_mixed hv (by omega), hc, show (w + (k * K.rnd fi + j)).toNat = w.toNat + (k * K.rnd fi + j).toNat by omega, it_add, hs, rounds (by cases fi <;> decide) (by cases fi <;> decide) k0 j0 j1]
  rfl
end Go.Proofs.YthndmfgmlbdekaaDoor.Ev
