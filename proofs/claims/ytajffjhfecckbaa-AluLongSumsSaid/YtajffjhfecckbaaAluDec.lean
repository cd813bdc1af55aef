/- Plain laws of decimal addition and subtraction of a byte's two digits; no program is in sight. -/
import Derived.Test.YtajffjhfecckbaaAluBits
namespace Go.Proofs.Ytajffjhfecckbaa.AB
open Go Go.RowKit
/-! ### decimal digits -/
def dAdd (x y c : Int) : Int := x / 10 * 16 + y / 10 * 16 + (if x % 10 + y % 10 + c > 9 then (x % 10 + y % 10 + c + 6) % 16 + 16 else x % 10 + y % 10 + c)
def dSub (x y c : Int) : Int := x / 10 * 16 - y / 10 * 16 + (if x % 10 - y % 10 - (1 - c) < 0 then (x % 10 - y % 10 - (1 - c) - 6) % 16 - 16 else x % 10 - y % 10 - (1 - c))
theorem by100 {P : Int → Int → Int → Prop} (h : ∀ x : Nat, x < 100 → ∀ y : Nat, y < 100 → ∀ c : Nat, c < 2 → P (x : Int) (y : Int) (c : Int)) {x y c : Int} (x0 : 0 ≤ x) (x1 : x < 100) (y0 : 0 ≤ y) (y1 : y < 100) (c0 : 0 ≤ c) (c1 : c < 2) : P x y c := by
  obtain ⟨x, rfl⟩ := Int.eq_ofNat_of_zero_le x0
  obtain ⟨y, rfl⟩ := Int.eq_ofNat_of_zero_le y0
  obtain ⟨c, rfl⟩ := Int.eq_ofNat_of_zero_le c0
  exact h x (by omega) y (by omega) c (by omega)
theorem dAdd_ok {x y c : Int} (x0 : 0 ≤ x) (x1 : x < 100) (y0 : 0 ≤ y) (y1 : y < 100) (c0 : 0 ≤ c) (c1 : c < 2) :
    (if dAdd x y c ≥ 160 then (dAdd x y c + 96) % 256 else dAdd x y c % 256) = 16 * ((x + y + c) % 100 / 10) + (x + y + c) % 100 % 10 ∧ (dAdd x y c ≥ 160 ↔ x + y + c ≥ 100) :=
  by100 (P := fun x y c => (if dAdd x y c ≥ 160 then (dAdd x y c + 96) % 256 else dAdd x y c % 256) = 16 * ((x + y + c) % 100 / 10) + (x + y + c) % 100 % 10 ∧ (dAdd x y c ≥ 160 ↔ x + y + c ≥ 100)) (by decide +kernel) x0 x1 y0 y1 c0 c1
theorem dSub_ok {x y c : Int} (x0 : 0 ≤ x) (x1 : x < 100) (y0 : 0 ≤ y) (y1 : y < 100) (c0 : 0 ≤ c) (c1 : c < 2) :
    (if dSub x y c < 0 then (dSub x y c - 96) % 256 else dSub x y c % 256) = 16 * ((x - y - 1 + c + 100) % 100 / 10) + (x - y - 1 + c + 100) % 100 % 10 ∧ (16 * (x / 10) + x % 10 - (16 * (y / 10) + y % 10) - (1 - c) ≥ 0 ↔ x - y - 1 + c ≥ 0) :=
  by100 (P := fun x y c => (if dSub x y c < 0 then (dSub x y c - 96) % 256 else dSub x y c % 256) = 16 * ((x - y - 1 + c + 100) % 100 / 10) + (x - y - 1 + c + 100) % 100 % 10 ∧ (16 * (x / 10) + x % 10 - (16 * (y / 10) + y % 10) - (1 - c) ≥ 0 ↔ x - y - 1 + c ≥ 0)) (by decide +kernel) x0 x1 y0 y1 c0 c1
theorem decAdds {x y q : Int} (x0 : 0 ≤ x) (x1 : x < 100) (y0 : 0 ≤ y) (y1 : y < 100) (hq : q / 8 % 2 = 1) :
    adcR (16 * (x / 10) + x % 10) (16 * (y / 10) + y % 10) q = 16 * ((x + y + q % 2) % 100 / 10) + (x + y + q % 2) % 100 % 10 ∧
    adcP (16 * (x / 10) + x % 10) (16 * (y / 10) + y % 10) q % 2 = (if x + y + q % 2 ≥ 100 then 1 else 0) ∧
    adcP (16 * (x / 10) + x % 10) (16 * (y / 10) + y % 10) q / 8 % 2 = 1 := by
  have hd : ¬ q / 8 % 2 = 0 := by omega
  have eD : decA (16 * (x / 10) + x % 10) (16 * (y / 10) + y % 10) q = dAdd x y (q % 2) := by
    unfold decA lowA dAdd
    rw [show (16 * (x / 10) + x % 10) % 16 = x % 10 by omega, show (16 * (y / 10) + y % 10) % 16 = y % 10 by omega, show (16 * (x / 10) + x % 10) / 16 = x / 10 by omega, show (16 * (y / 10) + y % 10) / 16 = y / 10 by omega]
  obtain ⟨k1, k2⟩ := dAdd_ok x0 x1 y0 y1 (show 0 ≤ q % 2 by omega) (show q % 2 < 2 by omega)
  refine ⟨?_, ?_, ?_⟩
  · simp only [adcR, if_neg hd, eD]; exact k1
  · simp only [adcP, adcC, if_neg hd, eD]
    rw [mkP_c]
    by_cases h : x + y + q % 2 ≥ 100
    · rw [if_pos h, if_pos (k2.2 h)]; rfl
    · rw [if_neg h, if_neg (fun h' => h (k2.1 h'))]; rfl
  · simp only [adcP, adcC, if_neg hd]
    rw [mkP_d (it01 _).1 (it01 _).2 (it01 _).1 (it01 _).2]; exact hq
theorem decTakes {x y q : Int} (x0 : 0 ≤ x) (x1 : x < 100) (y0 : 0 ≤ y) (y1 : y < 100) (hq : q / 8 % 2 = 1) :
    sbcR (16 * (x / 10) + x % 10) (16 * (y / 10) + y % 10) q = 16 * ((x - y - 1 + q % 2 + 100) % 100 / 10) + (x - y - 1 + q % 2 + 100) % 100 % 10 ∧
    sbcP (16 * (x / 10) + x % 10) (16 * (y / 10) + y % 10) q % 2 = (if x - y - 1 + q % 2 ≥ 0 then 1 else 0) ∧
    sbcP (16 * (x / 10) + x % 10) (16 * (y / 10) + y % 10) q / 8 % 2 = 1 := by
  have hd : ¬ q / 8 % 2 = 0 := by omega
  have eD : decB (16 * (x / 10) + x % 10) (16 * (y / 10) + y % 10) q = dSub x y (q % 2) := by
    unfold decB lowS dSub
    rw [show (16 * (x / 10) + x % 10) % 16 = x % 10 by omega, show (16 * (y / 10) + y % 10) % 16 = y % 10 by omega, show (16 * (x / 10) + x % 10) / 16 = x / 10 by omega, show (16 * (y / 10) + y % 10) / 16 = y / 10 by omega]
  obtain ⟨k1, k2⟩ := dSub_ok x0 x1 y0 y1 (show 0 ≤ q % 2 by omega) (show q % 2 < 2 by omega)
  refine ⟨?_, ?_, ?_⟩
  · simp only [sbcR, if_neg hd, eD]; exact k1
  · simp only [sbcP]
    rw [mkP_c]; unfold dif
    by_cases h : x - y - 1 + q % 2 ≥ 0
    · rw [if_pos h, if_pos (k2.2 h)]; rfl
    · rw [if_neg h, if_neg (fun h' => h (k2.1 h'))]; rfl
  · simp only [sbcP]
    rw [mkP_d (it01 _).1 (it01 _).2 (it01 _).1 (it01 _).2]; exact hq
end Go.Proofs.Ytajffjhfecckbaa.AB
