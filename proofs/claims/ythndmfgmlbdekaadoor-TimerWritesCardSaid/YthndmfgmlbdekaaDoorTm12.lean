/- Write, the program's and the document's. -/
import Derived.Test.YthndmfgmlbdekaaDoorTm11
import Derived.Laws.BitsAllLaws
import Derived.Laws.Bits128
import Derived.Laws.BitsAll
namespace Go.Proofs.YthndmfgmlbdekaaDoor.Ev
open Go Go.RowKit
set_option linter.unusedVariables false
set_option linter.unusedSimpArgs false
set_option linter.constructorNameAsVariable false
namespace K
def write (c : Clk) (a v n : Int) : Clk :=
  if valid c = false then c else
  if a = 16407 then { c with fi := decide (v ≥ 128), inh := decide (v / 64 % 2 = 1), fr := c.fr && !decide (v / 64 % 2 = 1), wa := if n % 2 = 1 then 4 else 3 } else
  if a = 16408 then { c with la := c.la / 256 * 256 + v } else
  if a = 16409 then { c with la := c.la % 256 + v * 256 } else
  if a = 16410 then { c with ct := v % 32, pr := 0, co := if v ≥ 128 then c.la else c.co } else
  if a = 16411 then { c with fl := false, ov := false } else c
end K
theorem b128 {p : Int} (h0 : 0 ≤ p) (h1 : p < 256) : (bits .and .u8 p 128 != 0) = decide (p ≥ 128) := by256 (P := fun p => (bits .and .u8 p 128 != 0) = decide (p ≥ 128)) (by decide +kernel) h0 h1
theorem b64 {p : Int} (h0 : 0 ≤ p) (h1 : p < 256) : (bits .and .u8 p 64 != 0) = decide (p / 64 % 2 = 1) := by256 (P := fun p => (bits .and .u8 p 64 != 0) = decide (p / 64 % 2 = 1)) (by decide +kernel) h0 h1
theorem b31 {p : Int} (h0 : 0 ≤ p) (h1 : p < 256) : bits .and .u8 p 31 = p % 32 := by256 (P := fun p => bits .and .u8 p 31 = p % 32) (by decide +kernel) h0 h1
theorem bone64 (n : Int) : bits .and .i64 n 1 = n % 2 := by
  have h127 : (BitVec.ofInt 64 1).toNat = 2 ^ 1 - 1 := by decide
  have key : (BitVec.ofInt 64 n &&& BitVec.ofInt 64 1).toNat = (n % ((2 ^ 64 : Nat) : Int)).toNat % 2 ^ 1 := by
    rw [BitVec.toNat_and, BitVec.toNat_ofInt, h127, Nat.and_two_pow_sub_one_eq_mod]
  show IntKind.i64.wrap ((BitVec.ofInt 64 n &&& BitVec.ofInt 64 1).toNat : Nat) = n % 2
  rw [key, IntKind.wrap_i64]
  omega
theorem blow8 {x y : Int} (x0 : 0 ≤ x) (x1 : x < 65536) (y0 : 0 ≤ y) (y1 : y < 256) : bits .or .u16 (bits .and .u16 x 65280) y = x / 256 * 256 + y := by go_bits2
theorem bhigh8 {x y : Int} (x0 : 0 ≤ x) (x1 : x < 65536) (y0 : 0 ≤ y) (y1 : y < 256) : bits .or .u16 (bits .and .u16 x 255) (y * 256) = x % 256 + y * 256 := by go_bits2
/-- Of a clock, an address, a byte and a number. -/
def t4 (t : Clk → Int → Int → Int → Bool) (g : Clk → Int → Int → Int → V) : List V → Tree V
  | [.v (.agg xs), .v (.l y), .v (.l z), .v (.l u)] => match clkL xs, intOf? .u16 y, intOf? .u8 z, intOf? .i64 u with | some c, some a, some v, some n => gdT (t c a v n) (.leaf (g c a v n)) | _, _, _, _ => .bad
  | _ => .bad
theorem FnOk.t4 {C : Ctx} (gd : Good C) (hn : C.gs.Nodup) {f : FuncId} {fn : Func} (hf : C.P.funcs[f]? = some fn) {t : Clk → Int → Int → Int → Bool} {g : Clk → Int → Int → Int → V} (hv : ∀ c a v n ρ ρ', (g c a v n).den ρ = (g c a v n).den ρ')
    (k : Nat) {keep : Nat → Option (List Nat)} (hk : KeepOk keep) (H : ∀ c a v n, t c a v n = true → ∃ v', (vals (evFn C k keep fn C.H0 C.gs.length [clkV c, vint .u16 (.sym a), vint .u8 (.sym v), vint .i64 (.sym n)])).get = some v' ∧ ∀ ρ, v'.den ρ = (g c a v n).den ρ) : FnOk C f (Ev.onT (Ev.t4 t g)) := by
  refine FnOk.onT gd hn hf fun cs v h => ?_
  unfold Ev.t4 at h
  split at h
  · split at h
    · rename_i c a b n hc ha hb hn'
      obtain ⟨h1, h2⟩ := gdT_get h
      cases h2
      rw [clkL_eq hc, intOf?_eq ha, intOf?_eq hb, intOf?_eq hn']
      obtain ⟨v', h3, h4⟩ := H c a b n h1
      exact ⟨fun _ _ => rfl, hv c a b n, k, keep, v', hk, h3, h4⟩
    · cases h
  · cases h
def okW (c : Clk) (a v n : Int) : Bool := K.okC c && isB v
theorem ev17 (c : Clk) (a v n : Int) : vals (evFn (Cb.with sp8) 1 (fun _ => none) Tryd.f17 Cb.H0 3 [clkV c, vint .u16 (.sym a), vint .u8 (.sym v), vint .i64 (.sym n)]) =
  Tree.node (K.okC c) (Tree.node (!K.valid c) (Tree.leaf (V.v (V0.agg [L.int IntKind.u16 (I.sym c.1), L.int IntKind.u16 (I.sym c.2), L.int IntKind.u16 (I.sym c.3), L.int IntKind.u8 (I.sym c.4), L.int IntKind.u8 (I.sym c.5), L.bool (B.sym c.6), L.bool (B.sym c.7), L.bool (B.sym c.8), L.bool (B.sym c.9), L.bool (B.sym c.10), L.int IntKind.u16 (I.sym c.11), L.int IntKind.u8 (I.sym c.12), L.int IntKind.u8 (I.sym c.13)]))) (Tree.leaf (V.v (V0.agg [L.int IntKind.u16 (I.sym (bif a == 16407 then c.1 else bif a == 16408 then bits BinOp.or IntKind.u16 (bits BinOp.and IntKind.u16 c.1 65280) (IntKind.wrap IntKind.u16 v) else bif a == 16409 then bits BinOp.or IntKind.u16 (bits BinOp.and IntKind.u16 c.1 255) (IntKind.wrap IntKind.u16 (IntKind.wrap IntKind.u16 v * 256)) else c.1)), L.int IntKind.u16 (I.sym (bif a == 16407 then c.2 else bif a == 16408 then c.2 else bif a == 16409 then c.2 else bif a == 16410 then bif bits BinOp.and IntKind.u8 v 128 != 0 then c.1 else c.2 else c.2)), L.int IntKind.u16 (I.sym (bif a == 16407 then c.3 else bif a == 16408 then c.3 else bif a == 16409 then c.3 else bif a == 16410 then 0 else c.3)), L.int IntKind.u8 (I.sym c.4), L.int IntKind.u8 (I.sym (bif a == 16407 then c.5 else bif a == 16408 then c.5 else bif a == 16409 then c.5 else bif a == 16410 then bits BinOp.and IntKind.u8 v 31 else c.5)), L.bool (B.sym (bif a == 16407 then c.6 else bif a == 16408 then c.6 else bif a == 16409 then c.6 else bif a == 16410 then c.6 else bif a == 16411 then false else c.6)), L.bool (B.sym (bif a == 16407 then c.7 else bif a == 16408 then c.7 else bif a == 16409 then c.7 else bif a == 16410 then c.7 else bif a == 16411 then false else c.7)), L.bool (B.sym (bif a == 16407 then bits BinOp.and IntKind.u8 v 128 != 0 else c.8)), L.bool (B.sym (bif a == 16407 then bits BinOp.and IntKind.u8 v 64 != 0 else c.9)), L.bool (B.sym (bif a == 16407 then bif c.10 then !bits BinOp.and IntKind.u8 v 64 != 0 else false else c.10)), L.int IntKind.u16 (I.sym c.11), L.int IntKind.u8 (I.sym (bif a == 16407 then IntKind.wrap IntKind.u8 (3 + IntKind.wrap IntKind.u8 (bits BinOp.and IntKind.i64 n 1)) else c.12)), L.int IntKind.u8 (I.sym c.13)])))) Tree.bad := by kernel_rfl
theorem ev18 (c : Clk) (a v n : Int) : vals (evFn (Cb.with sp8) 1 (fun _ => none) Tryd.f18 Cb.H0 3 [clkV c, vint .u16 (.sym a), vint .u8 (.sym v), vint .i64 (.sym n)]) =
  Tree.node (K.okC c) (Tree.node (!K.valid c) (Tree.leaf (V.v (V0.agg [L.int IntKind.u16 (I.sym c.1), L.int IntKind.u16 (I.sym c.2), L.int IntKind.u16 (I.sym c.3), L.int IntKind.u8 (I.sym c.4), L.int IntKind.u8 (I.sym c.5), L.bool (B.sym c.6), L.bool (B.sym c.7), L.bool (B.sym c.8), L.bool (B.sym c.9), L.bool (B.sym c.10), L.int IntKind.u16 (I.sym c.11), L.int IntKind.u8 (I.sym c.12), L.int IntKind.u8 (I.sym c.13)]))) (Tree.leaf (V.v (V0.agg [L.int IntKind.u16 (I.sym (bif a == 16407 then c.1 else bif a == 16408 then IntKind.wrap IntKind.u16 (IntKind.wrap IntKind.u16 (IntKind.wrap IntKind.u16 (Int.tdiv c.1 256) * 256) + IntKind.wrap IntKind.u16 v) else bif a == 16409 then IntKind.wrap IntKind.u16 (Int.tmod c.1 256 + IntKind.wrap IntKind.u16 (256 * IntKind.wrap IntKind.u16 v)) else c.1)), L.int IntKind.u16 (I.sym (bif a == 16407 then c.2 else bif a == 16408 then c.2 else bif a == 16409 then c.2 else bif a == 16410 then bif decide (v ≥ 128) then c.1 else c.2 else c.2)), L.int IntKind.u16 (I.sym (bif a == 16407 then c.3 else bif a == 16408 then c.3 else bif a == 16409 then c.3 else bif a == 16410 then 0 else c.3)), L.int IntKind.u8 (I.sym c.4), L.int IntKind.u8 (I.sym (bif a == 16407 then c.5 else bif a == 16408 then c.5 else bif a == 16409 then c.5 else bif a == 16410 then Int.tmod v 32 else c.5)), L.bool (B.sym (bif a == 16407 then c.6 else bif a == 16408 then c.6 else bif a == 16409 then c.6 else bif a == 16410 then c.6 else bif a == 16411 then false else c.6)), L.bool (B.sym (bif a == 16407 then c.7 else bif a == 16408 then c.7 else bif a == 16409 then c.7 else bif a == 16410 then c.7 else bif a == 16411 then false else c.7)), L.bool (B.sym (bif a == 16407 then decide (v ≥ 128) else c.8)), L.bool (B.sym (bif a == 16407 then Int.tmod (IntKind.wrap IntKind.u8 (Int.tdiv v 64)) 2 == 1 else c.9)), L.bool (B.sym (bif a == 16407 then bif Int.tmod (IntKind.wrap IntKind.u8 (Int.tdiv v 64)) 2 == 1 then false else c.10 else c.10)), L.int IntKind.u16 (I.sym c.11), L.int IntKind.u8 (I.sym (bif a == 16407 then bif bits BinOp.and IntKind.i64 n 1 == 1 then 4 else 3 else c.12)), L.int IntKind.u8 (I.sym c.13)])))) Tree.bad := by kernel_rfl
theorem ne_beq {a b : Int} (h : ¬ a = b) : (a == b) = false := by simpa using h
theorem ok17 : FnOk (Cb.with sp8) 17 (onT (t4 okW fun c a v n => clkV (K.write c a v n))) := FnOk.t4 good8 gsNodup Tryd.func17 (fun _ _ _ _ _ _ => rfl) 1 keep_none fun c a v n hc => by
  unfold okW at hc
  rw [Bool.and_eq_true] at hc
  obtain ⟨hC, hv⟩ := hc
  unfold isB at hv
  rw [decide_eq_true_eq] at hv
  have h := okC_iff.1 hC
  show ∃ v', (vals (evFn (Cb.with sp8) 1 (fun _ => none) Tryd.f17 Cb.H0 3 [clkV c, vint .u16 (.sym a), vint .u8 (.sym v), vint .i64 (.sym n)])).get = some v' ∧ _
  rw [ev17, hC]
  unfold K.write
  cases hval : K.valid c with
  | false => exact ⟨_, rfl, fun _ => rfl⟩
  | true =>
    refine ⟨_, rfl, fun ρ => ?_⟩
    rw [if_neg (by simp)]
    rw [b128 hv.1 hv.2, b64 hv.1 hv.2, b31 hv.1 hv.2, bone64, wu16 (x := v) (by omega) (by omega), wu16 (x := v * 256) (by omega) (by omega), blow8 (by omega) (by omega) hv.1 hv.2, bhigh8 (by omega) (by omega) hv.1 hv.2]
    by_cases c1 : a = 16407
    · subst c1
      rw [if_pos rfl]
      have e : IntKind.u8.wrap (3 + IntKind.u8.wrap (n % 2)) = if n % 2 = 1 then 4 else 3 := by
        rw [wu8 (x := n % 2) (by omega) (by omega), wu8 (by omega) (by omega)]
        split <;> omega
      rw [e]
      have e2 : ∀ x y : Bool, (bif x then !y else false) = (x && !y) := by decide
      simp only [e2]
      rfl
    rw [if_neg c1, ne_beq c1]
    by_cases c2 : a = 16408
    · subst c2; rw [if_pos rfl]; rfl
    rw [if_neg c2, ne_beq c2]
    by_cases c3 : a = 16409
    · subst c3; rw [if_pos rfl]; rfl
    rw [if_neg c3, ne_beq c3]
    by_cases c4 : a = 16410
    · subst c4; rw [if_pos rfl]
      simp only [bif_ite]
      rfl
    rw [if_neg c4, ne_beq c4]
    by_cases c5 : a = 16411
    · subst c5; rw [if_pos rfl]; rfl
    rw [if_neg c5, ne_beq c5]
    rfl
theorem ok18 : FnOk (Cb.with sp8) 18 (onT (t4 okW fun c a v n => clkV (K.write c a v n))) := FnOk.t4 good8 gsNodup Tryd.func18 (fun _ _ _ _ _ _ => rfl) 1 keep_none fun c a v n hc => by
  unfold okW at hc
  rw [Bool.and_eq_true] at hc
  obtain ⟨hC, hv⟩ := hc
  unfold isB at hv
  rw [decide_eq_true_eq] at hv
  have h := okC_iff.1 hC
  show ∃ v', (vals (evFn (Cb.with sp8) 1 (fun _ => none) Tryd.f18 Cb.H0 3 [clkV c, vint .u16 (.sym a), vint .u8 (.sym v), vint .i64 (.sym n)])).get = some v' ∧ _
  rw [ev18, hC]
  unfold K.write
  cases hval : K.valid c with
  | false => exact ⟨_, rfl, fun _ => rfl⟩
  | true =>
    refine ⟨_, rfl, fun ρ => ?_⟩
    rw [if_neg (by simp)]
    rw [bone64, wu16 (x := v) (by omega) (by omega), Int.tdiv_eq_ediv_of_nonneg (a := c.la) (by omega), Int.tmod_eq_emod_of_nonneg (a := c.la) (by omega), Int.tmod_eq_emod_of_nonneg (a := v) (by omega), Int.tdiv_eq_ediv_of_nonneg (a := v) (by omega), wu8 (x := v / 64) (by omega) (by omega), Int.tmod_eq_emod_of_nonneg (a := v / 64) (by omega), wu16 (x := c.la / 256) (by omega) (by omega), wu16 (x := c.la / 256 * 256) (by omega) (by omega), wu16 (x := c.la / 256 * 256 + v) (by omega) (by omega), wu16 (x := 256 * v) (by omega) (by omega), wu16 (x := c.la % 256 + 256 * v) (by omega) (by omega), Int.mul_comm 256 v]
    simp only [beq_true_iff (a := v / 64 % 2), beq_true_iff (a := n % 2)]
    by_cases c1 : a = 16407
    · subst c1
      rw [if_pos rfl]
      have e2 : ∀ x y : Bool, (bif x then false else y) = (y && !x) := by decide
      simp only [e2, bif_ite]
      rfl
    rw [if_neg c1, ne_beq c1]
    by_cases c2 : a = 16408
    · subst c2; rw [if_pos rfl]; rfl
    rw [if_neg c2, ne_beq c2]
    by_cases c3 : a = 16409
    · subst c3; rw [if_pos rfl]; rfl
    rw [if_neg c3, ne_beq c3]
    by_cases c4 : a = 16410
    · subst c4; rw [if_pos rfl]
      simp only [bif_ite]
      rfl
    rw [if_neg c4, ne_beq c4]
    by_cases c5 : a = 16411
    · subst c5; rw [if_pos rfl]; rfl
    rw [if_neg c5, ne_beq c5]
    rfl
noncomputable def sp9 : List (Nat × Spec) := (18, onT (t4 okW fun c a v n => clkV (K.write c a v n))) :: (17, onT (t4 okW fun c a v n => clkV (K.write c a v n))) :: sp8
theorem good9 : Good (Cb.with sp9) := (good8.cons Tryd.func17 (by kernel_rfl) (by kernel_rfl) ok17).cons Tryd.func18 (by kernel_rfl) (by kernel_rfl) ok18
end Go.Proofs.YthndmfgmlbdekaaDoor.Ev
