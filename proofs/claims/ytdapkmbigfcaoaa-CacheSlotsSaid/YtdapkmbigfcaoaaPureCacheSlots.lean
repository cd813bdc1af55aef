/- For every key and every size the law CacheSlots answers true: the slot is the document's; no condition. -/
import Derived.Test.YtdapkmbigfcaoaaPCacheSlotsx1
namespace Go.Proofs.Ytdapkmbigfcaoaa.Pure
open Go.RowKit Go.Proofs.Ytdapkmbigfcaoaa.PCacheSlots Go.Proofs.YtdapkmbigfcaoaaW.PrintWords Go.Proofs.YtdapkmbigfcaoaaW.PrintLast Go.Proofs.YtdapkmbigfcaoaaW.PrintMore
set_option linter.unusedVariables false
open Go
theorem mask16 (x : Int) : bits .and .i64 x 65535 = x % 65536 := by
  have hb : (BitVec.ofInt 64 65535).toNat = 65535 := by decide +kernel
  have ha : (BitVec.ofInt 64 x).toNat = (x % 18446744073709551616).toNat := by
    have e : ((2 ^ 64 : Nat) : Int) = 18446744073709551616 := by decide +kernel
    rw [BitVec.toNat_ofInt, e]
  have h : ((BitVec.ofInt 64 x) &&& (BitVec.ofInt 64 65535)).toNat = (x % 65536).toNat := by
    rw [BitVec.toNat_and, hb, ha, show (65535 : Nat) = 2 ^ 16 - 1 from rfl, Nat.and_two_pow_sub_one_eq_mod]
    omega
  unfold bits
  show IntKind.i64.wrap ((((BitVec.ofInt 64 x) &&& (BitVec.ofInt 64 65535)).toNat : Nat) : Int) = _
  rw [h, IntKind.wrap_i64]; omega
theorem rest16 (x : Int) : (if Int.tmod x 65536 < 0 then Int.tmod x 65536 + 65536 else Int.tmod x 65536) = x % 65536 := by
  by_cases h : 0 ≤ x
  · rw [Int.tmod_eq_emod_of_nonneg h, if_neg (by omega)]
  · obtain ⟨y, rfl⟩ : ∃ y, x = -y := ⟨-x, by omega⟩
    rw [Int.neg_tmod, Int.tmod_eq_emod_of_nonneg (show 0 ≤ y by omega)]
    split <;> omega
theorem pure (pc tag size : Int) : tandemlaw14_CacheSlots.f pc tag size = some true := by
  have hs : tandemref14_Slot.f pc tag size = cache_Slot.f pc tag size := by
    unfold tandemref14_Slot.f cache_Slot.f
    have h := rest16 tag
    rw [mask16]
    by_cases h1 : size < 1
    · rw [if_pos h1, if_pos h1]
    · rw [if_neg h1, if_neg h1, if_neg (show ¬ size = 0 by omega)]
      by_cases g : Int.tmod tag 65536 < 0
      · rw [if_pos g] at h ⊢
        rw [h, show wrap64 (tag % 65536) = tag % 65536 by unfold wrap64; omega, if_neg (show ¬ size = 0 by omega)]
      · rw [if_neg g] at h ⊢; rw [h]
  have he : ∃ r, cache_Slot.f pc tag size = some r := by
    unfold cache_Slot.f
    by_cases h1 : size < 1
    · exact ⟨_, by rw [if_pos h1]⟩
    · exact ⟨_, by rw [if_neg h1, if_neg (show ¬ size = 0 by omega)]⟩
  obtain ⟨r, hr⟩ := he
  unfold tandemlaw14_CacheSlots.f
  rw [hs, hr]
  simp only [Option.bind_some, beq_self_eq_true]
theorem CacheSlots (pc tag size : Int) (w : World) (_ : (Lit.int .u16 pc).wf = true) (_ : (Lit.int .i64 tag).wf = true) (_ : (Lit.int .i64 size).wf = true) :
    Calls Try.prog 3 #[.agg #[.int .u16 pc, .int .i64 tag], .int .i64 size] w fun e w' => e = .returned (.bool true) ∧ Below w.heap.size w w' :=
  tandemlaw14_CacheSlots.calls pc tag size true w (pure pc tag size)

end Go.Proofs.Ytdapkmbigfcaoaa.Pure
