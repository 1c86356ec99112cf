/- A whole number under a mask; a whole number's rest. No condition. -/
import Derived.Laws.BitsLemmas
import Derived.Laws.Bits64
import Derived.Test.YtaaaeonalomcgaaTHVar
set_option linter.unusedVariables false
set_option linter.unusedSimpArgs false
namespace Go.Proofs.Ytaaaeonalomcgaa.Q
open Go.RowKit Go.Proofs.YtaaaeonalomcgaaW.PrintWords Go.Proofs.YtaaaeonalomcgaaW.PrintLast Go.Proofs.YtaaaeonalomcgaaW.PrintMore
theorem mask_range (a : Int) (m : Nat) (hm : m < 4611686018427387904) : 0 ≤ Go.bits .and .i64 a (m : Int) ∧ Go.bits .and .i64 a (m : Int) ≤ m := by
  have hb : BitVec.ofInt IntKind.i64.bits (m : Int) = BitVec.ofNat IntKind.i64.bits m := BitVec.ofInt_natCast _ _
  have hm' : m % 2 ^ IntKind.i64.bits = m := Nat.mod_eq_of_lt (Nat.lt_of_lt_of_le hm (by decide +kernel))
  have e : Go.bits .and .i64 a (m : Int) = IntKind.i64.wrap (((BitVec.ofInt IntKind.i64.bits a).toNat &&& m : Nat) : Int) := by
    show IntKind.i64.wrap (((BitVec.ofInt IntKind.i64.bits a &&& BitVec.ofInt IntKind.i64.bits (m : Int)).toNat : Nat) : Int) = _
    rw [hb, BitVec.toNat_and, BitVec.toNat_ofNat, hm']
  have hle : (BitVec.ofInt IntKind.i64.bits a).toNat &&& m ≤ m := Nat.and_le_right
  rw [e]
  generalize (BitVec.ofInt IntKind.i64.bits a).toNat &&& m = y at hle ⊢
  rw [IntKind.wrap_i64]
  omega
theorem mask1023 (a : Int) : 0 ≤ Go.bits .and .i64 a 1023 ∧ Go.bits .and .i64 a 1023 ≤ 1023 := mask_range a 1023 (by omega)
theorem rest_range (a : Int) (m : Int) (h : 0 < m) (hm : m ≤ 1000) : 0 ≤ wrap64 (Int.tmod (IntKind.u64.wrap a) m) ∧ wrap64 (Int.tmod (IntKind.u64.wrap a) m) < m := by
  have e : Int.tmod (IntKind.u64.wrap a) m = (IntKind.u64.wrap a) % m := by rw [IntKind.wrap_u64]; exact tmod_of_emod _ _
  rw [e]
  have h1 := Int.emod_nonneg (IntKind.u64.wrap a) (show m ≠ 0 by omega)
  have h2 := Int.emod_lt_of_pos (IntKind.u64.wrap a) h
  rw [w64 (by omega) (by omega)]
  exact ⟨h1, h2⟩
end Go.Proofs.Ytaaaeonalomcgaa.Q
