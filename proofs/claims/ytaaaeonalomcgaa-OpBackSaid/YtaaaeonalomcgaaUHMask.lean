/- A whole number under a mask; a whole number's rest. No condition. -/
import Derived.Laws.BitsLemmas
import Derived.Laws.Bits64
import Derived.Test.YtaaaeonalomcgaaUHVar
set_option linter.unusedVariables false
set_option linter.unusedSimpArgs false
namespace Go.Proofs.Ytaaaeonalomcgaa.Q
open Go.RowKit Go.Proofs.YtaaaeonalomcgaaW.PrintWords Go.Proofs.YtaaaeonalomcgaaW.PrintLast Go.Proofs.YtaaaeonalomcgaaW.PrintMore
theorem mask_range (a : Int) (m : Nat) (hm : m < 4611686018427387904) : 0 ≤ Go.bits .and .i64 a (m : Int) ∧ Go.bits .and .i64 a (m : Int) ≤ m := by
  have hb : BitVec.ofInt IntKind.i64.bits (m : Int) = BitVec.ofNat IntKind.i64.bits m := BitVec.ofInt_natCast _ _
  have hm' : m % 2 ^ IntKind.i64.bits = m := Nat.mod_eq_of_lt (Nat.lt_of_lt_of_le hm (by decide +kernel))
  have e : Go.bits .and .i64 a (m : Int) = IntKind.i64.wrap (((BitVec.ofInt IntKind.i64.bits a).toNat &&& m : Nat) : Int) := by
    show IntKind.i64.wrap (((BitVec.ofInt IntKind.i64.bits a &&& BitVec.ofInt IntKind.i64.bits (m : Int)).toNat : Nat) : Int) = _
    rw [hb, BitVec.toNat_and, BitVec.toNat_ofNat, hm']
  have hle : (BitVec.ofInt IntKind.i64.bits a).toNat &&& m ≤ m := Nat.and_le_right
  rw [e]
  generalize (BitVec.ofInt IntKind.i64.bits a).toNat &&& m = y at hle ⊢
  rw [IntKind.wrap_i64]
  omega
theorem mask63 (a : Int) : 0 ≤ Go.bits .and .i64 a 63 ∧ Go.bits .and .i64 a 63 ≤ 63 := mask_range a 63 (by omega)
end Go.Proofs.Ytaaaeonalomcgaa.Q
