/- Each kind is of one kind of cell, every other number of none: the plain law, by the six kinds. No condition. -/
import Derived.Test.YtaaaeonalomcgaaTQ11
import Derived.Test.YtaaaeonalomcgaaTHMask
namespace Go.Proofs.Ytaaaeonalomcgaa.Pure
open Go.RowKit Go.Proofs.Ytaaaeonalomcgaa.Q Go.Proofs.YtaaaeonalomcgaaW.PrintWords Go.Proofs.YtaaaeonalomcgaaW.PrintLast Go.Proofs.YtaaaeonalomcgaaW.PrintMore
theorem kind_off (K : Nat) (k : Int) (h : k < 0 ∨ 5 < k) (d0 d1 t : Int) (deps : List Int) (ty id fl val : ByteArray) (n0 n1 r0 r1 : Int) (ds : List S23) :
    op_Kind.f (K + 1) d0 d1 t deps k ty id fl val n0 n1 r0 r1 ds = some (-1) := by
  unfold op_Kind.f
  rw [if_neg (by omega), if_neg (by omega), if_neg (by omega)]
  have h3 : ¬ k = 3 := by omega
  simp only [op_Kind.j0, beq_eq_false_iff_ne.2 h3, Bool.false_eq_true, if_false]
  rw [if_neg (by omega), if_neg (by omega)]
theorem kind_on (m : Int) (h0 : 0 ≤ m) (h6 : m < 6) : (tattlelaw11_one.f 4 m).bind (fun bt341 => op_Kind.f 4 bt341.1 bt341.2.1 bt341.2.2.1 bt341.2.2.2.1 bt341.2.2.2.2.1 bt341.2.2.2.2.2.1 bt341.2.2.2.2.2.2.1 bt341.2.2.2.2.2.2.2.1 bt341.2.2.2.2.2.2.2.2.1 bt341.2.2.2.2.2.2.2.2.2.1 bt341.2.2.2.2.2.2.2.2.2.2.1 bt341.2.2.2.2.2.2.2.2.2.2.2.1 bt341.2.2.2.2.2.2.2.2.2.2.2.2.1 bt341.2.2.2.2.2.2.2.2.2.2.2.2.2)
    = some (rd ([0, 1, 2, 2, 3, 3] : List Int) m) := by
  obtain rfl | rfl | rfl | rfl | rfl | rfl : m = 0 ∨ m = 1 ∨ m = 2 ∨ m = 3 ∨ m = 4 ∨ m = 5 := by omega
  all_goals (rw [one_f]; rfl)
theorem OpKinds : tattlelaw11_OpKinds.Pure := by
  intro a0 a1 h0 h1
  refine ⟨4, ?_⟩
  obtain ⟨m0, m6⟩ := rest_range a0 6 (by decide) (by decide)
  obtain ⟨b0, b1⟩ := mask1023 a1
  unfold tattlelaw11_OpKinds.f tattlelaw11_awake.f
  generalize wrap64 (Int.tmod (IntKind.u64.wrap a0) 6) = m at m0 m6 ⊢
  generalize Go.bits .and .i64 a1 1023 = b at b0 b1 ⊢
  have hk := kind_on m m0 m6
  have e1 : wrap64 (1 + b) = 1 + b := w64 (by omega) (by omega)
  have e2 : wrap64 (5 + (1 + b)) = 5 + (1 + b) := w64 (by omega) (by omega)
  have e3 : wrap64 (-(1 + b)) = -(1 + b) := w64 (by omega) (by omega)
  rw [e1, e2, e3]
  cases ho : tattlelaw11_one.f 4 m with
  | none => rw [ho] at hk; simp at hk
  | some o =>
    rw [ho] at hk
    simp only [Option.bind_some] at hk ⊢
    rw [if_pos trivial, hk]
    simp only [Option.bind_some]
    rw [if_pos m0, if_pos (show m < ((([0, 1, 2, 2, 3, 3] : List Int).length : Nat) : Int) from m6), if_pos trivial]
    rw [kind_off 3 _ (by omega)]
    simp only [Option.bind_some]
    rw [if_pos trivial, kind_off 3 _ (by omega)]
    rfl
end Go.Proofs.Ytaaaeonalomcgaa.Pure
