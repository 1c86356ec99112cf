/- What op's bare and own answer of an operation that lies in memory. Conditions: its lists are read where it tells. -/
import Derived.Test.YtaaaeonalomcgaaUHOwn
import Derived.Test.YtaaaeonalomcgaaUQ1
import Derived.Test.YtaaaeonalomcgaaUQ2
import Derived.Test.YtaaaeonalomcgaaUQ5
set_option linter.unusedVariables false
set_option linter.unusedSimpArgs false
namespace Go.Proofs.Ytaaaeonalomcgaa.Q
open Go.RowKit Go.Proofs.YtaaaeonalomcgaaW.PrintWords Go.Proofs.YtaaaeonalomcgaaW.PrintLast Go.Proofs.YtaaaeonalomcgaaW.PrintMore Sp
attribute [local go_sem high] eqA23 eqA26
def bareB (k : Int) (val : ByteArray) (n0 n1 r0 r1 : Int) (nd : Nat) : Bool :=
  (decide (k = 0 ∨ k = 2 ∨ k = 4) || val.toList.isEmpty) && (decide (k = 1) || (n0 == 0 && n1 == 0)) && (decide (k = 4 ∨ k = 5) || (r0 == 0 && r1 == 0)) && (decide (k = 3) || ((nd : Int) == 0))
section
variable {o : Nat} {w : World} {d0 d1 t k n0 n1 r0 r1 : Int} {A : Value} {ty id fl val : ByteArray} {A13 : Option Addr} {c13 nd : Nat}
set_option maxRecDepth 100000 in
set_option maxHeartbeats 4000000 in
theorem bare_any (hO : IsOp w o d0 d1 t A k ty id fl val n0 n1 r0 r1 (.slice A13 nd c13)) :
    Calls Try.prog 25 #[.pointer (some ⟨o, 0, none⟩)] w fun e w' => e = .returned (.bool (bareB k val n0 n1 r0 r1 nd)) ∧ Drawn0 w w' := by
  have h4 := (blk_cell hO 4).trans rfl
  have h8 := (blk_cell hO 8).trans rfl
  have h9 := (blk_cell hO 9).trans rfl
  have h10 := (blk_cell hO 10).trans rfl
  have h11 := (blk_cell hO 11).trans rfl
  have h12 := (blk_cell hO 12).trans rfl
  have h13 := (blk_cell hO 13).trans rfl
  have hu23 := Try.underlying23
  have hu26 := Try.underlying26
  clear hO
  by_cases k0 : k = 0
  · subst k0
    go_enter Try.func25, Try.ntmps25
    go_wp2
    all_goals (go_ret; (try clear h4 h8 h9 h10 h11 h12 h13 hu23 hu26); exact ⟨by first | rfl | (simp [bareB, *]; done) | (simp [bareB, *]; omega), by repeat (first | exact Drawn0.refl _ | apply Drawn0.step)⟩)
  · have b0 := beq_eq_false_iff_ne.2 k0
    by_cases k1 : k = 1
    · subst k1
      go_enter Try.func25, Try.ntmps25
      go_wp2
      all_goals (go_ret; (try clear h4 h8 h9 h10 h11 h12 h13 hu23 hu26); exact ⟨by first | rfl | (simp [bareB, *]; done) | (simp [bareB, *]; omega), by repeat (first | exact Drawn0.refl _ | apply Drawn0.step)⟩)
    · have b1 := beq_eq_false_iff_ne.2 k1
      by_cases k2 : k = 2
      · subst k2
        go_enter Try.func25, Try.ntmps25
        go_wp2
        all_goals (go_ret; (try clear h4 h8 h9 h10 h11 h12 h13 hu23 hu26); exact ⟨by first | rfl | (simp [bareB, *]; done) | (simp [bareB, *]; omega), by repeat (first | exact Drawn0.refl _ | apply Drawn0.step)⟩)
      · have b2 := beq_eq_false_iff_ne.2 k2
        by_cases k3 : k = 3
        · subst k3
          go_enter Try.func25, Try.ntmps25
          go_wp2
          all_goals (go_ret; (try clear h4 h8 h9 h10 h11 h12 h13 hu23 hu26); exact ⟨by first | rfl | (simp [bareB, *]; done) | (simp [bareB, *]; omega), by repeat (first | exact Drawn0.refl _ | apply Drawn0.step)⟩)
        · have b3 := beq_eq_false_iff_ne.2 k3
          by_cases k4 : k = 4
          · subst k4
            go_enter Try.func25, Try.ntmps25
            go_wp2
            all_goals (go_ret; (try clear h4 h8 h9 h10 h11 h12 h13 hu23 hu26); exact ⟨by first | rfl | (simp [bareB, *]; done) | (simp [bareB, *]; omega), by repeat (first | exact Drawn0.refl _ | apply Drawn0.step)⟩)
          · have b4 := beq_eq_false_iff_ne.2 k4
            by_cases k5 : k = 5
            · subst k5
              go_enter Try.func25, Try.ntmps25
              go_wp2
              all_goals (go_ret; (try clear h4 h8 h9 h10 h11 h12 h13 hu23 hu26); exact ⟨by first | rfl | (simp [bareB, *]; done) | (simp [bareB, *]; omega), by repeat (first | exact Drawn0.refl _ | apply Drawn0.step)⟩)
            · have b5 := beq_eq_false_iff_ne.2 k5
              have e0 : bareB k val n0 n1 r0 r1 nd = (val.toList.isEmpty && (n0 == 0 && n1 == 0) && (r0 == 0 && r1 == 0) && ((nd : Int) == 0)) := by simp [bareB, k0, k1, k2, k3, k4, k5]
              have E0 := Aside0.mk e0; clear e0 k0 k1 k2 k3 k4 k5
              go_enter Try.func25, Try.ntmps25
              go_wp2
              all_goals (go_ret; (try clear h4 h8 h9 h10 h11 h12 h13 hu23 hu26); exact ⟨by rw [E0.out]; first | rfl | (simp [*]; done) | (simp [*]; omega), by repeat (first | exact Drawn0.refl _ | apply Drawn0.step)⟩)
end
end Go.Proofs.Ytaaaeonalomcgaa.Q
