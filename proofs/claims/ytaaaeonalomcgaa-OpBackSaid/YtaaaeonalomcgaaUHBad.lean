/- Operations that may not be: one part that may not be is enough. No condition. -/
import Derived.Test.YtaaaeonalomcgaaUHOne
set_option linter.unusedVariables false
set_option linter.unusedSimpArgs false
namespace Go.Proofs.Ytaaaeonalomcgaa.Q
open Go.RowKit Go.Proofs.YtaaaeonalomcgaaW.PrintWords Go.Proofs.YtaaaeonalomcgaaW.PrintLast Go.Proofs.YtaaaeonalomcgaaW.PrintMore Sp
section
variable {d0 d1 t : Int} {deps : List Int} {k : Int} {ty id_ fl val : ByteArray} {n0 n1 r0 r1 : Int} {ds : List S23} {n : Int}
theorem bad_dot (h : dotMayB d0 d1 n = false) : mayB d0 d1 t deps k ty id_ fl val n0 n1 r0 r1 ds n = false := by unfold mayB; simp [h]
theorem bad_time (h : timeB t = false) : mayB d0 d1 t deps k ty id_ fl val n0 n1 r0 r1 ds n = false := by unfold mayB; simp [h]
theorem bad_vec (h : vecMayB deps n = false) : mayB d0 d1 t deps k ty id_ fl val n0 n1 r0 r1 ds n = false := by unfold mayB; simp [h]
theorem bad_rd (h : (rd deps d0 == d1 - 1) = false) : mayB d0 d1 t deps k ty id_ fl val n0 n1 r0 r1 ds n = false := by unfold mayB; rw [h]; simp
theorem bad_ty (h : nameB ty = false) : mayB d0 d1 t deps k ty id_ fl val n0 n1 r0 r1 ds n = false := by unfold mayB; simp [h]
theorem bad_fl (h : nameB fl = false) : mayB d0 d1 t deps k ty id_ fl val n0 n1 r0 r1 ds n = false := by unfold mayB; simp [h]
theorem bad_id (h : idB id_ = false) : mayB d0 d1 t deps k ty id_ fl val n0 n1 r0 r1 ds n = false := by unfold mayB; simp [h]
theorem bad_own (h : ownB k val n0 n1 r0 r1 ds deps = false) : mayB d0 d1 t deps k ty id_ fl val n0 n1 r0 r1 ds n = false := by unfold mayB; simp [h]
theorem own_off (h : k < 0 ∨ 5 < k) : ownB k val n0 n1 r0 r1 ds deps = false := by
  unfold ownB; rw [if_neg (by omega), if_neg (by omega), if_neg (by omega), if_neg (by omega), if_neg (by omega)]
theorem own_long (h : 256 < val.size) : ownB 4 val n0 n1 r0 r1 ds deps = false := by
  unfold ownB; rw [if_neg (by omega), if_neg (by omega), if_neg (by omega), if_pos rfl, decide_eq_false (by omega)]; rfl
theorem id_long (h : 256 < id_.size) : idB id_ = false := by unfold idB; rw [decide_eq_false (by omega), Bool.and_false]
end
end Go.Proofs.Ytaaaeonalomcgaa.Q
