/- What is written is read back, what is cut is refused, what is read writes itself again. No condition. -/
import Derived.Test.YtaaaeonalomcgaaUHPure
set_option linter.unusedVariables false
set_option linter.unusedSimpArgs false
namespace Go.Proofs.Ytaaaeonalomcgaa.Q
open Go.RowKit Go.Proofs.YtaaaeonalomcgaaW.PrintWords Go.Proofs.YtaaaeonalomcgaaW.PrintLast Go.Proofs.YtaaaeonalomcgaaW.PrintMore Sp
theorem may_nodesB {o : OpV} {n : Int} (h : o.may n = true) : nodesB n = true := by
  have h' : mayB _ _ _ _ _ _ _ _ _ _ _ _ _ _ n = true := h
  unfold mayB dotMayB at h'
  cases hn : nodesB n with
  | true => rfl
  | false => rw [hn] at h'; simp at h'
theorem nodes_nat {n : Int} (h : nodesB n = true) : ((n.toNat : Nat) : Int) = n := by
  have : 1 ≤ n ∧ n ≤ 16 := of_decide_eq_true h
  omega
theorem getOp_put {o : OpV} {n : Int} (h : o.may n = true) : getOp (ba o.put) n = (o, 0) := by
  have hn := may_nodesB h
  have hm : o.may ((n.toNat : Nat) : Int) = true := by rw [nodes_nat hn]; exact h
  have hr := raw_put hm []
  rw [List.append_nil] at hr
  unfold getOp
  rw [if_pos hn, bs_ba, hr, if_pos ⟨rfl, h⟩]
theorem getOp_code (s : ByteArray) (n : Int) : (getOp s n = ({}, 1100)) ∨ ((getOp s n).2 = 0 ∧ (getOp s n).1.may n = true ∧ (getOp s n).1.put = bs s) := by
  unfold getOp
  by_cases hn : nodesB n = true
  · rw [if_pos hn]
    by_cases h : (rawS n.toNat (some (bs s))).2 = some [] ∧ (rawS n.toNat (some (bs s))).1.may n = true
    · rw [if_pos h]
      have hb := raw_back h.1 (by rw [nodes_nat hn]; exact h.2)
      rw [List.append_nil] at hb
      exact .inr ⟨rfl, h.2, (Option.some.inj hb).symm⟩
    · rw [if_neg h]; exact .inl rfl
  · rw [if_neg hn]; exact .inl rfl
theorem getOp_cut {o : OpV} {n : Int} (h : o.may n = true) {c : Nat} (hc : c < o.put.length) : getOp (ba (o.put.take c)) n = ({}, 1100) := by
  rcases getOp_code (ba (o.put.take c)) n with h1 | ⟨_, hm, hp⟩
  · exact h1
  · exfalso
    have hn := may_nodesB h
    generalize (getOp (ba (o.put.take c)) n).1 = o' at hm hp
    rw [bs_ba] at hp
    have r1 := raw_put (o := o') (n := n.toNat) (by rw [nodes_nat hn]; exact hm) (o.put.drop c)
    have r2 := raw_put (o := o) (n := n.toNat) (by rw [nodes_nat hn]; exact h) []
    rw [hp, List.take_append_drop] at r1
    rw [List.append_nil, r1] at r2
    have h3 := Option.some.inj (Prod.mk.inj r2).2
    have h4 := congrArg List.length h3
    rw [List.length_drop, List.length_nil] at h4
    omega
theorem put_pos (o : OpV) : 0 < o.put.length := by
  unfold OpV.put putP headP
  simp only [List.length_append]
  have : 0 < (pn o.d0.toNat).length := by unfold pn; split <;> simp
  omega
end Go.Proofs.Ytaaaeonalomcgaa.Q
