/- What the laws' own helpers answer: the same tokens are the same; awake. No condition. -/
import Derived.Test.YtapbpmpeikobcaaDoorHLex3
import Derived.Test.YtapbpmpeikobcaaDoorQ3
set_option linter.unusedVariables false
set_option linter.unusedSimpArgs false
namespace Go.Proofs.YtapbpmpeikobcaaDoor.Q
open Go.RowKit Go.Proofs.YtapbpmpeikobcaaDoorW.PrintWords Go.Proofs.YtapbpmpeikobcaaDoorW.PrintLast Go.Proofs.YtapbpmpeikobcaaDoorW.PrintMore

theorem sameLoop_ev (xs : List S37) (hl : xs.length ≤ 9223372036854775807) (d : Nat) : ∀ i : Nat, i + d = xs.length → Ev (fun k => tattlelaw0_SameTokens.l0 k xs xs i) true := by
  induction d with
  | zero => intro i hi; exact Ev.step (f := fun _ => some true) (fun k => by simp only [tattlelaw0_SameTokens.l0]; rw [if_neg (by omega)]) (Ev.now _)
  | succ d ih =>
    intro i hi
    refine Ev.step (f := fun k => tattlelaw0_SameTokens.l0 k xs xs ((i + 1 : Nat) : Int)) (fun k => ?_) (ih (i + 1) (by omega))
    simp only [tattlelaw0_SameTokens.l0]; rw [if_pos (by omega), if_pos (by omega), if_pos (by omega), if_neg (by simp), w64 (by omega) (by omega)]; rfl
theorem same_ev (xs : List S37) (hl : xs.length ≤ 9223372036854775807) : Ev (fun k => tattlelaw0_SameTokens.f k xs xs) true := by
  unfold tattlelaw0_SameTokens.f; exact Ev.congr (fun _ => if_pos rfl) (sameLoop_ev xs hl xs.length 0 (by omega))
theorem num_f (x : Int) : tattlelaw0_Num.f x = some x := rfl
def awakeT : List S37 := [⟨3, (⟨#[123]⟩ : ByteArray), 0, 0⟩, ⟨0, (⟨#[97]⟩ : ByteArray), 0, 1⟩, ⟨3, (⟨#[40]⟩ : ByteArray), 0, 2⟩, ⟨0, (⟨#[98]⟩ : ByteArray), 0, 3⟩, ⟨3, (⟨#[58]⟩ : ByteArray), 0, 4⟩, ⟨1, (⟨#[]⟩ : ByteArray), (-12), 5⟩, ⟨0, (⟨#[99]⟩ : ByteArray), 0, 9⟩, ⟨3, (⟨#[58]⟩ : ByteArray), 0, 10⟩, ⟨2, (⟨#[120, 34, 10]⟩ : ByteArray), 0, 11⟩, ⟨3, (⟨#[41]⟩ : ByteArray), 0, 18⟩, ⟨3, (⟨#[46, 46, 46]⟩ : ByteArray), 0, 19⟩, ⟨3, (⟨#[36]⟩ : ByteArray), 0, 25⟩, ⟨0, (⟨#[95, 49]⟩ : ByteArray), 0, 26⟩, ⟨3, (⟨#[125]⟩ : ByteArray), 0, 28⟩]
theorem awake_ev : Ev (fun k => tattlelaw13_awake.f k) true := by
  have e1 : lex_Tokens.f (⟨#[123, 97, 40, 98, 58, 45, 49, 50, 44, 99, 58, 34, 120, 92, 34, 92, 110, 34, 41, 46, 46, 46, 35, 113, 10, 36, 95, 49, 125]⟩ : ByteArray) = some (awakeT, 0) := rfl
  have e2 : lex_Tokens.f (⟨#[97, 37]⟩ : ByteArray) = some ([], 1300) := rfl
  have e3 : lex_Tokens.f (⟨#[34, 97]⟩ : ByteArray) = some ([], 1301) := rfl
  have e4 : lex_Tokens.f (⟨#[49, 50, 97]⟩ : ByteArray) = some ([], 1300) := rfl
  unfold tattlelaw13_awake.f
  rw [e1, e2, e3, e4]
  simp only [Option.bind_some, num_f]
  refine Ev.bind (f := fun _ t => if t = true then some ((1300 : Int) == 1300) else some false) (same_ev awakeT (by decide)) ?_
  exact Ev.now _
theorem awake_any (w : World) : Calls Tryd.prog 12 #[] w fun e w' => e = .returned (.bool true) ∧ Below w.heap.size w w' := by
  obtain ⟨k, hk⟩ := awake_ev.rounds
  exact tattlelaw13_awake.calls k _ w hk
end Go.Proofs.YtapbpmpeikobcaaDoor.Q
