/- A scope in which the run jumps to two labels: what holds at every jump, and a measure that every pass lowers. No program, no condition. -/
import Derived.Scope
namespace Go.Proofs.YtapbpmpeikobcaaDoor.Q
open Go

/-- As Q; by a goto to label 0 or 1: J; by any other goto: no way out. -/
def jumps (J : Nat → Act → World → Prop) (Q : Exit → Act → World → Prop) : Exit → Act → World → Prop
  | .goto l, a, w => (l = 0 ∨ l = 1) ∧ J l a w
  | e, a, w => Q e a w
theorem jumps_goto {J : Nat → Act → World → Prop} {Q : Exit → Act → World → Prop} (l : Nat) (a : Act) (w : World) (hl : l = 0 ∨ l = 1) (h : J l a w) : jumps J Q (.goto l) a w := ⟨hl, h⟩
section
variable {P : Program} {a : Act} {w : World} {Q : Exit → Act → World → Prop}
theorem wp_scope_two {c r0 r1 : Code} (J : Nat → Act → World → Prop) (μ : Nat → Act → World → Nat) (hs0 : findLabel c 0 = some (.seq .skip r0)) (hs1 : findLabel c 1 = some (.seq .skip r1))
    (first : (∀ a w, J 0 a w → r0.wp P (jumps J Q) a w) → c.wp P (jumps J Q) a w)
    (pass0 : ∀ a w, J 0 a w → r0.wp P (jumps (fun l a' w' => J l a' w' ∧ μ l a' w' < μ 0 a w) Q) a w)
    (pass1 : ∀ a w, J 1 a w → r1.wp P (jumps (fun l a' w' => J l a' w' ∧ μ l a' w' < μ 1 a w) Q) a w) : (Code.scope c).wp P Q a w := by
  have first := first (fun a w h => wp_mono (pass0 a w h) (fun e a' w' hq => by
    cases e with
    | goto l => exact ⟨hq.1, hq.2.1⟩
    | _ => exact hq))
  have pass0 := fun a w h => wp_seq (wp_skip (pass0 a w h))
  have pass1 := fun a w h => wp_seq (wp_skip (pass1 a w h))
  generalize Code.seq .skip r0 = r0 at *
  generalize Code.seq .skip r1 = r1 at *
  have h0 := hs0
  have h1 := hs1
  intro b k cs
  have hg0 : gotoIn 0 (.inScope c :: k) = some (.code r0 :: .inScope c :: k) := by simp [gotoIn, h0]
  have hg1 : gotoIn 1 (.inScope c :: k) = some (.code r1 :: .inScope c :: k) := by simp [gotoIn, h1]
  have key : ∀ n l (r : Code) a w, (l = 0 ∧ r = r0 ∨ l = 1 ∧ r = r1) → μ l a w = n → J l a w → ∃ e a' w', Q e a' w' ∧ Arrives P (lone (b.at a (.code r :: .inScope c :: k)) cs w) b k cs e a' w' := by
    intro n
    induction n using Nat.strongRecOn with
    | _ n ih =>
      intro l r a w hlr hn hJ
      have hp : r.wp P (jumps (fun l' a' w' => J l' a' w' ∧ μ l' a' w' < μ l a w) Q) a w := by
        rcases hlr with ⟨rfl, rfl⟩ | ⟨rfl, rfl⟩
        · exact pass0 a w hJ
        · exact pass1 a w hJ
      obtain ⟨e, a₁, w₁, hq, harr⟩ := hp b (.inScope c :: k) cs
      cases e with
      | normal => exact ⟨.normal, a₁, w₁, hq, Steps.trans harr (.one step_inScope)⟩
      | exit id => exact ⟨.exit id, a₁, w₁, hq, fun k' hk => harr k' (by simp [exitTo, hk])⟩
      | goto l' =>
        obtain ⟨hl', hJ', hlt⟩ := hq
        rcases hl' with rfl | rfl
        · obtain ⟨e₂, a₂, w₂, hq₂, harr₂⟩ := ih _ (by omega) 0 r0 a₁ w₁ (.inl ⟨rfl, rfl⟩) rfl hJ'
          exact ⟨e₂, a₂, w₂, hq₂, .of_steps (harr _ hg0) harr₂⟩
        · obtain ⟨e₂, a₂, w₂, hq₂, harr₂⟩ := ih _ (by omega) 1 r1 a₁ w₁ (.inr ⟨rfl, rfl⟩) rfl hJ'
          exact ⟨e₂, a₂, w₂, hq₂, .of_steps (harr _ hg1) harr₂⟩
      | ret => exact ⟨_, a₁, w₁, hq, harr⟩
      | panic ch => exact ⟨_, a₁, w₁, hq, harr⟩
      | outgrown => exact ⟨_, a₁, w₁, hq, harr⟩
  obtain ⟨e, a₁, w₁, hq, harr⟩ := first b (.inScope c :: k) cs
  cases e with
  | normal => exact ⟨.normal, a₁, w₁, hq, .head step_scope (Steps.trans harr (.one step_inScope))⟩
  | exit id => exact ⟨.exit id, a₁, w₁, hq, fun k' hk => .head step_scope (harr k' (by simp [exitTo, hk]))⟩
  | goto l' =>
    obtain ⟨hl', hJ'⟩ := hq
    rcases hl' with rfl | rfl
    · obtain ⟨e₂, a₂, w₂, hq₂, harr₂⟩ := key _ 0 r0 a₁ w₁ (.inl ⟨rfl, rfl⟩) rfl hJ'
      exact ⟨e₂, a₂, w₂, hq₂, .of_steps (.head step_scope (harr _ hg0)) harr₂⟩
    · obtain ⟨e₂, a₂, w₂, hq₂, harr₂⟩ := key _ 1 r1 a₁ w₁ (.inr ⟨rfl, rfl⟩) rfl hJ'
      exact ⟨e₂, a₂, w₂, hq₂, .of_steps (.head step_scope (harr _ hg1)) harr₂⟩
  | ret => exact ⟨_, a₁, w₁, hq, .of_steps (.one step_scope) harr⟩
  | panic ch => exact ⟨_, a₁, w₁, hq, .of_steps (.one step_scope) harr⟩
  | outgrown => exact ⟨_, a₁, w₁, hq, .of_steps (.one step_scope) harr⟩
end
end Go.Proofs.YtapbpmpeikobcaaDoor.Q
