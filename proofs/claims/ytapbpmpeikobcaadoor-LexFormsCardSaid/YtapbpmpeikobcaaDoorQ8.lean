/- Walks of the functions that the law reaches, printed by a program out of the translation. Their conditions stand in each. -/
import Derived.Test.YtapbpmpeikobcaaDoorQ0
import Derived.Test.YtapbpmpeikobcaaDoorQ3
import Derived.Test.YtapbpmpeikobcaaDoorHLaw7
import Derived.Test.YtapbpmpeikobcaaDoorHLex
namespace Go.Proofs.YtapbpmpeikobcaaDoor.Q
open Go.RowKit Go.Proofs.YtapbpmpeikobcaaDoorW.PrintWords Go.Proofs.YtapbpmpeikobcaaDoorW.PrintLast Go.Proofs.YtapbpmpeikobcaaDoorW.PrintMore
attribute [local go_sem] max2_int min2_int max_two min_two max_three min_three max_four min_four   -- for this text's walks alone
set_option linter.unusedVariables false
set_option linter.unusedSimpArgs false

/-! ### tattlelaw13_LexForms: function 5 -/
mutual
def tattlelaw13_LexForms.j0 : Nat → Int → List ByteArray → Int → Int → Option (Bool)
  | 0, _, _, _, _ => none
  | k + 1, x1, x5, x6, x7 => if 0 ≤ x6 then (if x6 < (x5.length : Int) then (if 4 + (rdOf ByteArray.empty x5 x6).size ≤ 9223372036854775807 then ((lex_Tokens.f ((⟨#[97, 32, 123, 32]⟩ : ByteArray) ++ (rdOf ByteArray.empty x5 x6))).bind fun bt142 => (tattlelaw13_LexForms.l0 k x1 x7 bt142.1 bt142.2 (⟨#[]⟩ : ByteArray) 0)) else (none)) else (none)) else (none)
def tattlelaw13_LexForms.l0 : Nat → Int → Int → List (S37) → Int → ByteArray → Int → Option (Bool)
  | 0, _, _, _, _, _, _ => none
  | k + 1, x1, x7, x8, x9, x10, x11 => if x11 < (wrap64 (29 + (Go.bits .and .i64 x1 7))) then (if x10.size + 1 ≤ 9223372036854775807 then (tattlelaw13_LexForms.l0 k x1 x7 x8 x9 (x10 ++ (⟨#[98]⟩ : ByteArray)) (wrap64 (x11 + 1))) else (none)) else (if x10.size + 1 ≤ 9223372036854775807 then (if (x10 ++ (⟨#[32]⟩ : ByteArray)).size + x10.size ≤ 9223372036854775807 then ((lex_Tokens.f ((x10 ++ (⟨#[32]⟩ : ByteArray)) ++ x10)).bind fun bt146 => (if 0 ≤ (wrap64 (253 + (Go.bits .and .i64 x1 7))) then (if (wrap64 (253 + (Go.bits .and .i64 x1 7)) : Int).toNat ≤ 281474976710656 then ((some (List.replicate (wrap64 (253 + (Go.bits .and .i64 x1 7)) : Int).toNat 0 : List Int)).bind fun y150 => (if 1 + (strOfNums y150).size ≤ 9223372036854775807 then (if ((⟨#[34]⟩ : ByteArray) ++ (strOfNums y150)).size + 1 ≤ 9223372036854775807 then ((lex_Tokens.f (((⟨#[34]⟩ : ByteArray) ++ (strOfNums y150)) ++ (⟨#[34]⟩ : ByteArray))).bind fun bt153 => (tattlelaw13_LexForms.l1 k x7 x8 x9 x10 bt146.1 bt146.2 (strOfNums y150) bt153.1 bt153.2 (⟨#[]⟩ : ByteArray) (wrap64 (2040 + (Go.bits .and .i64 x1 15))) 0)) else (none)) else (none))) else (none)) else (none))) else (none)) else (none))
def tattlelaw13_LexForms.l1 : Nat → Int → List (S37) → Int → ByteArray → List (S37) → Int → ByteArray → List (S37) → Int → ByteArray → Int → Int → Option (Bool)
  | 0, _, _, _, _, _, _, _, _, _, _, _, _ => none
  | k + 1, x7, x8, x9, x10, x12, x13, x14, x15, x16, x17, x18, x19 => if x19 < x18 then (if x17.size + 1 ≤ 9223372036854775807 then (tattlelaw13_LexForms.l1 k x7 x8 x9 x10 x12 x13 x14 x15 x16 (x17 ++ (⟨#[123]⟩ : ByteArray)) x18 (wrap64 (x19 + 1))) else (none)) else ((lex_Tokens.f x17).bind fun bt157 => (if (x8.length : Int) = 0 then ((tattlelaw0_Num.f x9).bind fun t161 => (if t161 = x7 then ((tattlelaw0_Num.f x13).bind fun t162 => (if ((t162 == 0) == (decide ((x10.size : Int) ≤ 32))) = true then (if (x10.size : Int) ≤ 32 then (if (x12.length : Int) = 2 then ((tattlelaw0_Num.f x16).bind fun t163 => (if ((t163 == 0) == (decide ((x14.size : Int) ≤ 256))) = true then (if (x14.size : Int) ≤ 256 then (if (x15.length : Int) = 1 then (if x18 ≤ 2048 then ((tattlelaw0_Num.f bt157.2).bind fun t164 => (if t164 = 0 then (if (bt157.1.length : Int) = x18 then (some true) else (some false)) else (some false))) else ((tattlelaw0_Num.f bt157.2).bind fun t165 => (if t165 = 1302 then (some ((bt157.1.length : Int) == 0)) else (some false)))) else ((tattlelaw0_Num.f x16).bind fun t166 => (if t166 = 1301 then (if x18 ≤ 2048 then ((tattlelaw0_Num.f bt157.2).bind fun t167 => (if t167 = 0 then (if (bt157.1.length : Int) = x18 then (some true) else (some false)) else (some false))) else ((tattlelaw0_Num.f bt157.2).bind fun t168 => (if t168 = 1302 then (some ((bt157.1.length : Int) == 0)) else (some false)))) else (some false)))) else ((tattlelaw0_Num.f x16).bind fun t169 => (if t169 = 1301 then (if x18 ≤ 2048 then ((tattlelaw0_Num.f bt157.2).bind fun t170 => (if t170 = 0 then (if (bt157.1.length : Int) = x18 then (some true) else (some false)) else (some false))) else ((tattlelaw0_Num.f bt157.2).bind fun t171 => (if t171 = 1302 then (some ((bt157.1.length : Int) == 0)) else (some false)))) else (some false)))) else (some false))) else ((tattlelaw0_Num.f x13).bind fun t172 => (if t172 = 1300 then ((tattlelaw0_Num.f x16).bind fun t173 => (if ((t173 == 0) == (decide ((x14.size : Int) ≤ 256))) = true then (if (x14.size : Int) ≤ 256 then (if (x15.length : Int) = 1 then (if x18 ≤ 2048 then ((tattlelaw0_Num.f bt157.2).bind fun t174 => (if t174 = 0 then (if (bt157.1.length : Int) = x18 then (some true) else (some false)) else (some false))) else ((tattlelaw0_Num.f bt157.2).bind fun t175 => (if t175 = 1302 then (some ((bt157.1.length : Int) == 0)) else (some false)))) else ((tattlelaw0_Num.f x16).bind fun t176 => (if t176 = 1301 then (if x18 ≤ 2048 then ((tattlelaw0_Num.f bt157.2).bind fun t177 => (if t177 = 0 then (if (bt157.1.length : Int) = x18 then (some true) else (some false)) else (some false))) else ((tattlelaw0_Num.f bt157.2).bind fun t178 => (if t178 = 1302 then (some ((bt157.1.length : Int) == 0)) else (some false)))) else (some false)))) else ((tattlelaw0_Num.f x16).bind fun t179 => (if t179 = 1301 then (if x18 ≤ 2048 then ((tattlelaw0_Num.f bt157.2).bind fun t180 => (if t180 = 0 then (if (bt157.1.length : Int) = x18 then (some true) else (some false)) else (some false))) else ((tattlelaw0_Num.f bt157.2).bind fun t181 => (if t181 = 1302 then (some ((bt157.1.length : Int) == 0)) else (some false)))) else (some false)))) else (some false))) else (some false)))) else ((tattlelaw0_Num.f x13).bind fun t182 => (if t182 = 1300 then ((tattlelaw0_Num.f x16).bind fun t183 => (if ((t183 == 0) == (decide ((x14.size : Int) ≤ 256))) = true then (if (x14.size : Int) ≤ 256 then (if (x15.length : Int) = 1 then (if x18 ≤ 2048 then ((tattlelaw0_Num.f bt157.2).bind fun t184 => (if t184 = 0 then (if (bt157.1.length : Int) = x18 then (some true) else (some false)) else (some false))) else ((tattlelaw0_Num.f bt157.2).bind fun t185 => (if t185 = 1302 then (some ((bt157.1.length : Int) == 0)) else (some false)))) else ((tattlelaw0_Num.f x16).bind fun t186 => (if t186 = 1301 then (if x18 ≤ 2048 then ((tattlelaw0_Num.f bt157.2).bind fun t187 => (if t187 = 0 then (if (bt157.1.length : Int) = x18 then (some true) else (some false)) else (some false))) else ((tattlelaw0_Num.f bt157.2).bind fun t188 => (if t188 = 1302 then (some ((bt157.1.length : Int) == 0)) else (some false)))) else (some false)))) else ((tattlelaw0_Num.f x16).bind fun t189 => (if t189 = 1301 then (if x18 ≤ 2048 then ((tattlelaw0_Num.f bt157.2).bind fun t190 => (if t190 = 0 then (if (bt157.1.length : Int) = x18 then (some true) else (some false)) else (some false))) else ((tattlelaw0_Num.f bt157.2).bind fun t191 => (if t191 = 1302 then (some ((bt157.1.length : Int) == 0)) else (some false)))) else (some false)))) else (some false))) else (some false)))) else (some false))) else (some false))) else (some false)))
end
def tattlelaw13_LexForms.f (k : Nat) (a0 : Int) (a1 : Int) : Option (Bool) := (tattlelaw13_awake.f k).bind fun t137 => (if t137 = true then ((some (([(⟨#[37]⟩ : ByteArray), (⟨#[97, 46, 98]⟩ : ByteArray), (⟨#[46, 46]⟩ : ByteArray), (⟨#[45]⟩ : ByteArray), (⟨#[45, 45, 49]⟩ : ByteArray), (⟨#[49, 97]⟩ : ByteArray), (⟨#[49, 95]⟩ : ByteArray), (⟨#[49, 50, 51, 52, 53, 54, 55, 56, 57, 48, 49, 50, 51, 52, 53, 54]⟩ : ByteArray), (⟨#[45, 49, 50, 51, 52, 53, 54, 55, 56, 57, 48, 49, 50, 51, 52, 53, 54]⟩ : ByteArray), (⟨#[59]⟩ : ByteArray), (⟨#[0]⟩ : ByteArray), (⟨#[195, 169]⟩ : ByteArray), (⟨#[34]⟩ : ByteArray), (⟨#[34, 97, 10, 34]⟩ : ByteArray), (⟨#[34, 92, 120, 34]⟩ : ByteArray), (⟨#[34, 92]⟩ : ByteArray), (⟨#[97, 32, 34, 98]⟩ : ByteArray)] : List ByteArray) : List ByteArray)).bind fun y138 => (if (wrap64 (Int.tmod (IntKind.u64.wrap (a0)) 17)) ≥ 12 then (tattlelaw13_LexForms.j0 k a1 y138 (wrap64 (Int.tmod (IntKind.u64.wrap (a0)) 17)) 1301) else (tattlelaw13_LexForms.j0 k a1 y138 (wrap64 (Int.tmod (IntKind.u64.wrap (a0)) 17)) 1300))) else (some false))
theorem tattlelaw13_LexForms.mono_l : ∀ k, (∀ y0 y1 y2 y3, LeO (tattlelaw13_LexForms.j0 k y0 y1 y2 y3) (tattlelaw13_LexForms.j0 (k + 1) y0 y1 y2 y3)) ∧ (∀ y0 y1 y2 y3 y4 y5, LeO (tattlelaw13_LexForms.l0 k y0 y1 y2 y3 y4 y5) (tattlelaw13_LexForms.l0 (k + 1) y0 y1 y2 y3 y4 y5)) ∧ (∀ y0 y1 y2 y3 y4 y5 y6 y7 y8 y9 y10 y11, LeO (tattlelaw13_LexForms.l1 k y0 y1 y2 y3 y4 y5 y6 y7 y8 y9 y10 y11) (tattlelaw13_LexForms.l1 (k + 1) y0 y1 y2 y3 y4 y5 y6 y7 y8 y9 y10 y11))
  | 0 => ⟨fun _ _ _ _ r h => by simp [tattlelaw13_LexForms.j0] at h, fun _ _ _ _ _ _ r h => by simp [tattlelaw13_LexForms.l0] at h, fun _ _ _ _ _ _ _ _ _ _ _ _ r h => by simp [tattlelaw13_LexForms.l1] at h⟩
  | k + 1 => by
    obtain ⟨ih0, ih1, ih2⟩ := tattlelaw13_LexForms.mono_l k
    refine ⟨?_, ?_, ?_⟩
    · intro y0 y1 y2 y3
      unfold tattlelaw13_LexForms.j0
      repeat' first
      | (with_reducible exact ih0 _ _ _ _)
      | (with_reducible exact ih1 _ _ _ _ _ _)
      | (with_reducible exact ih2 _ _ _ _ _ _ _ _ _ _ _ _)
      | (with_reducible exact tattlelaw13_awake.mono _)
      | (with_reducible exact LeO.refl _)
      | (with_reducible exact LeO.none _)
      | (with_reducible refine LeO.ite ?_ ?_)
      | (with_reducible refine LeO.bind ?_ (fun _ => ?_))
      | exact ih0 _ _ _ _
      | exact ih1 _ _ _ _ _ _
      | exact ih2 _ _ _ _ _ _ _ _ _ _ _ _
      | exact tattlelaw13_awake.mono _
      | exact LeO.none _
      | refine LeO.ite ?_ ?_
      | refine LeO.bind ?_ (fun _ => ?_)
    · intro y0 y1 y2 y3 y4 y5
      unfold tattlelaw13_LexForms.l0
      repeat' first
      | (with_reducible exact ih0 _ _ _ _)
      | (with_reducible exact ih1 _ _ _ _ _ _)
      | (with_reducible exact ih2 _ _ _ _ _ _ _ _ _ _ _ _)
      | (with_reducible exact tattlelaw13_awake.mono _)
      | (with_reducible exact LeO.refl _)
      | (with_reducible exact LeO.none _)
      | (with_reducible refine LeO.ite ?_ ?_)
      | (with_reducible refine LeO.bind ?_ (fun _ => ?_))
      | exact ih0 _ _ _ _
      | exact ih1 _ _ _ _ _ _
      | exact ih2 _ _ _ _ _ _ _ _ _ _ _ _
      | exact tattlelaw13_awake.mono _
      | exact LeO.none _
      | refine LeO.ite ?_ ?_
      | refine LeO.bind ?_ (fun _ => ?_)
    · intro y0 y1 y2 y3 y4 y5 y6 y7 y8 y9 y10 y11
      unfold tattlelaw13_LexForms.l1
      repeat' first
      | (with_reducible exact ih0 _ _ _ _)
      | (with_reducible exact ih1 _ _ _ _ _ _)
      | (with_reducible exact ih2 _ _ _ _ _ _ _ _ _ _ _ _)
      | (with_reducible exact tattlelaw13_awake.mono _)
      | (with_reducible exact LeO.refl _)
      | (with_reducible exact LeO.none _)
      | (with_reducible refine LeO.ite ?_ ?_)
      | (with_reducible refine LeO.bind ?_ (fun _ => ?_))
      | exact ih0 _ _ _ _
      | exact ih1 _ _ _ _ _ _
      | exact ih2 _ _ _ _ _ _ _ _ _ _ _ _
      | exact tattlelaw13_awake.mono _
      | exact LeO.none _
      | refine LeO.ite ?_ ?_
      | refine LeO.bind ?_ (fun _ => ?_)
theorem tattlelaw13_LexForms.mono : ∀ a0 a1 k, LeO (tattlelaw13_LexForms.f k a0 a1) (tattlelaw13_LexForms.f (k + 1) a0 a1) := by
  intro a0 a1 k
  obtain ⟨ih0, ih1, ih2⟩ := tattlelaw13_LexForms.mono_l k
  unfold tattlelaw13_LexForms.f
  repeat' first
      | (with_reducible exact ih0 _ _ _ _)
      | (with_reducible exact ih1 _ _ _ _ _ _)
      | (with_reducible exact ih2 _ _ _ _ _ _ _ _ _ _ _ _)
      | (with_reducible exact tattlelaw13_awake.mono _)
      | (with_reducible exact LeO.refl _)
      | (with_reducible exact LeO.none _)
      | (with_reducible refine LeO.ite ?_ ?_)
      | (with_reducible refine LeO.bind ?_ (fun _ => ?_))
      | exact ih0 _ _ _ _
      | exact ih1 _ _ _ _ _ _
      | exact ih2 _ _ _ _ _ _ _ _ _ _ _ _
      | exact tattlelaw13_awake.mono _
      | exact LeO.none _
      | refine LeO.ite ?_ ?_
      | refine LeO.bind ?_ (fun _ => ?_)
set_option maxHeartbeats 4000000 in
theorem forms_split (n142 n146 n153 n157 s10 s14 t143 x7 t147 t154 t158 m : Int) (H : (if n142 = 0 then ((tattlelaw0_Num.f t143).bind fun t161 => (if t161 = x7 then ((tattlelaw0_Num.f t147).bind fun t162 => (if ((t162 == 0) == (decide (s10 ≤ 32))) = true then (if s10 ≤ 32 then (if n146 = 2 then ((tattlelaw0_Num.f t154).bind fun t163 => (if ((t163 == 0) == (decide (s14 ≤ 256))) = true then (if s14 ≤ 256 then (if n153 = 1 then (if m ≤ 2048 then ((tattlelaw0_Num.f t158).bind fun t164 => (if t164 = 0 then (if n157 = m then (some true) else (some false)) else (some false))) else ((tattlelaw0_Num.f t158).bind fun t165 => (if t165 = 1302 then (some (n157 == 0)) else (some false)))) else ((tattlelaw0_Num.f t154).bind fun t166 => (if t166 = 1301 then (if m ≤ 2048 then ((tattlelaw0_Num.f t158).bind fun t167 => (if t167 = 0 then (if n157 = m then (some true) else (some false)) else (some false))) else ((tattlelaw0_Num.f t158).bind fun t168 => (if t168 = 1302 then (some (n157 == 0)) else (some false)))) else (some false)))) else ((tattlelaw0_Num.f t154).bind fun t169 => (if t169 = 1301 then (if m ≤ 2048 then ((tattlelaw0_Num.f t158).bind fun t170 => (if t170 = 0 then (if n157 = m then (some true) else (some false)) else (some false))) else ((tattlelaw0_Num.f t158).bind fun t171 => (if t171 = 1302 then (some (n157 == 0)) else (some false)))) else (some false)))) else (some false))) else ((tattlelaw0_Num.f t147).bind fun t172 => (if t172 = 1300 then ((tattlelaw0_Num.f t154).bind fun t173 => (if ((t173 == 0) == (decide (s14 ≤ 256))) = true then (if s14 ≤ 256 then (if n153 = 1 then (if m ≤ 2048 then ((tattlelaw0_Num.f t158).bind fun t174 => (if t174 = 0 then (if n157 = m then (some true) else (some false)) else (some false))) else ((tattlelaw0_Num.f t158).bind fun t175 => (if t175 = 1302 then (some (n157 == 0)) else (some false)))) else ((tattlelaw0_Num.f t154).bind fun t176 => (if t176 = 1301 then (if m ≤ 2048 then ((tattlelaw0_Num.f t158).bind fun t177 => (if t177 = 0 then (if n157 = m then (some true) else (some false)) else (some false))) else ((tattlelaw0_Num.f t158).bind fun t178 => (if t178 = 1302 then (some (n157 == 0)) else (some false)))) else (some false)))) else ((tattlelaw0_Num.f t154).bind fun t179 => (if t179 = 1301 then (if m ≤ 2048 then ((tattlelaw0_Num.f t158).bind fun t180 => (if t180 = 0 then (if n157 = m then (some true) else (some false)) else (some false))) else ((tattlelaw0_Num.f t158).bind fun t181 => (if t181 = 1302 then (some (n157 == 0)) else (some false)))) else (some false)))) else (some false))) else (some false)))) else ((tattlelaw0_Num.f t147).bind fun t182 => (if t182 = 1300 then ((tattlelaw0_Num.f t154).bind fun t183 => (if ((t183 == 0) == (decide (s14 ≤ 256))) = true then (if s14 ≤ 256 then (if n153 = 1 then (if m ≤ 2048 then ((tattlelaw0_Num.f t158).bind fun t184 => (if t184 = 0 then (if n157 = m then (some true) else (some false)) else (some false))) else ((tattlelaw0_Num.f t158).bind fun t185 => (if t185 = 1302 then (some (n157 == 0)) else (some false)))) else ((tattlelaw0_Num.f t154).bind fun t186 => (if t186 = 1301 then (if m ≤ 2048 then ((tattlelaw0_Num.f t158).bind fun t187 => (if t187 = 0 then (if n157 = m then (some true) else (some false)) else (some false))) else ((tattlelaw0_Num.f t158).bind fun t188 => (if t188 = 1302 then (some (n157 == 0)) else (some false)))) else (some false)))) else ((tattlelaw0_Num.f t154).bind fun t189 => (if t189 = 1301 then (if m ≤ 2048 then ((tattlelaw0_Num.f t158).bind fun t190 => (if t190 = 0 then (if n157 = m then (some true) else (some false)) else (some false))) else ((tattlelaw0_Num.f t158).bind fun t191 => (if t191 = 1302 then (some (n157 == 0)) else (some false)))) else (some false)))) else (some false))) else (some false)))) else (some false))) else (some false))) else (some false)) = some true) :
    n142 = 0 ∧ t143 = x7 ∧ ((s10 ≤ 32 ∧ t147 = 0 ∧ n146 = 2) ∨ (¬ s10 ≤ 32 ∧ t147 = 1300)) ∧ ((s14 ≤ 256 ∧ t154 = 0 ∧ n153 = 1) ∨ (¬ s14 ≤ 256 ∧ t154 = 1301)) ∧ ((m ≤ 2048 ∧ t158 = 0 ∧ n157 = m) ∨ (¬ m ≤ 2048 ∧ t158 = 1302 ∧ n157 = 0)) := by
  simp only [num_f, Option.bind_some] at H
  by_cases h1 : n142 = 0 <;> by_cases h2 : t143 = x7 <;> by_cases h3 : s10 ≤ 32 <;> by_cases h4 : s14 ≤ 256 <;> by_cases h5 : m ≤ 2048 <;> simp [h1, h2, h3, h4, h5] at H ⊢
  all_goals
    (repeat' split at H)
    all_goals first | omega | (simp_all; done) | (simp at H; omega)
set_option maxHeartbeats 8000000 in
set_option maxRecDepth 100000 in
theorem tattlelaw13_LexForms.calls (k : Nat) (a0 : Int) (a1 : Int) (r : Bool) (hr : r = true) (w : World) (h : tattlelaw13_LexForms.f k a0 a1 = some r) :
    Calls Tryd.prog 5 #[.int .i64 a0, .int .i64 a1] w fun e w' => e = .returned (.bool r) ∧ Below w.heap.size w w' := by
  have HB := Aside0.mk (Below.refl w.heap.size w)
  have H : ((tattlelaw13_awake.f k).bind fun t137 => (if t137 = true then ((some (([(⟨#[37]⟩ : ByteArray), (⟨#[97, 46, 98]⟩ : ByteArray), (⟨#[46, 46]⟩ : ByteArray), (⟨#[45]⟩ : ByteArray), (⟨#[45, 45, 49]⟩ : ByteArray), (⟨#[49, 97]⟩ : ByteArray), (⟨#[49, 95]⟩ : ByteArray), (⟨#[49, 50, 51, 52, 53, 54, 55, 56, 57, 48, 49, 50, 51, 52, 53, 54]⟩ : ByteArray), (⟨#[45, 49, 50, 51, 52, 53, 54, 55, 56, 57, 48, 49, 50, 51, 52, 53, 54]⟩ : ByteArray), (⟨#[59]⟩ : ByteArray), (⟨#[0]⟩ : ByteArray), (⟨#[195, 169]⟩ : ByteArray), (⟨#[34]⟩ : ByteArray), (⟨#[34, 97, 10, 34]⟩ : ByteArray), (⟨#[34, 92, 120, 34]⟩ : ByteArray), (⟨#[34, 92]⟩ : ByteArray), (⟨#[97, 32, 34, 98]⟩ : ByteArray)] : List ByteArray) : List ByteArray)).bind fun y138 => (if (wrap64 (Int.tmod (IntKind.u64.wrap (a0)) 17)) ≥ 12 then (tattlelaw13_LexForms.j0 k a1 y138 (wrap64 (Int.tmod (IntKind.u64.wrap (a0)) 17)) 1301) else (tattlelaw13_LexForms.j0 k a1 y138 (wrap64 (Int.tmod (IntKind.u64.wrap (a0)) 17)) 1300))) else (some false))) = some r := h
  clear h
  replace H := Option.bind_eq_some_iff.mp H
  obtain ⟨t137, A30, H⟩ := H
  replace H : (if t137 = true then ((some (([(⟨#[37]⟩ : ByteArray), (⟨#[97, 46, 98]⟩ : ByteArray), (⟨#[46, 46]⟩ : ByteArray), (⟨#[45]⟩ : ByteArray), (⟨#[45, 45, 49]⟩ : ByteArray), (⟨#[49, 97]⟩ : ByteArray), (⟨#[49, 95]⟩ : ByteArray), (⟨#[49, 50, 51, 52, 53, 54, 55, 56, 57, 48, 49, 50, 51, 52, 53, 54]⟩ : ByteArray), (⟨#[45, 49, 50, 51, 52, 53, 54, 55, 56, 57, 48, 49, 50, 51, 52, 53, 54]⟩ : ByteArray), (⟨#[59]⟩ : ByteArray), (⟨#[0]⟩ : ByteArray), (⟨#[195, 169]⟩ : ByteArray), (⟨#[34]⟩ : ByteArray), (⟨#[34, 97, 10, 34]⟩ : ByteArray), (⟨#[34, 92, 120, 34]⟩ : ByteArray), (⟨#[34, 92]⟩ : ByteArray), (⟨#[97, 32, 34, 98]⟩ : ByteArray)] : List ByteArray) : List ByteArray)).bind fun y138 => (if (wrap64 (Int.tmod (IntKind.u64.wrap (a0)) 17)) ≥ 12 then (tattlelaw13_LexForms.j0 k a1 y138 (wrap64 (Int.tmod (IntKind.u64.wrap (a0)) 17)) 1301) else (tattlelaw13_LexForms.j0 k a1 y138 (wrap64 (Int.tmod (IntKind.u64.wrap (a0)) 17)) 1300))) else (some false)) = some r := H
  have A3 := Aside0.mk A30
  clear A30
  by_cases c4 : t137 = true
  · subst c4
    have H1 : ((some (([(⟨#[37]⟩ : ByteArray), (⟨#[97, 46, 98]⟩ : ByteArray), (⟨#[46, 46]⟩ : ByteArray), (⟨#[45]⟩ : ByteArray), (⟨#[45, 45, 49]⟩ : ByteArray), (⟨#[49, 97]⟩ : ByteArray), (⟨#[49, 95]⟩ : ByteArray), (⟨#[49, 50, 51, 52, 53, 54, 55, 56, 57, 48, 49, 50, 51, 52, 53, 54]⟩ : ByteArray), (⟨#[45, 49, 50, 51, 52, 53, 54, 55, 56, 57, 48, 49, 50, 51, 52, 53, 54]⟩ : ByteArray), (⟨#[59]⟩ : ByteArray), (⟨#[0]⟩ : ByteArray), (⟨#[195, 169]⟩ : ByteArray), (⟨#[34]⟩ : ByteArray), (⟨#[34, 97, 10, 34]⟩ : ByteArray), (⟨#[34, 92, 120, 34]⟩ : ByteArray), (⟨#[34, 92]⟩ : ByteArray), (⟨#[97, 32, 34, 98]⟩ : ByteArray)] : List ByteArray) : List ByteArray)).bind fun y138 => (if (wrap64 (Int.tmod (IntKind.u64.wrap (a0)) 17)) ≥ 12 then (tattlelaw13_LexForms.j0 k a1 y138 (wrap64 (Int.tmod (IntKind.u64.wrap (a0)) 17)) 1301) else (tattlelaw13_LexForms.j0 k a1 y138 (wrap64 (Int.tmod (IntKind.u64.wrap (a0)) 17)) 1300))) = some r := by rw [if_pos rfl] at H; exact H
    clear H
    have H := H1
    clear H1
    obtain ⟨y138, hy138⟩ : ∃ y_ : List ByteArray, y_ = (([(⟨#[37]⟩ : ByteArray), (⟨#[97, 46, 98]⟩ : ByteArray), (⟨#[46, 46]⟩ : ByteArray), (⟨#[45]⟩ : ByteArray), (⟨#[45, 45, 49]⟩ : ByteArray), (⟨#[49, 97]⟩ : ByteArray), (⟨#[49, 95]⟩ : ByteArray), (⟨#[49, 50, 51, 52, 53, 54, 55, 56, 57, 48, 49, 50, 51, 52, 53, 54]⟩ : ByteArray), (⟨#[45, 49, 50, 51, 52, 53, 54, 55, 56, 57, 48, 49, 50, 51, 52, 53, 54]⟩ : ByteArray), (⟨#[59]⟩ : ByteArray), (⟨#[0]⟩ : ByteArray), (⟨#[195, 169]⟩ : ByteArray), (⟨#[34]⟩ : ByteArray), (⟨#[34, 97, 10, 34]⟩ : ByteArray), (⟨#[34, 92, 120, 34]⟩ : ByteArray), (⟨#[34, 92]⟩ : ByteArray), (⟨#[97, 32, 34, 98]⟩ : ByteArray)] : List ByteArray)) := ⟨_, rfl⟩
    replace H : (if (wrap64 (Int.tmod (IntKind.u64.wrap (a0)) 17)) ≥ 12 then (tattlelaw13_LexForms.j0 k a1 y138 (wrap64 (Int.tmod (IntKind.u64.wrap (a0)) 17)) 1301) else (tattlelaw13_LexForms.j0 k a1 y138 (wrap64 (Int.tmod (IntKind.u64.wrap (a0)) 17)) 1300)) = some r := by first | (rw [hy138]; with_reducible exact H) | (have H2_ := (Option.bind_some _ _).symm.trans H; rw [hy138]; with_reducible exact H2_) | (have H2_ := (Option.bind_some _ _).symm.trans H; with_reducible exact H2_) | with_reducible exact H | (rw [hy138]; exact H) | exact H
    have Ny138 := Aside0.mk hy138
    clear hy138
    have HC5 := Aside0.mk H
    clear H
    go_enter Tryd.func5, Tryd.ntmps5
    simp only [List.append_eq, List.cons_append, List.nil_append]
    go_upto_if 33 with (first | ((with_reducible refine gate_callee (f := 12) rfl ?_); refine goesL_ (some 25) rfl rfl Tryd.func12 (by kernel_rfl) rfl #[] rfl (by (try simp only [List.map_toArray, List.map_cons, List.map_nil]); first | done | rfl | (simp only [List.length_drop, List.length_take]; rfl)) ?_; (with_reducible refine (tattlelaw13_awake.calls k  true _ A3.out).mono ?_); rintro e w6 ⟨rfl, hb⟩; refine ⟨_, rfl, ?_⟩; have n0_ := Aside0.mk (below_step (by repeat (first | (with_reducible first | exact HB.out | apply below_alloc | apply pw_below_drewN | apply below_drew1) | exact HB.out)) hb); clear HB; have HB := n0_; clear n0_; (try clear hb); (try clear hb2); (try clear hk); (try clear hi)) | ((with_reducible refine gate_dst (N := 27) rfl ?_); (try (refine gate_guard (by rfl) ?_; dsimp only)); refine Kd.R_lit Kd.string _ 9 ?hg (N := 27) ?hd (xs := ([(⟨#[37]⟩ : ByteArray), (⟨#[97, 46, 98]⟩ : ByteArray), (⟨#[46, 46]⟩ : ByteArray), (⟨#[45]⟩ : ByteArray), (⟨#[45, 45, 49]⟩ : ByteArray), (⟨#[49, 97]⟩ : ByteArray), (⟨#[49, 95]⟩ : ByteArray), (⟨#[49, 50, 51, 52, 53, 54, 55, 56, 57, 48, 49, 50, 51, 52, 53, 54]⟩ : ByteArray), (⟨#[45, 49, 50, 51, 52, 53, 54, 55, 56, 57, 48, 49, 50, 51, 52, 53, 54]⟩ : ByteArray), (⟨#[59]⟩ : ByteArray), (⟨#[0]⟩ : ByteArray), (⟨#[195, 169]⟩ : ByteArray), (⟨#[34]⟩ : ByteArray), (⟨#[34, 97, 10, 34]⟩ : ByteArray), (⟨#[34, 92, 120, 34]⟩ : ByteArray), (⟨#[34, 92]⟩ : ByteArray), (⟨#[97, 32, 34, 98]⟩ : ByteArray)] : List ByteArray)) (inner := [.string (⟨#[37]⟩ : ByteArray), .string (⟨#[97, 46, 98]⟩ : ByteArray), .string (⟨#[46, 46]⟩ : ByteArray), .string (⟨#[45]⟩ : ByteArray), .string (⟨#[45, 45, 49]⟩ : ByteArray), .string (⟨#[49, 97]⟩ : ByteArray), .string (⟨#[49, 95]⟩ : ByteArray), .string (⟨#[49, 50, 51, 52, 53, 54, 55, 56, 57, 48, 49, 50, 51, 52, 53, 54]⟩ : ByteArray), .string (⟨#[45, 49, 50, 51, 52, 53, 54, 55, 56, 57, 48, 49, 50, 51, 52, 53, 54]⟩ : ByteArray), .string (⟨#[59]⟩ : ByteArray), .string (⟨#[0]⟩ : ByteArray), .string (⟨#[195, 169]⟩ : ByteArray), .string (⟨#[34]⟩ : ByteArray), .string (⟨#[34, 97, 10, 34]⟩ : ByteArray), .string (⟨#[34, 92, 120, 34]⟩ : ByteArray), .string (⟨#[34, 92]⟩ : ByteArray), .string (⟨#[97, 32, 34, 98]⟩ : ByteArray)]) (ok := fun _ => True) (okp := fun _ => True) ?hr ?hp (fun _ hk => hk) trivial (Below.refl _ _) (Nat.le_refl _) (by simp) ?_; (case hd => rfl); (case hg => rfl); (case hr => first | (go_simp; done) | (go_simp; rfl)); (case hp => exact (Reps.one (show Kd.M Kd.string _ _ _ (⟨#[37]⟩ : ByteArray) [.string (⟨#[37]⟩ : ByteArray)] from rfl) (Reps.one (show Kd.M Kd.string _ _ _ (⟨#[97, 46, 98]⟩ : ByteArray) [.string (⟨#[97, 46, 98]⟩ : ByteArray)] from rfl) (Reps.one (show Kd.M Kd.string _ _ _ (⟨#[46, 46]⟩ : ByteArray) [.string (⟨#[46, 46]⟩ : ByteArray)] from rfl) (Reps.one (show Kd.M Kd.string _ _ _ (⟨#[45]⟩ : ByteArray) [.string (⟨#[45]⟩ : ByteArray)] from rfl) (Reps.one (show Kd.M Kd.string _ _ _ (⟨#[45, 45, 49]⟩ : ByteArray) [.string (⟨#[45, 45, 49]⟩ : ByteArray)] from rfl) (Reps.one (show Kd.M Kd.string _ _ _ (⟨#[49, 97]⟩ : ByteArray) [.string (⟨#[49, 97]⟩ : ByteArray)] from rfl) (Reps.one (show Kd.M Kd.string _ _ _ (⟨#[49, 95]⟩ : ByteArray) [.string (⟨#[49, 95]⟩ : ByteArray)] from rfl) (Reps.one (show Kd.M Kd.string _ _ _ (⟨#[49, 50, 51, 52, 53, 54, 55, 56, 57, 48, 49, 50, 51, 52, 53, 54]⟩ : ByteArray) [.string (⟨#[49, 50, 51, 52, 53, 54, 55, 56, 57, 48, 49, 50, 51, 52, 53, 54]⟩ : ByteArray)] from rfl) (Reps.one (show Kd.M Kd.string _ _ _ (⟨#[45, 49, 50, 51, 52, 53, 54, 55, 56, 57, 48, 49, 50, 51, 52, 53, 54]⟩ : ByteArray) [.string (⟨#[45, 49, 50, 51, 52, 53, 54, 55, 56, 57, 48, 49, 50, 51, 52, 53, 54]⟩ : ByteArray)] from rfl) (Reps.one (show Kd.M Kd.string _ _ _ (⟨#[59]⟩ : ByteArray) [.string (⟨#[59]⟩ : ByteArray)] from rfl) (Reps.one (show Kd.M Kd.string _ _ _ (⟨#[0]⟩ : ByteArray) [.string (⟨#[0]⟩ : ByteArray)] from rfl) (Reps.one (show Kd.M Kd.string _ _ _ (⟨#[195, 169]⟩ : ByteArray) [.string (⟨#[195, 169]⟩ : ByteArray)] from rfl) (Reps.one (show Kd.M Kd.string _ _ _ (⟨#[34]⟩ : ByteArray) [.string (⟨#[34]⟩ : ByteArray)] from rfl) (Reps.one (show Kd.M Kd.string _ _ _ (⟨#[34, 97, 10, 34]⟩ : ByteArray) [.string (⟨#[34, 97, 10, 34]⟩ : ByteArray)] from rfl) (Reps.one (show Kd.M Kd.string _ _ _ (⟨#[34, 92, 120, 34]⟩ : ByteArray) [.string (⟨#[34, 92, 120, 34]⟩ : ByteArray)] from rfl) (Reps.one (show Kd.M Kd.string _ _ _ (⟨#[34, 92]⟩ : ByteArray) [.string (⟨#[34, 92]⟩ : ByteArray)] from rfl) (Reps.one (show Kd.M Kd.string _ _ _ (⟨#[97, 32, 34, 98]⟩ : ByteArray) [.string (⟨#[97, 32, 34, 98]⟩ : ByteArray)] from rfl) (Reps.none _ _))))))))))))))))))); intro v139 w7 ho8 hb hg_ hnew_; clear hg_ hnew_; (first | rw [← Ny138.out] at ho8 | (simp only [Int.reduceToNat] at ho8; rw [← Ny138.out] at ho8)); have n0_ := Aside0.mk (Kd.R_lower ho8 (below_size (by repeat (first | (with_reducible first | exact HB.out | apply below_alloc | apply pw_below_drewN | apply below_drew1) | exact HB.out)))); have n1_ := Aside0.mk (below_step (by repeat (first | (with_reducible first | exact HB.out | apply below_alloc | apply pw_below_drewN | apply below_drew1) | exact HB.out)) hb); clear HB; have HO140 := n0_; have HB := n1_; clear n0_ n1_; clear hb ho8))
    (try simp only [Act.put, List.setIfInBounds_toArray, List.set_cons_zero, List.set_cons_succ])
    go_cut [7] (fun v7 wc => ∃ (kq : Nat) (x7_4 : Int), v7 = .int .i64 x7_4 ∧ Aside0 (tattlelaw13_LexForms.j0 kq a1 y138 (wrap64 (Int.tmod (IntKind.u64.wrap (a0)) 17)) x7_4 = some r) ∧ Aside0 (kq ≤ k) ∧ Aside0 (Kd.R Kd.string 9 wc w.heap.size (fun _ => True) v139 y138) ∧ Aside0 (Below w.heap.size w wc))
    case first =>
      have H := HC5.out
      clear HC5
      by_cases c9 : (wrap64 (Int.tmod (IntKind.u64.wrap (a0)) 17)) ≥ 12
      · rw [if_pos c9] at H
        have c9b0 : decide (12 ≤ (wrap64 (Int.tmod (IntKind.u64.wrap (a0)) 17))) = true := decide_eq_true c9
        clear c9
        (first | rw [c9b0] | (simp only [i64_w, i32_w]; rw [c9b0]) | skip)
        have H' := Aside0.mk H
        clear H
        go_wp2
        go_meet
        case rel => exact ⟨_, (1301), (by first | rfl | (simp; done) | (simp [*]; done)), H', ⟨by first | omega | exact Nat.le_refl _⟩, ⟨by (with_reducible repeat (first | apply Kd.R_alloc | apply Kd.R_drewN | apply Kd.R_drew)); exact HO140.out⟩, ⟨by repeat (first | (with_reducible first | exact HB.out | apply below_alloc | apply pw_below_drewN | apply below_drew1) | exact HB.out)⟩⟩
      · rw [if_neg c9] at H
        have c9b0 : decide (12 ≤ (wrap64 (Int.tmod (IntKind.u64.wrap (a0)) 17))) = false := decide_eq_false c9
        clear c9
        (first | rw [c9b0] | (simp only [i64_w, i32_w]; rw [c9b0]) | skip)
        have H' := Aside0.mk H
        clear H
        go_wp2
        go_meet
        case rel => exact ⟨_, (1300), (by first | rfl | (simp; done) | (simp [*]; done)), H', ⟨by first | omega | exact Nat.le_refl _⟩, ⟨by (with_reducible repeat (first | apply Kd.R_alloc | apply Kd.R_drewN | apply Kd.R_drew)); exact HO140.out⟩, ⟨by repeat (first | (with_reducible first | exact HB.out | apply below_alloc | apply pw_below_drewN | apply below_drew1) | exact HB.out)⟩⟩
    case rest =>
      clear HC5
      try clear c1
      try clear p2
      try clear c4
      try clear c5
      try clear p6
      try clear c9
      try clear c9b0
      obtain ⟨kq, x7_4, rfl, HA, HJ4, HO_5, HB⟩ := hcut
      cases kq with
      | zero => exact absurd HA.out (by simp [tattlelaw13_LexForms.j0])
      | succ kj4 =>
        have H := HA.out
        clear HA
        simp only [tattlelaw13_LexForms.j0] at H
        obtain ⟨ji10, hji10⟩ : ∃ j_ : Int, (wrap64 (Int.tmod (IntKind.u64.wrap (a0)) 17)) = j_ := ⟨_, rfl⟩
        replace H : (if 0 ≤ (ji10) then (if (ji10) < (y138.length : Int) then (if 4 + (rdOf ByteArray.empty y138 (ji10)).size ≤ 9223372036854775807 then ((lex_Tokens.f ((⟨#[97, 32, 123, 32]⟩ : ByteArray) ++ (rdOf ByteArray.empty y138 (ji10)))).bind fun bt142 => (tattlelaw13_LexForms.l0 kj4 a1 x7_4 bt142.1 bt142.2 (⟨#[]⟩ : ByteArray) 0)) else (none)) else (none)) else (none)) = some r := by first | (rw [hji10] at H; exact H) | (simp only [hji10] at H ⊢; exact H)
        have hji10w : (IntKind.i64.wrap (Int.tmod (IntKind.u64.wrap (a0)) 17)) = ji10 := (i64_w _).trans hji10
        by_cases c11 : 0 ≤ (ji10)
        · rw [if_pos c11] at H
          have c11b0 : decide (0 ≤ (ji10)) = true := decide_eq_true c11
          clear c11
          by_cases c12 : (ji10) < (y138.length : Int)
          · rw [if_pos c12] at H
            have c12b0 : decide ((ji10) < (y138.length : Int)) = true := decide_eq_true c12
            clear c12
            by_cases c13 : 4 + (rdOf ByteArray.empty y138 (ji10)).size ≤ 9223372036854775807
            · rw [if_pos c13] at H
              have c13b0 := eq_true c13
              have c13b1 : decide (4 + (rdOf ByteArray.empty y138 (ji10)).size ≤ 9223372036854775807) = true := decide_eq_true c13
              try have c13b2 : (9223372036854775807 < 4 + (rdOf ByteArray.empty y138 (ji10)).size) = False := eq_false (Nat.not_lt.2 c13)
              replace H := Option.bind_eq_some_iff.mp H
              obtain ⟨⟨t142, t143⟩, A140, H⟩ := H
              replace H : (tattlelaw13_LexForms.l0 kj4 a1 x7_4 t142 t143 (⟨#[]⟩ : ByteArray) 0) = some r := H
              have A14 := Aside0.mk A140
              clear A140
              have H' := Aside0.mk H
              clear H
              obtain ⟨Ao15, co15, eo15⟩ := Kd.R_slice HO_5.out
              subst eo15
              have p141 : 0 ≤ ((ji10) : Int) := of_decide_eq_true (by first | (with_reducible assumption) | assumption)
              have q141 : (ji10) < (y138.length : Int) := of_decide_eq_true (by first | (with_reducible assumption) | assumption)
              obtain ⟨ad141, e141, hx141_0⟩ := Kd.at_string (Kd.R_reads' HO_5.out).2.2 (ji10) p141 q141
              cases e141
              replace p141 := eq_true p141
              replace q141 := eq_true q141
              go_wp2_with (first | ((with_reducible refine gate_callee (f := 8) rfl ?_); refine goesL_ (some 40) rfl rfl Tryd.func8 (by kernel_rfl) rfl #[.string ((⟨#[97, 32, 123, 32]⟩ : ByteArray) ++ (rdOf ByteArray.empty y138 (ji10)))] rfl (by (try simp only [List.map_toArray, List.map_cons, List.map_nil]); first | done | (simp only [hji10]; rfl) | rfl | (simp only [List.length_drop, List.length_take]; rfl)) ?_; (with_reducible refine (lex_Tokens.calls ((⟨#[97, 32, 123, 32]⟩ : ByteArray) ++ (rdOf ByteArray.empty y138 (ji10))) t142 t143 _ A14.out).mono ?_); rintro e w16 ⟨v144, rfl, ho0, hb⟩; refine ⟨_, rfl, ?_⟩; have n0_ := Aside0.mk (Kd.R_below (by (with_reducible repeat (first | apply Kd.R_alloc | apply Kd.R_drewN | apply Kd.R_drew)); exact HO_5.out) hb); have n1_ := Aside0.mk (Kd.R_lower ho0 (below_size (by repeat (first | (with_reducible first | exact HB.out | apply below_alloc | apply pw_below_drewN | apply below_drew1) | exact HB.out)))); have n2_ := Aside0.mk (below_step (by repeat (first | (with_reducible first | exact HB.out | apply below_alloc | apply pw_below_drewN | apply below_drew1) | exact HB.out)) hb); clear HO_5; clear HB; have HO_5 := n0_; have HO145 := n1_; have HB := n2_; clear n0_ n1_ n2_; (try clear hb); (try clear hb2); (try clear hk); (try clear hi); (try clear ho0)))
              go_loopg [10, 11] kj4 (fun kq v10 v11 w' => ∃ (x10_2 : ByteArray) (x11_2 : Int), v10 = .string x10_2 ∧ v11 = .int .i64 x11_2 ∧ Aside0 (tattlelaw13_LexForms.l0 kq a1 x7_4 t142 t143 x10_2 x11_2 = some r) ∧ Aside0 (kq ≤ kj4) ∧ Aside0 (Kd.R k37 37 w' w.heap.size (fun _ => True) v144 t142) ∧ Aside0 (Below w.heap.size w w'))
              case atStart => exact ⟨((⟨#[]⟩ : ByteArray)), (0), (by first | rfl | (simp; done) | (simp [*]; done)), (by first | rfl | (simp; done) | (simp [*]; done)), H', ⟨Nat.le_refl _⟩, ⟨by (with_reducible repeat (first | apply Kd.R_alloc | apply Kd.R_drewN | apply Kd.R_drew)); exact HO145.out⟩, ⟨by repeat (first | (with_reducible first | exact HB.out | apply below_alloc | apply pw_below_drewN | apply below_drew1) | exact HB.out)⟩⟩
              case round =>
                clear H'
                try clear c1
                try clear p1
                try clear q1
                try clear hx1
                try clear p2
                try clear c4
                try clear c5
                try clear p6
                try clear c8
                try clear c9
                try clear c9b0
                try clear c11
                try clear c11b0
                try clear c12
                try clear c12b0
                try clear c13
                try clear c13b0
                try clear c13b1
                try clear c13b2
                try clear p14
                try clear q14
                try clear hx14
                try clear hx141_0
                try clear p141
                try clear p2
                try clear p6
                try clear q141
                obtain ⟨x10_2, x11_2, rfl, rfl, HA, HK2, HO_8, HB⟩ := hrel
                cases gk with
                | zero => exact absurd HA.out (by simp [tattlelaw13_LexForms.l0])
                | succ k2 =>
                  have H := HA.out
                  clear HA
                  simp only [tattlelaw13_LexForms.l0] at H
                  by_cases c17 : x11_2 < (wrap64 (29 + (Go.bits .and .i64 a1 7)))
                  · rw [if_pos c17] at H
                    have c17b0 : decide (x11_2 < (wrap64 (29 + (Go.bits .and .i64 a1 7)))) = true := decide_eq_true c17
                    clear c17
                    by_cases c18 : x10_2.size + 1 ≤ 9223372036854775807
                    · rw [if_pos c18] at H
                      have c18b0 := eq_true c18
                      have c18b1 : decide (x10_2.size + 1 ≤ 9223372036854775807) = true := decide_eq_true c18
                      try have c18b2 : (9223372036854775807 < x10_2.size + 1) = False := eq_false (Nat.not_lt.2 c18)
                      have H' := Aside0.mk H
                      clear H
                      go_wp2
                      go_roundg k2
                      case measure => have := HJ4.out; have := HK2.out; omega
                      case rel => exact ⟨(x10_2 ++ (⟨#[98]⟩ : ByteArray)), (wrap64 (x11_2 + 1)), (by first | rfl | (simp; done) | (simp [*]; done)), (by first | rfl | (simp; done) | (simp [*]; done)), H', ⟨by have := HJ4.out; have := HK2.out; omega⟩, ⟨by (with_reducible repeat (first | apply Kd.R_alloc | apply Kd.R_drewN | apply Kd.R_drew)); exact HO_8.out⟩, ⟨by repeat (first | (with_reducible first | exact HB.out | apply below_alloc | apply pw_below_drewN | apply below_drew1) | exact HB.out)⟩⟩
                    · rw [if_neg c18] at H
                      exact absurd H (by simp)
                  · rw [if_neg c17] at H
                    have c17b0 : decide (x11_2 < (wrap64 (29 + (Go.bits .and .i64 a1 7)))) = false := decide_eq_false c17
                    clear c17
                    by_cases c19 : x10_2.size + 1 ≤ 9223372036854775807
                    · rw [if_pos c19] at H
                      have c19b0 := eq_true c19
                      have c19b1 : decide (x10_2.size + 1 ≤ 9223372036854775807) = true := decide_eq_true c19
                      try have c19b2 : (9223372036854775807 < x10_2.size + 1) = False := eq_false (Nat.not_lt.2 c19)
                      by_cases c20 : (x10_2 ++ (⟨#[32]⟩ : ByteArray)).size + x10_2.size ≤ 9223372036854775807
                      · rw [if_pos c20] at H
                        have c20b0 := eq_true c20
                        have c20s : x10_2.size + 1 + x10_2.size ≤ 9223372036854775807 := by have := c20; rw [ByteArray.size_append] at this; exact this
                        have c20b5 := eq_true c20s
                        have c20b6 : decide (x10_2.size + 1 + x10_2.size ≤ 9223372036854775807) = true := decide_eq_true c20s
                        have c20b7 : (9223372036854775807 < x10_2.size + 1 + x10_2.size) = False := eq_false (Nat.not_lt.2 c20s)
                        clear c20s
                        have c20b1 : decide ((x10_2 ++ (⟨#[32]⟩ : ByteArray)).size + x10_2.size ≤ 9223372036854775807) = true := decide_eq_true c20
                        try have c20b2 : (9223372036854775807 < (x10_2 ++ (⟨#[32]⟩ : ByteArray)).size + x10_2.size) = False := eq_false (Nat.not_lt.2 c20)
                        replace H := Option.bind_eq_some_iff.mp H
                        obtain ⟨⟨t146, t147⟩, A210, H⟩ := H
                        replace H : (if 0 ≤ (wrap64 (253 + (Go.bits .and .i64 a1 7))) then (if (wrap64 (253 + (Go.bits .and .i64 a1 7)) : Int).toNat ≤ 281474976710656 then ((some (List.replicate (wrap64 (253 + (Go.bits .and .i64 a1 7)) : Int).toNat 0 : List Int)).bind fun y150 => (if 1 + (strOfNums y150).size ≤ 9223372036854775807 then (if ((⟨#[34]⟩ : ByteArray) ++ (strOfNums y150)).size + 1 ≤ 9223372036854775807 then ((lex_Tokens.f (((⟨#[34]⟩ : ByteArray) ++ (strOfNums y150)) ++ (⟨#[34]⟩ : ByteArray))).bind fun bt153 => (tattlelaw13_LexForms.l1 k2 x7_4 t142 t143 x10_2 t146 t147 (strOfNums y150) bt153.1 bt153.2 (⟨#[]⟩ : ByteArray) (wrap64 (2040 + (Go.bits .and .i64 a1 15))) 0)) else (none)) else (none))) else (none)) else (none)) = some r := H
                        have A21 := Aside0.mk A210
                        clear A210
                        obtain ⟨ji22, hji22⟩ : ∃ j_ : Int, (wrap64 (253 + (Go.bits .and .i64 a1 7))) = j_ := ⟨_, rfl⟩
                        replace H : (if 0 ≤ (ji22) then (if (ji22 : Int).toNat ≤ 281474976710656 then ((some (List.replicate (ji22 : Int).toNat 0 : List Int)).bind fun y150 => (if 1 + (strOfNums y150).size ≤ 9223372036854775807 then (if ((⟨#[34]⟩ : ByteArray) ++ (strOfNums y150)).size + 1 ≤ 9223372036854775807 then ((lex_Tokens.f (((⟨#[34]⟩ : ByteArray) ++ (strOfNums y150)) ++ (⟨#[34]⟩ : ByteArray))).bind fun bt153 => (tattlelaw13_LexForms.l1 k2 x7_4 t142 t143 x10_2 t146 t147 (strOfNums y150) bt153.1 bt153.2 (⟨#[]⟩ : ByteArray) (wrap64 (2040 + (Go.bits .and .i64 a1 15))) 0)) else (none)) else (none))) else (none)) else (none)) = some r := by first | (rw [hji22] at H; exact H) | (simp only [hji22] at H ⊢; exact H)
                        (try rw [hji22] at A21)
                        have hji22w : (IntKind.i64.wrap (253 + (Go.bits .and .i64 a1 7))) = ji22 := (i64_w _).trans hji22
                        by_cases c23 : 0 ≤ (ji22)
                        · rw [if_pos c23] at H
                          have c23b0 := eq_true c23
                          have c23b1 : decide (0 ≤ (ji22)) = true := decide_eq_true c23
                          clear c23
                          by_cases c24 : (ji22 : Int).toNat ≤ 281474976710656
                          · rw [if_pos c24] at H
                            have c24b0 := eq_true c24
                            have c24b1 : decide ((ji22 : Int).toNat ≤ 281474976710656) = true := decide_eq_true c24
                            clear c24
                            obtain ⟨y150, hy150⟩ : ∃ y_ : List Int, y_ = (List.replicate (ji22 : Int).toNat 0) := ⟨_, rfl⟩
                            replace H : (if 1 + (strOfNums y150).size ≤ 9223372036854775807 then (if ((⟨#[34]⟩ : ByteArray) ++ (strOfNums y150)).size + 1 ≤ 9223372036854775807 then ((lex_Tokens.f (((⟨#[34]⟩ : ByteArray) ++ (strOfNums y150)) ++ (⟨#[34]⟩ : ByteArray))).bind fun bt153 => (tattlelaw13_LexForms.l1 k2 x7_4 t142 t143 x10_2 t146 t147 (strOfNums y150) bt153.1 bt153.2 (⟨#[]⟩ : ByteArray) (wrap64 (2040 + (Go.bits .and .i64 a1 15))) 0)) else (none)) else (none)) = some r := by first | (rw [hy150]; with_reducible exact H) | (have H2_ := (Option.bind_some _ _).symm.trans H; rw [hy150]; with_reducible exact H2_) | (have H2_ := (Option.bind_some _ _).symm.trans H; with_reducible exact H2_) | with_reducible exact H | (rw [hy150]; exact H) | exact H
                            have Ny150 := Aside0.mk hy150
                            clear hy150
                            by_cases c25 : 1 + (strOfNums y150).size ≤ 9223372036854775807
                            · rw [if_pos c25] at H
                              have c25b0 := eq_true c25
                              have c25b1 : decide (1 + (strOfNums y150).size ≤ 9223372036854775807) = true := decide_eq_true c25
                              try have c25b2 : (9223372036854775807 < 1 + (strOfNums y150).size) = False := eq_false (Nat.not_lt.2 c25)
                              by_cases c26 : ((⟨#[34]⟩ : ByteArray) ++ (strOfNums y150)).size + 1 ≤ 9223372036854775807
                              · rw [if_pos c26] at H
                                have c26b0 := eq_true c26
                                have c26s : 1 + (strOfNums y150).size + 1 ≤ 9223372036854775807 := by have := c26; rw [ByteArray.size_append] at this; exact this
                                have c26b5 := eq_true c26s
                                have c26b6 : decide (1 + (strOfNums y150).size + 1 ≤ 9223372036854775807) = true := decide_eq_true c26s
                                have c26b7 : (9223372036854775807 < 1 + (strOfNums y150).size + 1) = False := eq_false (Nat.not_lt.2 c26s)
                                clear c26s
                                have c26b1 : decide (((⟨#[34]⟩ : ByteArray) ++ (strOfNums y150)).size + 1 ≤ 9223372036854775807) = true := decide_eq_true c26
                                try have c26b2 : (9223372036854775807 < ((⟨#[34]⟩ : ByteArray) ++ (strOfNums y150)).size + 1) = False := eq_false (Nat.not_lt.2 c26)
                                replace H := Option.bind_eq_some_iff.mp H
                                obtain ⟨⟨t153, t154⟩, A270, H⟩ := H
                                replace H : (tattlelaw13_LexForms.l1 k2 x7_4 t142 t143 x10_2 t146 t147 (strOfNums y150) t153 t154 (⟨#[]⟩ : ByteArray) (wrap64 (2040 + (Go.bits .and .i64 a1 15))) 0) = some r := H
                                have A27 := Aside0.mk A270
                                clear A270
                                have H' := Aside0.mk H
                                clear H
                                go_wp2_with (first | ((with_reducible refine gate_callee (f := 8) rfl ?_); refine goesL_ (some 57) rfl rfl Tryd.func8 (by kernel_rfl) rfl #[.string ((x10_2 ++ (⟨#[32]⟩ : ByteArray)) ++ x10_2)] rfl (by (try simp only [List.map_toArray, List.map_cons, List.map_nil]); first | done | rfl | (simp only [List.length_drop, List.length_take]; rfl)) ?_; (with_reducible refine (lex_Tokens.calls ((x10_2 ++ (⟨#[32]⟩ : ByteArray)) ++ x10_2) t146 t147 _ A21.out).mono ?_); rintro e w28 ⟨v148, rfl, ho0, hb⟩; refine ⟨_, rfl, ?_⟩; have n0_ := Aside0.mk (Kd.R_elder' (by (with_reducible repeat (first | apply Kd.R_alloc | apply Kd.R_drewN | apply Kd.R_drew)); exact HO_8.out) (Kd.R_base ho0) hb); have n1_ := Aside0.mk (Kd.R_lower (Kd.R_new' ho0 (Kd.R_lt (by (with_reducible repeat (first | apply Kd.R_alloc | apply Kd.R_drewN | apply Kd.R_drew)); exact HO_8.out))) (below_size (by repeat (first | (with_reducible first | exact HB.out | apply below_alloc | apply pw_below_drewN | apply below_drew1) | exact HB.out)))); have n2_ := Aside0.mk (below_step (by repeat (first | (with_reducible first | exact HB.out | apply below_alloc | apply pw_below_drewN | apply below_drew1) | exact HB.out)) hb); clear HO_8; clear HB; have HO_8 := n0_; have HO149 := n1_; have HB := n2_; clear n0_ n1_ n2_; (try clear hb); (try clear hb2); (try clear hk); (try clear hi); (try clear ho0)) | ((with_reducible refine gate_dst (N := 63) rfl ?_); (try (refine gate_guard (by rfl) ?_; dsimp only)); refine Kd.R_make (Kd.int .u8) _ 5 rfl (N := 63) rfl 39 _ _ rfl ji22 rfl rfl Tryd.underlying39 (.int .u8 0) 1 info5 rfl (by decide) (by omega) 0 (ok := fun _ => True) (okp := fun _ => True) rfl (fun _ hk => hk) trivial (of_decide_eq_true (by first | (with_reducible assumption) | assumption)) (Nat.le_trans (Nat.mul_le_mul_right _ (of_decide_eq_true (by first | (with_reducible assumption) | assumption) : ji22.toNat ≤ 281474976710656)) (by omega)) (Below.refl _ _) (Nat.le_refl _) ?_; intro v151 w29 ho30 hb hg_ hnew_; clear hg_ hnew_; (first | rw [← Ny150.out] at ho30 | (simp only [Int.reduceToNat] at ho30; rw [← Ny150.out] at ho30)); have n0_ := Aside0.mk (Kd.R_below (by (with_reducible repeat (first | apply Kd.R_alloc | apply Kd.R_drewN | apply Kd.R_drew)); exact HO_8.out) hb); have n1_ := Aside0.mk (Kd.R_below (by (with_reducible repeat (first | apply Kd.R_alloc | apply Kd.R_drewN | apply Kd.R_drew)); exact HO149.out) hb); have n2_ := Aside0.mk (Kd.R_lower ho30 (below_size (by repeat (first | (with_reducible first | exact HB.out | apply below_alloc | apply pw_below_drewN | apply below_drew1) | exact HB.out)))); have n3_ := Aside0.mk (below_step (by repeat (first | (with_reducible first | exact HB.out | apply below_alloc | apply pw_below_drewN | apply below_drew1) | exact HB.out)) hb); clear HO_8; clear HO149; clear HB; have HO_8 := n0_; have HO149 := n1_; have HO152 := n2_; have HB := n3_; clear n0_ n1_ n2_ n3_; clear hb ho30; have hcv31 := own_string (P := Tryd.prog) Tryd.underlying39 Tryd.underlying5 Tryd.underlying9 (Kd.own_of_R HO152.out)) | ((with_reducible refine gate_callee (f := 8) rfl ?_); refine goesL_ (some 69) rfl rfl Tryd.func8 (by kernel_rfl) rfl #[.string (((⟨#[34]⟩ : ByteArray) ++ (strOfNums y150)) ++ (⟨#[34]⟩ : ByteArray))] rfl (by (try simp only [List.map_toArray, List.map_cons, List.map_nil]); first | done | rfl | (simp only [List.length_drop, List.length_take]; rfl)) ?_; (with_reducible refine (lex_Tokens.calls (((⟨#[34]⟩ : ByteArray) ++ (strOfNums y150)) ++ (⟨#[34]⟩ : ByteArray)) t153 t154 _ A27.out).mono ?_); rintro e w32 ⟨v155, rfl, ho0, hb⟩; refine ⟨_, rfl, ?_⟩; have n0_ := Aside0.mk (Kd.R_elder' (by (with_reducible repeat (first | apply Kd.R_alloc | apply Kd.R_drewN | apply Kd.R_drew)); exact HO_8.out) (Kd.R_base ho0) hb); have n1_ := Aside0.mk (Kd.R_elder' (by (with_reducible repeat (first | apply Kd.R_alloc | apply Kd.R_drewN | apply Kd.R_drew)); exact HO149.out) (Kd.R_base ho0) hb); have n2_ := Aside0.mk (Kd.R_below (by (with_reducible repeat (first | apply Kd.R_alloc | apply Kd.R_drewN | apply Kd.R_drew)); exact HO152.out) hb); have n3_ := Aside0.mk (Kd.R_lower (Kd.R_new' (Kd.R_new' ho0 (Kd.R_lt (by (with_reducible repeat (first | apply Kd.R_alloc | apply Kd.R_drewN | apply Kd.R_drew)); exact HO_8.out))) (Kd.R_lt (by (with_reducible repeat (first | apply Kd.R_alloc | apply Kd.R_drewN | apply Kd.R_drew)); exact HO149.out))) (below_size (by repeat (first | (with_reducible first | exact HB.out | apply below_alloc | apply pw_below_drewN | apply below_drew1) | exact HB.out)))); have n4_ := Aside0.mk (below_step (by repeat (first | (with_reducible first | exact HB.out | apply below_alloc | apply pw_below_drewN | apply below_drew1) | exact HB.out)) hb); clear HO_8; clear HO149; clear HO152; clear HB; have HO_8 := n0_; have HO149 := n1_; have HO152 := n2_; have HO156 := n3_; have HB := n4_; clear n0_ n1_ n2_ n3_ n4_; (try clear hb); (try clear hb2); (try clear hk); (try clear hi); (try clear ho0)))
                                go_loopg [17, 19] k2 (fun kq v17 v19 w' => ∃ (x17_3 : ByteArray) (x19_3 : Int), v17 = .string x17_3 ∧ v19 = .int .i64 x19_3 ∧ Aside0 (tattlelaw13_LexForms.l1 kq x7_4 t142 t143 x10_2 t146 t147 (strOfNums y150) t153 t154 x17_3 (wrap64 (2040 + (Go.bits .and .i64 a1 15))) x19_3 = some r) ∧ Aside0 (kq ≤ k2) ∧ Aside0 (Kd.R k37 37 w' w.heap.size (fun k_ => some k_ ≠ (v148 : Value).ownBlock ∧ some k_ ≠ (v155 : Value).ownBlock) v144 t142) ∧ Aside0 (Kd.R k37 37 w' w.heap.size (fun k_ => some k_ ≠ (v144 : Value).ownBlock ∧ some k_ ≠ (v155 : Value).ownBlock) v148 t146) ∧ Aside0 (Kd.R k37 37 w' w.heap.size (fun k_ => some k_ ≠ (v144 : Value).ownBlock ∧ some k_ ≠ (v148 : Value).ownBlock) v155 t153) ∧ Aside0 (Below w.heap.size w w'))
                                case atStart => exact ⟨((⟨#[]⟩ : ByteArray)), (0), (by first | rfl | (simp; done) | (simp [*]; done)), (by first | rfl | (simp; done) | (simp [*]; done)), H', ⟨Nat.le_refl _⟩, ⟨by (with_reducible repeat (first | apply Kd.R_alloc | apply Kd.R_drewN | apply Kd.R_drew)); exact Kd.R_mono HO_8.out (fun _ hk => ⟨hk.1.2, hk.2⟩)⟩, ⟨by (with_reducible repeat (first | apply Kd.R_alloc | apply Kd.R_drewN | apply Kd.R_drew)); exact Kd.R_mono HO149.out (fun _ hk => ⟨hk.1.2, hk.2⟩)⟩, ⟨by (with_reducible repeat (first | apply Kd.R_alloc | apply Kd.R_drewN | apply Kd.R_drew)); exact Kd.R_mono HO156.out (fun _ hk => ⟨hk.1.2, hk.2⟩)⟩, ⟨by repeat (first | (with_reducible first | exact HB.out | apply below_alloc | apply pw_below_drewN | apply below_drew1) | exact HB.out)⟩⟩
                                case round =>
                                  clear H'
                                  try clear c1
                                  try clear p1
                                  try clear q1
                                  try clear hx1
                                  try clear c2
                                  try clear p2
                                  try clear hcv3
                                  try clear c4
                                  try clear c5
                                  try clear p6
                                  try clear c8
                                  try clear c9
                                  try clear c9b0
                                  try clear c11
                                  try clear c11b0
                                  try clear c12
                                  try clear c12b0
                                  try clear c13
                                  try clear c13b0
                                  try clear c13b1
                                  try clear c13b2
                                  try clear p14
                                  try clear q14
                                  try clear hx14
                                  try clear c17
                                  try clear c17b0
                                  try clear c18
                                  try clear c18b0
                                  try clear c18b1
                                  try clear c18b2
                                  try clear c19
                                  try clear c19b0
                                  try clear c19b1
                                  try clear c19b2
                                  try clear c20
                                  try clear c20b0
                                  try clear c20b1
                                  try clear c20b2
                                  try clear c23
                                  try clear c23b0
                                  try clear c23b1
                                  try clear c24
                                  try clear c24b0
                                  try clear c24b1
                                  try clear c25
                                  try clear c25b0
                                  try clear c25b1
                                  try clear c25b2
                                  try clear c26
                                  try clear c26b0
                                  try clear c26b1
                                  try clear c26b2
                                  try clear hcv31
                                  try clear hx141_0
                                  try clear p1
                                  try clear p14
                                  try clear p141
                                  try clear p2
                                  try clear p6
                                  try clear q1
                                  try clear q14
                                  try clear q141
                                  obtain ⟨x17_3, x19_3, rfl, rfl, HA, HK3, HO_8, HO_12, HO_15, HB⟩ := hrel
                                  cases gk with
                                  | zero => exact absurd HA.out (by simp [tattlelaw13_LexForms.l1])
                                  | succ k3 =>
                                    have H := HA.out
                                    clear HA
                                    simp only [tattlelaw13_LexForms.l1] at H
                                    by_cases c33 : x19_3 < (wrap64 (2040 + (Go.bits .and .i64 a1 15)))
                                    · rw [if_pos c33] at H
                                      have c33b0 : decide (x19_3 < (wrap64 (2040 + (Go.bits .and .i64 a1 15)))) = true := decide_eq_true c33
                                      clear c33
                                      by_cases c34 : x17_3.size + 1 ≤ 9223372036854775807
                                      · rw [if_pos c34] at H
                                        have c34b0 := eq_true c34
                                        have c34b1 : decide (x17_3.size + 1 ≤ 9223372036854775807) = true := decide_eq_true c34
                                        try have c34b2 : (9223372036854775807 < x17_3.size + 1) = False := eq_false (Nat.not_lt.2 c34)
                                        have H' := Aside0.mk H
                                        clear H
                                        go_wp2
                                        go_roundg k3
                                        case measure => have := HJ4.out; have := HK2.out; have := HK3.out; omega
                                        case rel => exact ⟨(x17_3 ++ (⟨#[123]⟩ : ByteArray)), (wrap64 (x19_3 + 1)), (by first | rfl | (simp; done) | (simp [*]; done)), (by first | rfl | (simp; done) | (simp [*]; done)), H', ⟨by have := HJ4.out; have := HK2.out; have := HK3.out; omega⟩, ⟨by (with_reducible repeat (first | apply Kd.R_alloc | apply Kd.R_drewN | apply Kd.R_drew)); exact HO_8.out⟩, ⟨by (with_reducible repeat (first | apply Kd.R_alloc | apply Kd.R_drewN | apply Kd.R_drew)); exact HO_12.out⟩, ⟨by (with_reducible repeat (first | apply Kd.R_alloc | apply Kd.R_drewN | apply Kd.R_drew)); exact HO_15.out⟩, ⟨by repeat (first | (with_reducible first | exact HB.out | apply below_alloc | apply pw_below_drewN | apply below_drew1) | exact HB.out)⟩⟩
                                      · rw [if_neg c34] at H
                                        exact absurd H (by simp)
                                    · rw [if_neg c33] at H
                                      have c33b0 : decide (x19_3 < (wrap64 (2040 + (Go.bits .and .i64 a1 15)))) = false := decide_eq_false c33
                                      clear c33
                                      replace H := Option.bind_eq_some_iff.mp H
                                      obtain ⟨⟨t157, t158⟩, A350, H⟩ := H
                                      replace H : (if (t142.length : Int) = 0 then ((tattlelaw0_Num.f t143).bind fun t161 => (if t161 = x7_4 then ((tattlelaw0_Num.f t147).bind fun t162 => (if ((t162 == 0) == (decide ((x10_2.size : Int) ≤ 32))) = true then (if (x10_2.size : Int) ≤ 32 then (if (t146.length : Int) = 2 then ((tattlelaw0_Num.f t154).bind fun t163 => (if ((t163 == 0) == (decide (((strOfNums y150).size : Int) ≤ 256))) = true then (if ((strOfNums y150).size : Int) ≤ 256 then (if (t153.length : Int) = 1 then (if (wrap64 (2040 + (Go.bits .and .i64 a1 15))) ≤ 2048 then ((tattlelaw0_Num.f t158).bind fun t164 => (if t164 = 0 then (if (t157.length : Int) = (wrap64 (2040 + (Go.bits .and .i64 a1 15))) then (some true) else (some false)) else (some false))) else ((tattlelaw0_Num.f t158).bind fun t165 => (if t165 = 1302 then (some ((t157.length : Int) == 0)) else (some false)))) else ((tattlelaw0_Num.f t154).bind fun t166 => (if t166 = 1301 then (if (wrap64 (2040 + (Go.bits .and .i64 a1 15))) ≤ 2048 then ((tattlelaw0_Num.f t158).bind fun t167 => (if t167 = 0 then (if (t157.length : Int) = (wrap64 (2040 + (Go.bits .and .i64 a1 15))) then (some true) else (some false)) else (some false))) else ((tattlelaw0_Num.f t158).bind fun t168 => (if t168 = 1302 then (some ((t157.length : Int) == 0)) else (some false)))) else (some false)))) else ((tattlelaw0_Num.f t154).bind fun t169 => (if t169 = 1301 then (if (wrap64 (2040 + (Go.bits .and .i64 a1 15))) ≤ 2048 then ((tattlelaw0_Num.f t158).bind fun t170 => (if t170 = 0 then (if (t157.length : Int) = (wrap64 (2040 + (Go.bits .and .i64 a1 15))) then (some true) else (some false)) else (some false))) else ((tattlelaw0_Num.f t158).bind fun t171 => (if t171 = 1302 then (some ((t157.length : Int) == 0)) else (some false)))) else (some false)))) else (some false))) else ((tattlelaw0_Num.f t147).bind fun t172 => (if t172 = 1300 then ((tattlelaw0_Num.f t154).bind fun t173 => (if ((t173 == 0) == (decide (((strOfNums y150).size : Int) ≤ 256))) = true then (if ((strOfNums y150).size : Int) ≤ 256 then (if (t153.length : Int) = 1 then (if (wrap64 (2040 + (Go.bits .and .i64 a1 15))) ≤ 2048 then ((tattlelaw0_Num.f t158).bind fun t174 => (if t174 = 0 then (if (t157.length : Int) = (wrap64 (2040 + (Go.bits .and .i64 a1 15))) then (some true) else (some false)) else (some false))) else ((tattlelaw0_Num.f t158).bind fun t175 => (if t175 = 1302 then (some ((t157.length : Int) == 0)) else (some false)))) else ((tattlelaw0_Num.f t154).bind fun t176 => (if t176 = 1301 then (if (wrap64 (2040 + (Go.bits .and .i64 a1 15))) ≤ 2048 then ((tattlelaw0_Num.f t158).bind fun t177 => (if t177 = 0 then (if (t157.length : Int) = (wrap64 (2040 + (Go.bits .and .i64 a1 15))) then (some true) else (some false)) else (some false))) else ((tattlelaw0_Num.f t158).bind fun t178 => (if t178 = 1302 then (some ((t157.length : Int) == 0)) else (some false)))) else (some false)))) else ((tattlelaw0_Num.f t154).bind fun t179 => (if t179 = 1301 then (if (wrap64 (2040 + (Go.bits .and .i64 a1 15))) ≤ 2048 then ((tattlelaw0_Num.f t158).bind fun t180 => (if t180 = 0 then (if (t157.length : Int) = (wrap64 (2040 + (Go.bits .and .i64 a1 15))) then (some true) else (some false)) else (some false))) else ((tattlelaw0_Num.f t158).bind fun t181 => (if t181 = 1302 then (some ((t157.length : Int) == 0)) else (some false)))) else (some false)))) else (some false))) else (some false)))) else ((tattlelaw0_Num.f t147).bind fun t182 => (if t182 = 1300 then ((tattlelaw0_Num.f t154).bind fun t183 => (if ((t183 == 0) == (decide (((strOfNums y150).size : Int) ≤ 256))) = true then (if ((strOfNums y150).size : Int) ≤ 256 then (if (t153.length : Int) = 1 then (if (wrap64 (2040 + (Go.bits .and .i64 a1 15))) ≤ 2048 then ((tattlelaw0_Num.f t158).bind fun t184 => (if t184 = 0 then (if (t157.length : Int) = (wrap64 (2040 + (Go.bits .and .i64 a1 15))) then (some true) else (some false)) else (some false))) else ((tattlelaw0_Num.f t158).bind fun t185 => (if t185 = 1302 then (some ((t157.length : Int) == 0)) else (some false)))) else ((tattlelaw0_Num.f t154).bind fun t186 => (if t186 = 1301 then (if (wrap64 (2040 + (Go.bits .and .i64 a1 15))) ≤ 2048 then ((tattlelaw0_Num.f t158).bind fun t187 => (if t187 = 0 then (if (t157.length : Int) = (wrap64 (2040 + (Go.bits .and .i64 a1 15))) then (some true) else (some false)) else (some false))) else ((tattlelaw0_Num.f t158).bind fun t188 => (if t188 = 1302 then (some ((t157.length : Int) == 0)) else (some false)))) else (some false)))) else ((tattlelaw0_Num.f t154).bind fun t189 => (if t189 = 1301 then (if (wrap64 (2040 + (Go.bits .and .i64 a1 15))) ≤ 2048 then ((tattlelaw0_Num.f t158).bind fun t190 => (if t190 = 0 then (if (t157.length : Int) = (wrap64 (2040 + (Go.bits .and .i64 a1 15))) then (some true) else (some false)) else (some false))) else ((tattlelaw0_Num.f t158).bind fun t191 => (if t191 = 1302 then (some ((t157.length : Int) == 0)) else (some false)))) else (some false)))) else (some false))) else (some false)))) else (some false))) else (some false))) else (some false)) = some r := H
                                      have A35 := Aside0.mk A350
                                      clear A350
                                      have hsp := forms_split _ _ _ _ _ _ _ _ _ _ _ _ (H.trans (congrArg some hr))
                                      clear H
                                      subst hr
                                      obtain ⟨e1, e2, e3, e4, e5⟩ := hsp
                                      subst e2
                                      obtain ⟨Ao1, co1, ev1⟩ := Kd.R_slice HO_8.out; subst ev1
                                      obtain ⟨Ao2, co2, ev2⟩ := Kd.R_slice HO_12.out; subst ev2
                                      obtain ⟨Ao3, co3, ev3⟩ := Kd.R_slice HO_15.out; subst ev3
                                      generalize wrap64 (2040 + (Go.bits .and .i64 a1 15)) = mm at *
                                      generalize strOfNums y150 = yy at *
                                      clear HO_8 HO_12 HO_15
                                      go_wp2_with fail
                                      refine (tokens_at _ _ _ _ A35.out).mono ?_
                                      rintro e wz ⟨Az, cz, rfl, _, _, hb⟩
                                      have HBz := Aside0.mk (below_step (by repeat (first | (with_reducible first | exact HB.out | apply below_alloc | apply pw_below_drewN | apply below_drew1) | exact HB.out)) hb); clear hb
                                      rcases e3 with ⟨a1, rfl, a2⟩ | ⟨a1, rfl⟩ <;> rcases e4 with ⟨b1, rfl, b2⟩ | ⟨b1, rfl⟩ <;> rcases e5 with ⟨c1, rfl, c2⟩ | ⟨c1, rfl, c2⟩
                                      all_goals
                                        (first | have d1 : decide ((x10_2.size : Int) ≤ 32) = true := decide_eq_true (by omega) | have d1 : decide ((x10_2.size : Int) ≤ 32) = false := decide_eq_false (by omega))
                                        (first | have d2 : decide ((yy.size : Int) ≤ 256) = true := decide_eq_true (by omega) | have d2 : decide ((yy.size : Int) ≤ 256) = false := decide_eq_false (by omega))
                                        (first | have d3 : decide (mm ≤ 2048) = true := decide_eq_true (by omega) | have d3 : decide (mm ≤ 2048) = false := decide_eq_false (by omega))
                                        clear A35
                                        go_wp2_with (go_at_call 11; refine (num_any _ _).mono ?_; rintro e w' ⟨rfl, ⟨n, rfl⟩⟩)
                                        go_ret
                                        exact ⟨by first | rfl | simp [*], by repeat (first | (with_reducible first | exact HBz.out | apply below_alloc | apply pw_below_drewN | apply below_drew1) | exact HBz.out)⟩
                              · rw [if_neg c26] at H
                                exact absurd H (by simp)
                            · rw [if_neg c25] at H
                              exact absurd H (by simp)
                          · rw [if_neg c24] at H
                            exact absurd H (by simp)
                        · rw [if_neg c23] at H
                          exact absurd H (by simp)
                      · rw [if_neg c20] at H
                        exact absurd H (by simp)
                    · rw [if_neg c19] at H
                      exact absurd H (by simp)
            · rw [if_neg c13] at H
              exact absurd H (by simp)
          · rw [if_neg c12] at H
            exact absurd H (by simp)
        · rw [if_neg c11] at H
          exact absurd H (by simp)
  · replace c4 := Bool.eq_false_iff.mpr c4
    subst c4
    have H1 : (some false) = some r := by rw [if_neg (show ¬ (false = true) by decide)] at H; exact H
    clear H
    have H := H1
    clear H1
    obtain rfl := Option.some.inj H
    go_enter Tryd.func5, Tryd.ntmps5
    simp only [List.append_eq, List.cons_append, List.nil_append]
    go_wp2_with (first | ((with_reducible refine gate_callee (f := 12) rfl ?_); refine goesL_ (some 25) rfl rfl Tryd.func12 (by kernel_rfl) rfl #[] rfl (by (try simp only [List.map_toArray, List.map_cons, List.map_nil]); first | done | rfl | (simp only [List.length_drop, List.length_take]; rfl)) ?_; (with_reducible refine (tattlelaw13_awake.calls k  false _ A3.out).mono ?_); rintro e w340 ⟨rfl, hb⟩; refine ⟨_, rfl, ?_⟩; have n0_ := Aside0.mk (below_step (by repeat (first | (with_reducible first | exact HB.out | apply below_alloc | apply pw_below_drewN | apply below_drew1) | exact HB.out)) hb); clear HB; have HB := n0_; clear n0_; (try clear hb); (try clear hb2); (try clear hk); (try clear hi)))
    go_ret
    exact ⟨by first | rfl | (simp [errW_none, errW_some] <;> rfl) | (simp [*, errW_none, errW_some] <;> rfl), by repeat (first | (with_reducible first | exact HB.out | apply below_alloc | apply pw_below_drewN | apply below_drew1) | exact HB.out)⟩

/-- THE ONE PURE STATEMENT of tattlelaw13_LexForms: yours. -/
def tattlelaw13_LexForms.Pure : Prop := ∀ (a0 : Int) (a1 : Int), (Lit.int .i64 a0).wf = true → (Lit.int .i64 a1).wf = true → ∃ k, tattlelaw13_LexForms.f k a0 a1 = some true
theorem tattlelaw13_LexForms.walk (P : tattlelaw13_LexForms.Pure) (a0 : Int) (a1 : Int) (w : World) (w0 : (Lit.int .i64 a0).wf = true) (w1 : (Lit.int .i64 a1).wf = true) :
    Calls Tryd.prog 5 #[.int .i64 a0, .int .i64 a1] w fun e w' => e = .returned (.bool true) ∧ Below w.heap.size w w' := by
  obtain ⟨k, h⟩ := P a0 a1 w0 w1
  refine (tattlelaw13_LexForms.calls k a0 a1 true rfl w h).mono ?_
  rintro e w' ⟨rfl, hd⟩
  exact ⟨rfl, hd⟩

end Go.Proofs.YtapbpmpeikobcaaDoor.Q
