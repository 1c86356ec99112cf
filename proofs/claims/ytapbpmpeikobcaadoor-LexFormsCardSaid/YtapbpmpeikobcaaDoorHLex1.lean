/- What the lexer's small functions answer: kinds of bytes, how far they go on, what stands behind a backslash. No condition. -/
import Derived.Test.YtapbpmpeikobcaaDoorHBase
import Derived.Test.YtapbpmpeikobcaaDoorHLib
import Derived.Test.YtapbpmpeikobcaaDoorHLexF
import Derived.Outline
import Derived.Deep.RegionLaw
set_option linter.unusedVariables false
set_option linter.unusedSimpArgs false
namespace Go.Proofs.YtapbpmpeikobcaaDoor.Q
open Go.RowKit Go.Proofs.YtapbpmpeikobcaaDoorW.PrintWords Go.Proofs.YtapbpmpeikobcaaDoorW.PrintLast Go.Proofs.YtapbpmpeikobcaaDoorW.PrintMore

theorem digit_any (c : UInt8) (w : World) : Calls Tryd.prog 29 #[.int .u8 c.toNat] w fun e w' => e = .returned (.bool (Lx.isDigit c)) ∧ w' = w := by
  unfold Lx.isDigit
  have hc := c.toNat_lt
  generalize c.toNat = n at *
  go_enter Tryd.func29, Tryd.ntmps29
  go_wp2
  all_goals
    go_ret
    refine ⟨congrArg (fun b => Ending.returned (Value.bool b)) ?_, rfl⟩
    rw [Bool.eq_iff_iff]; simp; try omega
theorem first_any (c : UInt8) (w : World) : Calls Tryd.prog 27 #[.int .u8 c.toNat] w fun e w' => e = .returned (.bool (Lx.isFirst c)) ∧ w' = w := by
  unfold Lx.isFirst
  have hc := c.toNat_lt
  generalize c.toNat = n at *
  go_enter Tryd.func27, Tryd.ntmps27
  go_wp2
  all_goals
    go_ret
    refine ⟨congrArg (fun b => Ending.returned (Value.bool b)) ?_, rfl⟩
    rw [Bool.eq_iff_iff]; simp; try omega
theorem word_any (c : UInt8) (w : World) : Calls Tryd.prog 36 #[.int .u8 c.toNat] w fun e w' => e = .returned (.bool (Lx.isWord c)) ∧ w' = w := by
  unfold Lx.isWord
  go_enter Tryd.func36, Tryd.ntmps36
  go_wp2_with (first
    | (go_at_call 27; refine (first_any c _).mono ?_; rintro e w' ⟨rfl, rfl⟩)
    | (go_at_call 29; refine (digit_any c _).mono ?_; rintro e w' ⟨rfl, rfl⟩))
  all_goals
    go_ret
    refine ⟨congrArg (fun b => Ending.returned (Value.bool b)) ?_, rfl⟩
    simp [*]

/-- The lexer at block g stands at a place, with the tokens in v. -/
def IsLx (W : World) (g : Nat) (s : ByteArray) (p : Nat) (v : Value) : Prop := W.heap[g]? = some (.cells #[.string s, .int .i64 p, v] 44 (0, 0))
theorem IsLx.cells {W : World} {g : Nat} {s : ByteArray} {p : Nat} {v : Value} (h : IsLx W g s p v) :
    W.cell? ⟨g, 0, none⟩ = some (.string s) ∧ W.cell? ⟨g, 1, none⟩ = some (.int .i64 p) ∧ W.cell? ⟨g, 2, none⟩ = some v ∧ W.frozen? ⟨g, 1, none⟩ = false ∧ W.frozen? ⟨g, 2, none⟩ = false :=
  ⟨(blk_cell h 0).trans rfl, (blk_cell h 1).trans rfl, (blk_cell h 2).trans rfl, blk_frozen h 1, blk_frozen h 2⟩
theorem IsLx.at_ {W : World} {g : Nat} {s : ByteArray} {p : Nat} {v : Value} (h : IsLx W g s p v) (q : Nat) : IsLx (W.setCell ⟨g, 1, none⟩ (.int .i64 q)) g s q v := by unfold IsLx at *; simpa using blk_set h 1 (.int .i64 q)
theorem IsLx.out {W : World} {g : Nat} {s : ByteArray} {p : Nat} {v : Value} (h : IsLx W g s p v) (u : Value) : IsLx (W.setCell ⟨g, 2, none⟩ u) g s p u := by unfold IsLx at *; simpa using blk_set h 2 u
theorem bs_drop (s : ByteArray) (k : Nat) (h : k < s.size) : (bs s).drop k = s[k] :: (bs s).drop (k + 1) := by
  have hl : k < (bs s).length := by rw [bs_length]; exact h
  rw [List.drop_eq_getElem_cons hl]; rfl
theorem run_digit (g : Nat) (s : ByteArray) (p : Nat) (v : Value) (i : Nat) (w : World) (hs : s.size ≤ 140737488351232) (hi : i ≤ s.size) (h : IsLx w g s p v) :
    Calls Tryd.prog 35 #[.pointer (some ⟨g, 0, none⟩), .int .i64 i, .func (.func 29) #[] #[]] w fun e w' => e = .returned (.int .i64 ((i + Lx.run Lx.isDigit ((bs s).drop i) : Nat) : Int)) ∧ w' = w := by
  obtain ⟨R, hR⟩ : ∃ R : Nat, R = i + Lx.run Lx.isDigit ((bs s).drop i) := ⟨_, rfl⟩
  rw [← hR]
  have HR0 := Aside0.mk hR.symm; clear hR
  obtain ⟨hc0, hc1, hc2, hf1, hf2⟩ := h.cells
  go_enter Tryd.func35, Tryd.ntmps35
  go_wp2_with fail
  go_loop [1] (fun x => ∃ k : Nat, x = .int .i64 k ∧ k ≤ s.size ∧ Aside0 (k + Lx.run Lx.isDigit ((bs s).drop k) = R)) (fun x => s.size - (intOf x).toNat)
  case atStart => exact ⟨i, rfl, hi, HR0⟩
  case round =>
    obtain ⟨k, rfl, hk, hr⟩ := hrel
    by_cases hlt : k < s.size
    · have hd := bs_drop s k hlt
      by_cases hw : Lx.isDigit s[k] = true
      · have hr2 : k + 1 + Lx.run Lx.isDigit ((bs s).drop (k + 1)) = R := by
          rw [← hr.out, hd, Lx.run_yes hw]; omega
        have HR := Aside0.mk hr2; clear hr2 hd hr
        have HC : ∀ w, Calls Tryd.prog 29 #[.int .u8 s[k].toNat] w fun e w' => e = .returned (.bool true) ∧ w' = w := fun w => by rw [← hw]; exact digit_any _ w
        have HC := Aside0.mk HC; clear hw
        go_wp2_with (go_at_call 29; refine (HC.out _).mono ?_; rintro e w' ⟨rfl, rfl⟩)
        go_round
        case rel => exact ⟨k + 1, by go_num, by omega, HR⟩
        case measure => simp [intOf]; omega
      · have hw' : Lx.isDigit s[k] = false := by simpa using hw
        have hr2 : k = R := by
          rw [← hr.out, hd, Lx.run_no hw']; omega
        have HR := Aside0.mk hr2; clear hr2 hd hr hw
        have HC : ∀ w, Calls Tryd.prog 29 #[.int .u8 s[k].toNat] w fun e w' => e = .returned (.bool false) ∧ w' = w := fun w => by rw [← hw']; exact digit_any _ w
        have HC := Aside0.mk HC; clear hw'
        go_wp2_with (go_at_call 29; refine (HC.out _).mono ?_; rintro e w' ⟨rfl, rfl⟩)
        go_ret
        obtain rfl := HR.out
        exact ⟨rfl, rfl⟩
    · have hr2 : k = R := by
        rw [← hr.out, List.drop_of_length_le (by rw [bs_length]; omega), Lx.run_nil]; omega
      have HR := Aside0.mk hr2; clear hr2 hr
      go_wp2_with fail
      go_ret
      obtain rfl := HR.out
      exact ⟨rfl, rfl⟩
theorem run_word (g : Nat) (s : ByteArray) (p : Nat) (v : Value) (i : Nat) (w : World) (hs : s.size ≤ 140737488351232) (hi : i ≤ s.size) (h : IsLx w g s p v) :
    Calls Tryd.prog 35 #[.pointer (some ⟨g, 0, none⟩), .int .i64 i, .func (.func 36) #[] #[]] w fun e w' => e = .returned (.int .i64 ((i + Lx.run Lx.isWord ((bs s).drop i) : Nat) : Int)) ∧ w' = w := by
  obtain ⟨R, hR⟩ : ∃ R : Nat, R = i + Lx.run Lx.isWord ((bs s).drop i) := ⟨_, rfl⟩
  rw [← hR]
  have HR0 := Aside0.mk hR.symm; clear hR
  obtain ⟨hc0, hc1, hc2, hf1, hf2⟩ := h.cells
  go_enter Tryd.func35, Tryd.ntmps35
  go_wp2_with fail
  go_loop [1] (fun x => ∃ k : Nat, x = .int .i64 k ∧ k ≤ s.size ∧ Aside0 (k + Lx.run Lx.isWord ((bs s).drop k) = R)) (fun x => s.size - (intOf x).toNat)
  case atStart => exact ⟨i, rfl, hi, HR0⟩
  case round =>
    obtain ⟨k, rfl, hk, hr⟩ := hrel
    by_cases hlt : k < s.size
    · have hd := bs_drop s k hlt
      by_cases hw : Lx.isWord s[k] = true
      · have hr2 : k + 1 + Lx.run Lx.isWord ((bs s).drop (k + 1)) = R := by
          rw [← hr.out, hd, Lx.run_yes hw]; omega
        have HR := Aside0.mk hr2; clear hr2 hd hr
        have HC : ∀ w, Calls Tryd.prog 36 #[.int .u8 s[k].toNat] w fun e w' => e = .returned (.bool true) ∧ w' = w := fun w => by rw [← hw]; exact word_any _ w
        have HC := Aside0.mk HC; clear hw
        go_wp2_with (go_at_call 36; refine (HC.out _).mono ?_; rintro e w' ⟨rfl, rfl⟩)
        go_round
        case rel => exact ⟨k + 1, by go_num, by omega, HR⟩
        case measure => simp [intOf]; omega
      · have hw' : Lx.isWord s[k] = false := by simpa using hw
        have hr2 : k = R := by
          rw [← hr.out, hd, Lx.run_no hw']; omega
        have HR := Aside0.mk hr2; clear hr2 hd hr hw
        have HC : ∀ w, Calls Tryd.prog 36 #[.int .u8 s[k].toNat] w fun e w' => e = .returned (.bool false) ∧ w' = w := fun w => by rw [← hw']; exact word_any _ w
        have HC := Aside0.mk HC; clear hw'
        go_wp2_with (go_at_call 36; refine (HC.out _).mono ?_; rintro e w' ⟨rfl, rfl⟩)
        go_ret
        obtain rfl := HR.out
        exact ⟨rfl, rfl⟩
    · have hr2 : k = R := by
        rw [← hr.out, List.drop_of_length_le (by rw [bs_length]; omega), Lx.run_nil]; omega
      have HR := Aside0.mk hr2; clear hr2 hr
      go_wp2_with fail
      go_ret
      obtain rfl := HR.out
      exact ⟨rfl, rfl⟩
end Go.Proofs.YtapbpmpeikobcaaDoor.Q
