/- What op.Name, the lexer's sign and its name answer. Condition: a text has at most 140737488351232 bytes. -/
import Derived.Test.YtapbpmpeikobcaaDoorHLex2
import Derived.Test.YtapbpmpeikobcaaDoorQ2
import Derived.Deep.QuietTactic
import Derived.BigQuiet
set_option linter.unusedVariables false
set_option linter.unusedSimpArgs false
namespace Go.Proofs.YtapbpmpeikobcaaDoor.Q
open Go.RowKit Go.Proofs.YtapbpmpeikobcaaDoorW.PrintWords Go.Proofs.YtapbpmpeikobcaaDoorW.PrintLast Go.Proofs.YtapbpmpeikobcaaDoorW.PrintMore

theorem toList_bs (s : ByteArray) : s.toList = bs s := by rw [ByteArray.toList_eq]; rfl
theorem btAt (s : ByteArray) (k : Nat) (h : k < s.size) : bt s k = ((s[k]).toNat : Int) := by unfold bt; rw [dif_pos (by simpa using h)]; rfl
theorem w64 {x : Int} (h : -9223372036854775808 ≤ x) (h2 : x ≤ 9223372036854775807) : wrap64 x = x := by unfold wrap64; omega
theorem first_f (c : UInt8) : op_First.f (c.toNat : Int) = some (Lx.isFirst c) := by
  unfold op_First.f Lx.isFirst
  repeat' split
  all_goals
    refine congrArg some ?_
    rw [Bool.eq_iff_iff]; simp; omega
theorem digit_f (c : UInt8) : op_Digit.f (c.toNat : Int) = some (Lx.isDigit c) := by
  unfold op_Digit.f Lx.isDigit
  repeat' split
  all_goals
    refine congrArg some ?_
    rw [Bool.eq_iff_iff]; simp; try omega
theorem nameLoop_ev (s : ByteArray) (hs : s.size ≤ 140737488351232) (d : Nat) : ∀ k : Nat, k + d = s.size → Ev (fun n => op_Name.l0 n s (s.size : Int) (k : Int)) (((bs s).drop k).all Lx.isWord) := by
  induction d with
  | zero =>
    intro k hk
    refine Ev.step (f := fun _ => some true) (fun n => ?_) (by rw [List.drop_of_length_le (by rw [bs_length]; omega)]; exact Ev.now _)
    simp only [op_Name.l0]; rw [if_neg (by omega)]
  | succ d ih =>
    intro k hk
    have hlt : k < s.size := by omega
    rw [bs_drop s k hlt, List.all_cons]
    by_cases hf : Lx.isFirst s[k] = true
    · refine Ev.step (f := fun n => op_Name.l0 n s (s.size : Int) ((k + 1 : Nat) : Int)) (fun n => ?_) (by have := ih (k + 1) (by omega); simpa [Lx.isWord, hf] using this)
      simp only [op_Name.l0]
      rw [if_pos (by omega), if_pos (by omega), if_pos (by omega), btAt s k hlt, first_f, hf, w64 (by omega) (by omega)]
      simp
    · have hf' : Lx.isFirst s[k] = false := by simpa using hf
      by_cases hd : Lx.isDigit s[k] = true
      · refine Ev.step (f := fun n => op_Name.l0 n s (s.size : Int) ((k + 1 : Nat) : Int)) (fun n => ?_) (by have := ih (k + 1) (by omega); simpa [Lx.isWord, hd] using this)
        simp only [op_Name.l0]
        rw [if_pos (by omega), if_pos (by omega), if_pos (by omega), btAt s k hlt, first_f, hf', digit_f, hd, w64 (by omega) (by omega)]
        simp
      · have hd' : Lx.isDigit s[k] = false := by simpa using hd
        refine Ev.step (f := fun n => some false) (fun n => ?_) (by simpa [Lx.isWord, hd', hf'] using Ev.now _)
        simp only [op_Name.l0]
        rw [if_pos (by omega), if_pos (by omega), if_pos (by omega), btAt s k hlt, first_f, hf', digit_f, hd']
        simp
theorem name_ev (s : ByteArray) (hs : s.size ≤ 140737488351232) : Ev (fun n => op_Name.f n s) (Lx.nameB (bs s)) := by
  have hno : Ev (fun n => op_Name.j0 n s true) false := Ev.step (f := fun _ => some false) (fun n => by simp only [op_Name.j0]; exact if_pos trivial) (Ev.now _)
  cases hcr : bs s with
  | nil =>
    refine Ev.congr (fun n => ?_) hno
    simp only [op_Name.f]; rw [if_pos (by rw [toList_bs, hcr])]
  | cons c r =>
    have hl : r.length + 1 = s.size := by rw [← bs_length, hcr]; rfl
    have hne : ¬ s.toList = [] := by rw [toList_bs, hcr]; simp
    have hc : s[0]'(by omega) = c := by have := bs_drop s 0 (by omega); rw [List.drop_zero, hcr] at this; injection this with h _; exact h.symm
    by_cases h32 : s.size ≤ 32
    · have e : ∀ n, op_Name.f n s = op_Name.j0 n s (!Lx.isFirst c) := fun n => by
        simp only [op_Name.f]
        rw [if_neg hne, if_neg (by omega), if_pos (by omega), show bt s 0 = ((s[0]'(by omega)).toNat : Int) from btAt s 0 (by omega), hc, first_f, Option.bind_some]
      cases hf : Lx.isFirst c with
      | false => exact Ev.congr (f := fun n => op_Name.j0 n s true) (fun n => by simp [e n, hf]) (by simpa [Lx.nameB, hf] using hno)
      | true =>
        refine Ev.congr (f := fun n => op_Name.j0 n s false) (fun n => by simp [e n, hf]) ?_
        refine Ev.step (f := fun n => op_Name.l0 n s (s.size : Int) ((0 : Nat) : Int)) (fun n => by simp only [op_Name.j0]; rw [if_neg (by decide)]; rfl) ?_
        have := nameLoop_ev s hs s.size 0 (by omega)
        rw [List.drop_zero, hcr] at this
        have hb : Lx.nameB (c :: r) = (c :: r).all Lx.isWord := by simp [Lx.nameB, hf, hl, h32]
        rw [hb]; exact this
    · refine Ev.congr (f := fun n => op_Name.j0 n s true) (fun n => ?_) (by have : Lx.nameB (c :: r) = false := by { unfold Lx.nameB; simp; intro h; omega }
                                                                            rw [this]; exact hno)
      simp only [op_Name.f]; rw [if_neg hne, if_pos (by omega)]
theorem name_any (s : ByteArray) (w : World) (hs : s.size ≤ 140737488351232) : Calls Tryd.prog 37 #[.string s] w fun e w' => e = .returned (.bool (Lx.nameB (bs s))) ∧ Drawn0 w w' := by
  obtain ⟨k, hk⟩ := (name_ev s hs).rounds
  exact op_Name.calls k s _ w hk
/-- What stands behind a backslash, as a text: none is empty. -/
def escT (c : UInt8) : List UInt8 := match Lx.esc c with | some x => [x] | none => []
theorem sign_f (c : UInt8) : lex_sign.f 1 (c.toNat : Int) = some (ba (escT c)) := by
  unfold lex_sign.f escT Lx.esc
  have hlt := c.toNat_lt
  by_cases h1 : c.toNat = 34
  · rw [if_pos (by omega)]
    simp only [lex_sign.j0, h1]
    simp [strOfNums, ba]
    have : c = 34 := by apply UInt8.toNat_inj.1; rw [h1]; rfl
    rw [this]
  · rw [if_neg (by omega)]
    by_cases h2 : c.toNat = 92
    · simp only [lex_sign.j0, h2]
      simp [strOfNums, ba]
      have : c = 92 := by apply UInt8.toNat_inj.1; rw [h2]; rfl
      rw [this]
    · simp only [lex_sign.j0]
      have hb : (((c.toNat : Nat) : Int) == 92) = false := beq_eq_false_iff_ne.2 (by omega)
      rw [hb, if_neg (by decide)]
      by_cases h3 : c.toNat = 110
      · rw [if_pos (by omega)]; simp [h1, h2, h3, ba]
      · rw [if_neg (by omega)]; simp [h1, h2, h3, ba]
theorem sign_any (c : UInt8) (w : World) : Calls Tryd.prog 42 #[.int .u8 c.toNat] w fun e w' => e = .returned (.string (ba (escT c))) ∧ Below w.heap.size w w' := lex_sign.calls 1 _ _ w (sign_f c)
end Go.Proofs.YtapbpmpeikobcaaDoor.Q
