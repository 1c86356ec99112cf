/- What written answers at a text token: the text with its escapes. Condition: at most 140737488351232 bytes. -/
import Derived.Test.YtapbpmpeikobcaaDoorHLaw1
import Derived.Test.YtapbpmpeikobcaaDoorHLaw2
import Derived.Test.YtapbpmpeikobcaaDoorQ4
set_option linter.unusedVariables false
set_option linter.unusedSimpArgs false
namespace Go.Proofs.YtapbpmpeikobcaaDoor.Q
open Go.RowKit Go.Proofs.YtapbpmpeikobcaaDoorW.PrintWords Go.Proofs.YtapbpmpeikobcaaDoorW.PrintLast Go.Proofs.YtapbpmpeikobcaaDoorW.PrintMore

theorem ba_append (a b : List UInt8) : ba a ++ ba b = ba (a ++ b) := by apply ByteArray.ext; simp [ba]
theorem extract_one (s : ByteArray) (i : Nat) (h : i < s.size) : s.extract i (i + 1) = ba [s[i]] := by
  have : bs (s.extract i (i + 1)) = [s[i]] := by rw [show bs (s.extract i (i + 1)) = ((bs s).drop i).take (i + 1 - i) from by simp [bs], bs_drop s i h, show i + 1 - i = 1 from by omega]; rfl
  rw [← ba_bs (s.extract i (i + 1)), this]
theorem writtenLoop_ev (kd n a : Int) (s : ByteArray) (hs : s.size ≤ 140737488351232) (d : Nat) : ∀ (i : Nat) (acc : List UInt8), i + d = s.size → acc.length + 2 * d ≤ 1000000000000000 →
    Ev (fun k => tattlelaw13_written.l0 k (ba acc) (i : Int) kd s n a) (ba (acc ++ (escs ((bs s).drop i) ++ [34]))) := by
  induction d with
  | zero =>
    intro i acc hi ha
    refine Ev.step (f := fun _ => some (ba acc ++ (⟨#[34]⟩ : ByteArray))) (fun k => ?_) ?_
    · simp only [tattlelaw13_written.l0]; rw [if_neg (by omega), if_pos (by rw [ba_size]; omega)]
    · rw [List.drop_of_length_le (by rw [bs_length]; omega), show (⟨#[34]⟩ : ByteArray) = ba [34] from rfl, ba_append]; exact Ev.now _
  | succ d ih =>
    intro i acc hi ha
    have hlt : i < s.size := by omega
    have hb := btAt s i hlt
    have hd := bs_drop s i hlt
    have he : escs ((bs s).drop i) = esc1 s[i] ++ escs ((bs s).drop (i + 1)) := by rw [hd]; rfl
    have hl2 := esc1_len s[i]
    have hih := ih (i + 1) (acc ++ esc1 s[i]) (by omega) (by simp; omega)
    rw [he]
    rw [show acc ++ (esc1 s[i] ++ escs ((bs s).drop (i + 1)) ++ [34]) = acc ++ esc1 s[i] ++ (escs ((bs s).drop (i + 1)) ++ [34]) from by simp]
    have hw : wrap64 ((i : Int) + 1) = ((i + 1 : Nat) : Int) := by rw [w64 (by omega) (by omega)]; rfl
    have hx : s.extract ((i : Int)).toNat (wrap64 ((i : Int) + 1)).toNat = ba [s[i]] := by rw [hw]; exact extract_one s i hlt
    have hx2 : s.extract i (i + 1) = ba [s[i]] := extract_one s i hlt
    by_cases h1 : (s[i]).toNat = 34 ∨ (s[i]).toNat = 92
    · have e1 : esc1 s[i] = [92, s[i]] := if_pos h1
      refine Ev.step (f := fun k => tattlelaw13_written.j1 k (ba acc) (i : Int) ((s[i]).toNat : Int) true kd s n a) (fun k => ?_) ?_
      · simp only [tattlelaw13_written.l0, hb]
        rw [if_pos (by omega), if_pos (by omega)]
        by_cases h34 : (s[i]).toNat = 34
        · rw [if_pos (by omega)]; simp [h34]
        · rw [if_neg (by omega)]
          have : (s[i]).toNat = 92 := by omega
          simp [this]
      · refine Ev.step (f := fun k => tattlelaw13_written.l0 k (ba (acc ++ esc1 s[i])) ((i + 1 : Nat) : Int) kd s n a) (fun k => ?_) hih
        simp only [tattlelaw13_written.j1, if_true, hw]
        rw [if_pos (by rw [ba_size]; omega), if_pos (by omega), if_pos (by omega), if_pos (by omega)]
        simp only [Int.toNat_natCast, hx2]
        rw [show (⟨#[92]⟩ : ByteArray) = ba [92] from rfl, ba_append, if_pos (by rw [ba_size, ba_size]; simp; omega), ba_append, e1, List.append_assoc]
        rfl
    · by_cases h2 : (s[i]).toNat = 10
      · have e1 : esc1 s[i] = [92, 110] := by unfold esc1; rw [if_neg h1, if_pos h2]
        refine Ev.step (f := fun k => tattlelaw13_written.j1 k (ba acc) (i : Int) ((s[i]).toNat : Int) false kd s n a) (fun k => ?_) ?_
        · simp only [tattlelaw13_written.l0, hb]
          rw [if_pos (by omega), if_pos (by omega), if_neg (by omega)]; simp [h2]
        · refine Ev.step (f := fun k => tattlelaw13_written.l0 k (ba (acc ++ esc1 s[i])) ((i + 1 : Nat) : Int) kd s n a) (fun k => ?_) hih
          simp only [tattlelaw13_written.j1, hw]
          rw [if_neg (by decide), if_pos (by omega), if_pos (by rw [ba_size]; omega), show (⟨#[92, 110]⟩ : ByteArray) = ba [92, 110] from rfl, ba_append, e1]
      · have e1 : esc1 s[i] = [s[i]] := by unfold esc1; rw [if_neg h1, if_neg h2]
        refine Ev.step (f := fun k => tattlelaw13_written.j1 k (ba acc) (i : Int) ((s[i]).toNat : Int) false kd s n a) (fun k => ?_) ?_
        · simp only [tattlelaw13_written.l0, hb]
          rw [if_pos (by omega), if_pos (by omega), if_neg (by omega)]
          have : (((s[i]).toNat : Int) == 92) = false := beq_eq_false_iff_ne.2 (by omega)
          rw [this]
        · refine Ev.step (f := fun k => tattlelaw13_written.l0 k (ba (acc ++ esc1 s[i])) ((i + 1 : Nat) : Int) kd s n a) (fun k => ?_) hih
          simp only [tattlelaw13_written.j1, hw]
          rw [if_neg (by decide), if_neg (by omega), if_pos (by omega), if_pos (by omega), if_pos (by omega)]
          simp only [Int.toNat_natCast, hx2]
          rw [if_pos (by rw [ba_size, ba_size]; simp; omega), ba_append, e1]
theorem written_text_ev (s : ByteArray) (n a : Int) (hs : s.size ≤ 140737488351232) : Ev (fun k => tattlelaw13_written.f k 2 s n a) (ba (wrT (bs s))) := by
  unfold tattlelaw13_written.f
  refine Ev.congr (fun k => by rw [if_neg (by decide), if_pos rfl]) ?_
  have := writtenLoop_ev 2 n a s hs s.size 0 [34] (by omega) (by simp; omega)
  rw [List.drop_zero] at this
  exact this
theorem written_text (s : ByteArray) (n a : Int) (w : World) (hs : s.size ≤ 140737488351232) : Calls Tryd.prog 13 #[.agg #[.int .i64 2, .string s, .int .i64 n, .int .i64 a]] w fun e w' => e = .returned (.string (ba (wrT (bs s)))) ∧ Below w.heap.size w w' := by
  obtain ⟨k, hk⟩ := (written_text_ev s n a hs).rounds
  exact tattlelaw13_written.calls k _ _ _ _ _ w hk
end Go.Proofs.YtapbpmpeikobcaaDoor.Q
