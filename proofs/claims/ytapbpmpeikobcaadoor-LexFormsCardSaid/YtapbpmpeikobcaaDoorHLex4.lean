/- What the lexer's name leaves: one token more, or an error. Condition: a text of at most 70000 bytes. -/
import Derived.Test.YtapbpmpeikobcaaDoorHLex3
set_option linter.unusedVariables false
set_option linter.unusedSimpArgs false
namespace Go.Proofs.YtapbpmpeikobcaaDoor.Q
open Go.RowKit Go.Proofs.YtapbpmpeikobcaaDoorW.PrintWords Go.Proofs.YtapbpmpeikobcaaDoorW.PrintLast Go.Proofs.YtapbpmpeikobcaaDoorW.PrintMore

/-- An error, the call's own memory turned. -/
def LxErr (B : Nat) (w : World) (x : Int) : Ending → World → Prop := fun e w' => e = .returned (.int .i64 x) ∧ Below B w w'
theorem LxSt.below {B : Nat} {w w1 : World} {g : Nat} {s : ByteArray} {p : Nat} {ts : List Lx.Tok} (h : LxSt B w g s p ts) (hb : Below w.heap.size w w1) : LxSt B w1 g s p ts := by
  obtain ⟨v, h1, h2, h3⟩ := h
  exact ⟨v, blk_below h1 hb, h2, pw_own_below h3 hb⟩
theorem LxSt.lt {B : Nat} {w : World} {g : Nat} {s : ByteArray} {p : Nat} {ts : List Lx.Tok} (h : LxSt B w g s p ts) : B ≤ w.heap.size := by
  obtain ⟨v, h1, h2, h3⟩ := h
  have := blk_lt h1
  omega
theorem take_bs (s : ByteArray) (a b : Nat) : bs (s.extract a b) = ((bs s).take b).drop a := by simp [bs, List.extract_eq_take_drop, List.drop_take]
theorem name_ok (B g : Nat) (s : ByteArray) (p m : Nat) (ts : List Lx.Tok) (w : World) (hs : s.size ≤ 70000) (h : LxSt B w g s p ts) (hl : ts.length ≤ 70000) (hp : p ≤ s.size)
    (hm : p + Lx.run Lx.isWord ((bs s).drop p) = m) (hb : Lx.nameB (bs (s.extract p m)) = true) :
    Calls Tryd.prog 28 #[.pointer (some ⟨g, 0, none⟩)] w (LxPost B w g s m (ts ++ [⟨0, bs (s.extract p m), 0, p⟩])) := by
  obtain ⟨v, hI, hB, hO⟩ := h
  obtain ⟨hc0, hc1, hc2, hf1, hf2⟩ := hI.cells
  have hle : p ≤ m ∧ m ≤ s.size := by have := Lx.run_le Lx.isWord ((bs s).drop p); rw [List.length_drop, bs_length] at this; omega
  obtain ⟨hle1, hle2⟩ := hle
  have hrun := run_word g s p v p w (by omega) hp hI
  rw [hm] at hrun
  have hnm : ∀ w, Calls Tryd.prog 37 #[.string (s.extract p m)] w fun e w' => e = .returned (.bool true) ∧ Drawn0 w w' := fun w => by rw [← hb]; exact name_any _ w (by simp; omega)
  have hSt : LxSt B w g s p ts := ⟨v, hI, hB, hO⟩
  have HR := Aside0.mk hrun; have HSt := Aside0.mk hSt; have HN := Aside0.mk hnm; clear hrun hI hO hm hb hnm hSt
  go_enter Tryd.func28, Tryd.ntmps28
  go_wp2_with (go_at_call 35; refine (HR.out).mono ?_; rintro e w' ⟨rfl, rfl⟩)
  go_quiet (fail)
  go_wp2_with fail
  refine (HN.out _).mono ?_
  rintro e w2 ⟨rfl, hd⟩
  have hS2 : LxSt B w2 g s p ts := (HSt.out.below (pw_below_drewN (Below.refl _ _) _)).below hd.below
  have hB2 : Below B w' w2 := (pw_below_drewN (Below.refl B w') _).trans (hd.below.mono HSt.out.lt)
  have HB2 := Aside0.mk hB2; clear hd hB2
  have hadd := add_any B g s p ts 0 (bs (s.extract p m)) 0 0 m w2 hS2 hl
  rw [ba_bs] at hadd
  have HAdd := Aside0.mk hadd; clear hadd hS2
  go_wp2_with fail
  refine (HAdd.out).mono ?_
  rintro e w3 ⟨rfl, h3, b3⟩
  have H3 := Aside0.mk h3; have B3 := Aside0.mk b3; clear h3 b3
  go_wp2_with fail
  go_ret
  exact ⟨rfl, H3.out, HB2.out.trans B3.out⟩
theorem name_bad (B g : Nat) (s : ByteArray) (p m : Nat) (ts : List Lx.Tok) (w : World) (hs : s.size ≤ 70000) (h : LxSt B w g s p ts) (hp : p ≤ s.size)
    (hm : p + Lx.run Lx.isWord ((bs s).drop p) = m) (hb : Lx.nameB (bs (s.extract p m)) = false) :
    Calls Tryd.prog 28 #[.pointer (some ⟨g, 0, none⟩)] w (LxErr B w 1300) := by
  obtain ⟨v, hI, hB, hO⟩ := h
  obtain ⟨hc0, hc1, hc2, hf1, hf2⟩ := hI.cells
  have hle : p ≤ m ∧ m ≤ s.size := by have := Lx.run_le Lx.isWord ((bs s).drop p); rw [List.length_drop, bs_length] at this; omega
  obtain ⟨hle1, hle2⟩ := hle
  have hrun := run_word g s p v p w (by omega) hp hI
  rw [hm] at hrun
  have hnm : ∀ w, Calls Tryd.prog 37 #[.string (s.extract p m)] w fun e w' => e = .returned (.bool false) ∧ Drawn0 w w' := fun w => by rw [← hb]; exact name_any _ w (by simp; omega)
  have hlt : B ≤ w.heap.size := by have := blk_lt hI; omega
  have HR := Aside0.mk hrun; have HN := Aside0.mk hnm; clear hrun hI hO hm hb hnm
  go_enter Tryd.func28, Tryd.ntmps28
  go_wp2_with (go_at_call 35; refine (HR.out).mono ?_; rintro e w' ⟨rfl, rfl⟩)
  go_quiet (fail)
  go_wp2_with fail
  refine (HN.out _).mono ?_
  rintro e w2 ⟨rfl, hd⟩
  have hB2 : Below B w' w2 := (pw_below_drewN (Below.refl B w') _).trans (hd.below.mono hlt)
  have HB2 := Aside0.mk hB2; clear hd hB2
  go_wp2_with fail
  go_ret
  exact ⟨rfl, HB2.out⟩
end Go.Proofs.YtapbpmpeikobcaaDoor.Q
