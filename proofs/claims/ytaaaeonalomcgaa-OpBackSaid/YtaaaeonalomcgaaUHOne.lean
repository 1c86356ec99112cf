/- The operation that awake makes, and what is known of it. No condition. -/
import Derived.Test.YtaaaeonalomcgaaUHPut3
import Derived.Test.YtaaaeonalomcgaaUHPure
import Derived.Test.YtaaaeonalomcgaaUQ9
import Derived.Test.YtaaaeonalomcgaaUQ10
set_option linter.unusedVariables false
set_option linter.unusedSimpArgs false
namespace Go.Proofs.Ytaaaeonalomcgaa.Q
open Go.RowKit Go.Proofs.YtaaaeonalomcgaaW.PrintWords Go.Proofs.YtaaaeonalomcgaaW.PrintLast Go.Proofs.YtaaaeonalomcgaaW.PrintMore Sp
abbrev sT : List UInt8 := [84]
abbrev si : List UInt8 := [105]
abbrev sf : List UInt8 := [102]
abbrev sv : List UInt8 := [118]
def oneV (k : Int) : OpV :=
  if k = 0 ∨ k = 2 then { d0 := 1, d1 := 3, t := 9, deps := [4, 2], k := k, ty := sT, id := si, fl := sf, val := sv }
  else if k = 1 then { d0 := 1, d1 := 3, t := 9, deps := [4, 2], k := k, ty := sT, id := si, fl := sf, n0 := -2, n1 := 3 }
  else if k = 3 then { d0 := 1, d1 := 3, t := 9, deps := [4, 2], k := k, ty := sT, id := si, fl := sf, dots := [(0, 4), (1, 2)] }
  else if k = 4 then { d0 := 1, d1 := 3, t := 9, deps := [4, 2], k := k, ty := sT, id := si, fl := sf, val := sv, r0 := 0, r1 := 1 }
  else if k = 5 then { d0 := 1, d1 := 3, t := 9, deps := [4, 2], k := k, ty := sT, id := si, fl := sf, r0 := 0, r1 := 1 }
  else { d0 := 1, d1 := 3, t := 9, deps := [4, 2], k := k, ty := sT, id := si, fl := sf }
abbrev OpV.agg (o : OpV) (v3 v13 : Value) : Value := .agg #[.int .i64 o.d0, .int .i64 o.d1, .int .i64 o.t, v3, .int .i64 o.k, .string (ba o.ty), .string (ba o.id), .string (ba o.fl), .string (ba o.val), .int .i64 o.n0, .int .i64 o.n1, .int .i64 o.r0, .int .i64 o.r1, v13]
theorem one_f (k : Int) : tattlelaw11_one.f 4 k = some ((oneV k).d0, (oneV k).d1, (oneV k).t, (oneV k).deps, (oneV k).k, ba (oneV k).ty, ba (oneV k).id, ba (oneV k).fl, ba (oneV k).val, (oneV k).n0, (oneV k).n1, (oneV k).r0, (oneV k).r1, dS (oneV k).dots) := by
  by_cases h0 : k = 0
  · subst h0; rfl
  · by_cases h2 : k = 2
    · subst h2; rfl
    · by_cases h1 : k = 1
      · subst h1; rfl
      · by_cases h3 : k = 3
        · subst h3; rfl
        · by_cases h4 : k = 4
          · subst h4; rfl
          · by_cases h5 : k = 5
            · subst h5; rfl
            · have e : oneV k = { d0 := 1, d1 := 3, t := 9, deps := [4, 2], k := k, ty := sT, id := si, fl := sf } := by unfold oneV; rw [if_neg (by omega), if_neg h1, if_neg h3, if_neg h4, if_neg h5]
              rw [e]
              simp [tattlelaw11_one.f, tattlelaw11_one.j0, h0, h1, h2, h3, h4, h5, dS, sT, si, sf]
theorem one_any (k : Int) (w : World) : Calls Try.prog 13 #[.int .i64 k] w fun e w' => ∃ v3 v13 : Value, e = .returned ((oneV k).agg v3 v13) ∧
    Kd.R (Kd.int .i64) 3 w' w.heap.size (fun _ => True) v3 (oneV k).deps ∧ Kd.R k23 23 w' w.heap.size (fun _ => True) v13 (dS (oneV k).dots) ∧ Below w.heap.size w w' :=
  tattlelaw11_one.calls 4 k _ _ _ _ _ _ _ _ _ _ _ _ _ _ w (one_f k)
theorem may1 : (oneV 1).may 2 = true := by decide +kernel
theorem may3 : (oneV 3).may 2 = true := by decide +kernel
def badV : OpV := { oneV 0 with deps := [4, 3] }
theorem mayBad : badV.may 2 = false := by decide +kernel
theorem put1 : (oneV 1).put = [1, 3, 9, 4, 2, 1, 1, 84, 1, 105, 1, 102, 3, 6] := by
  have e : (oneV 1).put = (pn 1 ++ pn 3) ++ pns [9] ++ pns [4, 2] ++ pns [1] ++ pts [ba sT, ba si, ba sf] ++ (pn (zz (-2)).toNat ++ pn (zz 3).toNat) := rfl
  rw [e]
  have b1 : ∀ c : UInt8, pt (bs (ba [c])) = [1, c] := fun c => by rw [bs_ba]; unfold pt; rw [List.length_singleton, pn_small (by decide)]; rfl
  simp [pns, pts, b1, pn_small, zz, sT, si, sf]
theorem sameInts_ev (xs : List Int) (hl : xs.length ≤ 9223372036854775807) (d : Nat) : ∀ i : Nat, i + d = xs.length → Ev (fun k => tattlelaw0_SameInts.l0 k xs xs i) true := by
  induction d with
  | zero => intro i hi; exact Ev.step (f := fun _ => some true) (fun k => by simp only [tattlelaw0_SameInts.l0]; rw [if_neg (by omega)]) (Ev.now _)
  | succ d ih =>
    intro i hi
    refine Ev.step (f := fun k => tattlelaw0_SameInts.l0 k xs xs ((i + 1 : Nat) : Int)) (fun k => ?_) (ih (i + 1) (by omega))
    simp only [tattlelaw0_SameInts.l0]; rw [if_pos (by omega), if_pos (by omega), if_pos (by omega), w64 (by omega) (by omega)]; rfl
theorem sameDots_ev (xs : List S23) (hl : xs.length ≤ 9223372036854775807) (d : Nat) : ∀ i : Nat, i + d = xs.length → Ev (fun k => tattlelaw0_SameDots.l0 k xs xs i) true := by
  induction d with
  | zero => intro i hi; exact Ev.step (f := fun _ => some true) (fun k => by simp only [tattlelaw0_SameDots.l0]; rw [if_neg (by omega)]) (Ev.now _)
  | succ d ih =>
    intro i hi
    refine Ev.step (f := fun k => tattlelaw0_SameDots.l0 k xs xs ((i + 1 : Nat) : Int)) (fun k => ?_) (ih (i + 1) (by omega))
    simp only [tattlelaw0_SameDots.l0]; rw [if_pos (by omega), if_pos (by omega), if_pos (by omega), w64 (by omega) (by omega)]; simp
theorem same_any (d0 d1 t : Int) (deps : List Int) (k : Int) (ty id fl val : ByteArray) (n0 n1 r0 r1 : Int) (ds : List S23) (A B C D : Option Addr) (c3 c13 e3 e13 : Nat) (w : World)
    (h1 : Kd.C (Kd.int .i64) w A deps.length deps) (h1c : deps.length ≤ c3) (h2 : Kd.C k23 w B ds.length ds) (h2c : ds.length ≤ c13) (h3 : Kd.C (Kd.int .i64) w C deps.length deps) (h3c : deps.length ≤ e3) (h4 : Kd.C k23 w D ds.length ds) (h4c : ds.length ≤ e13) :
    Calls Try.prog 12 #[.agg #[.int .i64 d0, .int .i64 d1, .int .i64 t, .slice A deps.length c3, .int .i64 k, .string ty, .string id, .string fl, .string val, .int .i64 n0, .int .i64 n1, .int .i64 r0, .int .i64 r1, .slice B ds.length c13],
      .agg #[.int .i64 d0, .int .i64 d1, .int .i64 t, .slice C deps.length e3, .int .i64 k, .string ty, .string id, .string fl, .string val, .int .i64 n0, .int .i64 n1, .int .i64 r0, .int .i64 r1, .slice D ds.length e13]] w fun e w' => e = .returned (.bool true) ∧ Below w.heap.size w w' := by
  have h : Ev (fun k' => tattlelaw0_SameOp.f k' d0 d1 t deps k ty id fl val n0 n1 r0 r1 ds d0 d1 t deps k ty id fl val n0 n1 r0 r1 ds) true := by
    have hi : Ev (fun k' => tattlelaw0_SameInts.f k' deps deps) true := by
      unfold tattlelaw0_SameInts.f; exact Ev.congr (fun _ => if_pos rfl) (sameInts_ev deps h1.2.1 deps.length 0 (by omega))
    have hd : Ev (fun k' => tattlelaw0_SameDots.f k' ds ds) true := by
      unfold tattlelaw0_SameDots.f; exact Ev.congr (fun _ => if_pos rfl) (sameDots_ev ds h2.2.1 ds.length 0 (by omega))
    unfold tattlelaw0_SameOp.f
    refine Ev.congr (fun _ => by rw [if_pos (by simp), if_pos rfl]) ?_
    refine Ev.bind hi ?_
    refine Ev.congr (fun _ => by rw [if_pos rfl, if_pos rfl, if_pos rfl, if_pos rfl, if_pos rfl, if_pos rfl, if_pos (by simp), if_pos (by simp)]) ?_
    exact Ev.bind hd (Ev.now _)
  obtain ⟨k', hk⟩ := h.rounds
  exact tattlelaw0_SameOp.calls k' _ _ _ A c3 deps _ _ _ _ _ _ _ _ _ B c13 ds _ _ _ C e3 deps _ _ _ _ _ _ _ _ _ D e13 ds _ w h1 h1c h2 h2c h3 h3c h4 h4c hk
def kindB (k : Int) : Int := if k = 0 then 0 else if k = 1 then 1 else if k = 2 ∨ k = 3 then 2 else if k = 4 ∨ k = 5 then 3 else -1
theorem kind_any (d0 d1 t : Int) (deps : List Int) (k : Int) (ty id fl val : ByteArray) (n0 n1 r0 r1 : Int) (ds : List S23) (A B : Option Addr) (c3 c13 : Nat) (w : World)
    (h1 : Kd.C (Kd.int .i64) w A deps.length deps) (h1c : deps.length ≤ c3) (h2 : Kd.C k23 w B ds.length ds) (h2c : ds.length ≤ c13) :
    Calls Try.prog 14 #[.agg #[.int .i64 d0, .int .i64 d1, .int .i64 t, .slice A deps.length c3, .int .i64 k, .string ty, .string id, .string fl, .string val, .int .i64 n0, .int .i64 n1, .int .i64 r0, .int .i64 r1, .slice B ds.length c13]] w fun e w' => e = .returned (.int .i64 (kindB k)) ∧ Below w.heap.size w w' := by
  refine op_Kind.calls 3 _ _ _ A c3 deps k _ _ _ _ _ _ _ _ B c13 ds _ w h1 h1c h2 h2c ?_
  unfold op_Kind.f kindB
  by_cases h0 : k = 0
  · rw [if_pos h0, if_pos h0]
  · rw [if_neg h0, if_neg h0]
    by_cases h1 : k = 1
    · rw [if_pos h1, if_pos h1]
    · rw [if_neg h1, if_neg h1]
      by_cases h2 : k = 2
      · subst h2; rfl
      · rw [if_neg h2]
        by_cases h3 : k = 3
        · subst h3; rfl
        · rw [if_neg (by omega)]
          simp only [op_Kind.j0, beq_eq_false_iff_ne.2 h3, Bool.false_eq_true, if_false]
          by_cases h4 : k = 4
          · rw [if_pos h4, if_pos (.inl h4)]
          · rw [if_neg h4]
            by_cases h5 : k = 5
            · rw [if_pos h5, if_pos (.inr h5)]
            · rw [if_neg h5, if_neg (by omega)]
end Go.Proofs.Ytaaaeonalomcgaa.Q
