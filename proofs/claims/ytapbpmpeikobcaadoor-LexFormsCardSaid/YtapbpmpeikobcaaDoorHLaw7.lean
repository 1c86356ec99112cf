/- What lex.Tokens leaves at a world, as a slice that is read. No condition. -/
import Derived.Test.YtapbpmpeikobcaaDoorHLawT
set_option linter.unusedVariables false
set_option linter.unusedSimpArgs false
namespace Go.Proofs.YtapbpmpeikobcaaDoor.Q
open Go.RowKit Go.Proofs.YtapbpmpeikobcaaDoorW.PrintWords Go.Proofs.YtapbpmpeikobcaaDoorW.PrintLast Go.Proofs.YtapbpmpeikobcaaDoorW.PrintMore

theorem tokens_errs {s : List UInt8} {x : Int} (h : Lx.tokens s = .error x) : (x != 0) = true := by
  unfold Lx.tokens at h
  split at h
  · cases h; rfl
  · split at h
    · rename_i e hL
      cases h
      rcases lex_err _ _ _ (Nat.lt_succ_self _) hL with rfl | rfl <;> rfl
    · split at h
      · cases h; rfl
      · cases h
/-- What lex.Tokens leaves at a world, as a slice. -/
theorem tokens_at (s : ByteArray) (r1 : List S37) (r2 : Int) (w : World) (h : lex_Tokens.f s = some (r1, r2)) :
    Calls Tryd.prog 8 #[.string s] w fun e w' => ∃ (A : Option Addr) (c : Nat), e = .returned (.tuple #[.slice A r1.length c, .int .i64 r2]) ∧ Kd.C k37 w' A r1.length r1 ∧ r1.length ≤ c ∧ Below w.heap.size w w' :=
  (lex_Tokens.calls s r1 r2 w h).mono fun e w' ⟨v, he, hO, hb⟩ => by
    obtain ⟨A, c, rfl⟩ := Kd.R_slice hO
    have hr := Kd.R_reads' hO
    exact ⟨A, c, he, hr.2.2, hr.2.1, hb⟩
theorem f_err {s : ByteArray} {x : Int} (h : Lx.tokens (bs s) = .error x) : lex_Tokens.f s = some ([], x) := by unfold lex_Tokens.f; rw [h]
theorem f_ok {s : ByteArray} {ts : List Lx.Tok} (h : Lx.tokens (bs s) = .ok ts) : lex_Tokens.f s = some (ts.map tk, 0) := by unfold lex_Tokens.f; rw [h]
theorem tokF_any (s : ByteArray) : ∃ r1 r2, lex_Tokens.f s = some (r1, r2) := ⟨_, _, rfl⟩
theorem rd_map (ts : List Lx.Tok) (j : Nat) (h : j < ts.length) : rd_T37 (ts.map tk) (j : Int) = tk ts[j] := by
  unfold rd_T37
  rw [Int.toNat_natCast, List.getD_eq_getElem?_getD, List.getElem?_map, List.getElem?_eq_getElem h]; rfl
end Go.Proofs.YtapbpmpeikobcaaDoor.Q
