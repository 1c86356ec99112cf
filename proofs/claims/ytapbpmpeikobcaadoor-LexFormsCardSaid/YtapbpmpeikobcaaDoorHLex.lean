/- What lex.Tokens answers: a text's tokens, or the error. No condition. -/
import Derived.Test.YtapbpmpeikobcaaDoorHLex10
set_option linter.unusedVariables false
set_option linter.unusedSimpArgs false
namespace Go.Proofs.YtapbpmpeikobcaaDoor.Q
open Go.RowKit Go.Proofs.YtapbpmpeikobcaaDoorW.PrintWords Go.Proofs.YtapbpmpeikobcaaDoorW.PrintLast Go.Proofs.YtapbpmpeikobcaaDoorW.PrintMore

theorem reps_toks (w : World) (base : Nat) (ok : Nat → Prop) (ts : List Lx.Tok) : Reps (k37.M w base ok) 4 (ts.map tk) (tcells ts) := by
  have : ∀ l : List Lx.Tok, Reps (k37.M w base ok) 4 (l.reverse.map tk) (tcells l.reverse) := by
    intro l
    induction l with
    | nil => exact Reps.none _ _
    | cons t l ih =>
      rw [List.reverse_cons, List.map_append, tcells_snoc]
      exact ih.snoc (k37_mkM w base ok (tk t)) rfl
  have h := this ts.reverse
  rw [List.reverse_reverse] at h; exact h
theorem toks_R {B : Nat} {w : World} {v : Value} {ts : List Lx.Tok} (h : w.ownsRow B 37 4 v ts.length (tcells ts)) : Kd.R k37 37 w B (fun _ => True) v (ts.map tk) :=
  ⟨fun _ _ => trivial, tcells ts, by rw [List.length_map]; exact h, reps_toks _ _ _ _⟩
theorem toks_nil (w : World) (B : Nat) : Kd.R k37 37 w B (fun _ => True) (.slice none 0 0) [] := Kd.R_nil _ _ _ _ _
def TksPost (w : World) (r1 : List S37) (r2 : Int) : Ending → World → Prop := fun e w' => ∃ v0_ : Value, e = .returned (.tuple #[v0_, .int .i64 r2]) ∧ Kd.R k37 37 w' w.heap.size (fun _ => True) v0_ r1 ∧ Below w.heap.size w w'
theorem tokens_big (s : ByteArray) (w : World) (hs : 65536 < s.size) : Calls Tryd.prog 8 #[.string s] w (TksPost w [] 1300) := by
  go_enter Tryd.func8, Tryd.ntmps8
  go_wp2_with fail
  go_ret2
  exact ⟨_, rfl, toks_nil _ _, Below.refl _ _⟩
theorem lex_err {x : Int} : ∀ (k p : Nat) (b : List UInt8), b.length < k → Lx.lex k p b = .error x → x = 1300 ∨ x = 1301
  | 0, _, b, hb, _ => by omega
  | _ + 1, _, [], _, h => by simp [Lx.lex] at h
  | k + 1, p, c :: r, hb, h => by
    simp at hb
    simp only [Lx.lex] at h
    split at h
    · exact lex_err k _ _ (by omega) h
    · split at h
      · rename_i hc
        have h2 : Lx.run Lx.noEnd (c :: r) = Lx.run Lx.noEnd r + 1 := Lx.run_yes (by unfold Lx.noEnd; simp; omega)
        exact lex_err k _ _ (by simp; omega) h
      · split at h
        · rename_i ht
          cases h
          exact token_err ht
        · rename_i ht
          have := Lx.token_pos ht
          split at h
          · rename_i hl
            cases h
            exact lex_err k _ _ (by simp; omega) hl
          · cases h
theorem tokens_small (s : ByteArray) (w : World) (hs : s.size ≤ 65536) (r1 : List S37) (r2 : Int) (h : (match Lx.tokens (bs s) with | .error e => ([], e) | .ok ts => (ts.map tk, 0)) = (r1, r2)) :
    Calls Tryd.prog 8 #[.string s] w (TksPost w r1 r2) := by
  unfold Lx.tokens at h
  rw [if_neg (by rw [bs_length]; omega)] at h
  have hSt : LxSt w.heap.size (w.alloc (.cells #[.string s, .int .i64 0, .slice none 0 0] 44)) w.heap.size s 0 [] := ⟨.slice none 0 0, heap_alloc_new w _, Nat.le_refl _, own_nil _ _ _ _⟩
  have hall := all_any w.heap.size w.heap.size s _ hs hSt
  have hb0 : Below w.heap.size w (w.alloc (.cells #[.string s, .int .i64 0, .slice none 0 0] 44)) := (Below.refl _ _).alloc (Nat.le_refl _) _
  cases hL : Lx.L 0 (bs s) with
  | error x =>
    rw [hL] at h hall
    simp only [Prod.mk.injEq] at h
    obtain ⟨rfl, rfl⟩ := h
    have hall2 : Calls Tryd.prog 14 #[.pointer (some ⟨w.heap.size, 0, none⟩)] (w.alloc (.cells #[.string s, .int .i64 0, .slice none 0 0] 44)) (LxErr w.heap.size (w.alloc (.cells #[.string s, .int .i64 0, .slice none 0 0] 44)) x) := hall
    have hx2 : (x != 0) = true := by rcases lex_err _ _ _ (Nat.lt_succ_self _) hL with rfl | rfl <;> rfl
    have HA := Aside0.mk hall2; have HB := Aside0.mk hb0; clear hall hall2 hL hSt hb0
    go_enter Tryd.func8, Tryd.ntmps8
    go_wp2_with fail
    refine (HA.out).mono ?_
    rintro e w2 ⟨rfl, b2⟩
    have B2 := Aside0.mk b2; clear b2
    go_wp2_with fail
    go_ret2
    exact ⟨_, rfl, toks_nil _ _, HB.out.trans B2.out⟩
  | ok ts =>
    rw [hL] at h hall
    have hall2 : Calls Tryd.prog 14 #[.pointer (some ⟨w.heap.size, 0, none⟩)] (w.alloc (.cells #[.string s, .int .i64 0, .slice none 0 0] 44))
      (fun e w' => e = .returned (.int .i64 0) ∧ (∃ q, LxSt w.heap.size w' w.heap.size s q ts) ∧ Below w.heap.size (w.alloc (.cells #[.string s, .int .i64 0, .slice none 0 0] 44)) w') := hall
    have HA := Aside0.mk hall2; have HB := Aside0.mk hb0; have H := Aside0.mk h; clear hall hall2 hL hSt hb0 h
    go_enter Tryd.func8, Tryd.ntmps8
    go_wp2_with fail
    refine (HA.out).mono ?_
    rintro e w2 ⟨rfl, ⟨q, v, hI, hq, hO⟩, b2⟩
    obtain ⟨Ao, cap, rfl⟩ : ∃ Ao cap, v = .slice Ao ts.length cap := by
      rcases hO.2 with ⟨hv, h0⟩ | ⟨g, cap, cur, hv, _⟩
      · exact ⟨none, 0, by rw [hv, h0]⟩
      · exact ⟨_, _, hv⟩
    have hc2 := hI.cells.2.2.1
    have HO := Aside0.mk hO; have B2 := Aside0.mk b2; clear hO b2 hI hq
    by_cases hm : 2048 < ts.length
    · have hh := H.out
      simp only [if_pos hm, Prod.mk.injEq] at hh
      obtain ⟨rfl, rfl⟩ := hh
      clear H
      go_wp2_with fail
      go_ret2
      exact ⟨_, rfl, toks_nil _ _, HB.out.trans B2.out⟩
    · have hh := H.out
      simp only [if_neg hm, Prod.mk.injEq] at hh
      obtain ⟨rfl, rfl⟩ := hh
      clear H
      go_wp2_with fail
      go_ret2
      exact ⟨_, rfl, toks_R HO.out, HB.out.trans B2.out⟩
theorem lex_Tokens.calls (a0 : ByteArray) (r1 : List (S37)) (r2 : Int) (w : World) (h : lex_Tokens.f a0 = some (r1, r2)) :
    Calls Tryd.prog 8 #[.string a0] w fun e w' => ∃ v0_ : Value, e = .returned (.tuple #[v0_, .int .i64 r2]) ∧ Kd.R k37 37 w' w.heap.size (fun _ => True) v0_ r1 ∧ Below w.heap.size w w' := by
  have h := Option.some.inj h
  by_cases hs : a0.size ≤ 65536
  · exact tokens_small a0 w hs r1 r2 h
  · have e : Lx.tokens (bs a0) = .error 1300 := by unfold Lx.tokens; rw [if_pos (by rw [bs_length]; omega)]
    rw [e] at h
    simp only [Prod.mk.injEq] at h
    obtain ⟨rfl, rfl⟩ := h
    exact tokens_big a0 w (by omega)
end Go.Proofs.YtapbpmpeikobcaaDoor.Q
