/- What the lexer's all leaves: all tokens, or the first error. Condition: a text of at most 65536 bytes. -/
import Derived.Test.YtapbpmpeikobcaaDoorHLex9
set_option linter.unusedVariables false
set_option linter.unusedSimpArgs false
namespace Go.Proofs.YtapbpmpeikobcaaDoor.Q
open Go.RowKit Go.Proofs.YtapbpmpeikobcaaDoorW.PrintWords Go.Proofs.YtapbpmpeikobcaaDoorW.PrintLast Go.Proofs.YtapbpmpeikobcaaDoorW.PrintMore

theorem fr_all {g0 : Nat} (a : Act) (h : a = { tmps := #[.pointer (some ⟨g0, 0, none⟩), undef, .int .i64 0, a.tmps.getD 3 undef, a.tmps.getD 4 undef, a.tmps.getD 5 undef, a.tmps.getD 6 undef, a.tmps.getD 7 undef, a.tmps.getD 8 undef, a.tmps.getD 9 undef, a.tmps.getD 10 undef, a.tmps.getD 11 undef, a.tmps.getD 12 undef, a.tmps.getD 13 undef, a.tmps.getD 14 undef, a.tmps.getD 15 undef, a.tmps.getD 16 undef, a.tmps.getD 17 undef, a.tmps.getD 18 undef, a.tmps.getD 19 undef, a.tmps.getD 20 undef, a.tmps.getD 21 undef, a.tmps.getD 22 undef, a.tmps.getD 23 undef, a.tmps.getD 24 undef, a.tmps.getD 25 undef, a.tmps.getD 26 undef, a.tmps.getD 27 undef, a.tmps.getD 28 undef, a.tmps.getD 29 undef, a.tmps.getD 30 undef, a.tmps.getD 31 undef, a.tmps.getD 32 undef, a.tmps.getD 33 undef, a.tmps.getD 34 undef, a.tmps.getD 35 undef, a.tmps.getD 36 undef, a.tmps.getD 37 undef, a.tmps.getD 38 undef, a.tmps.getD 39 undef, a.tmps.getD 40 undef, a.tmps.getD 41 undef, a.tmps.getD 42 undef, a.tmps.getD 43 undef, a.tmps.getD 44 undef, a.tmps.getD 45 undef, a.tmps.getD 46 undef, a.tmps.getD 47 undef, a.tmps.getD 48 undef, a.tmps.getD 49 undef, a.tmps.getD 50 undef, a.tmps.getD 51 undef, a.tmps.getD 52 undef, a.tmps.getD 53 undef, a.tmps.getD 54 undef, a.tmps.getD 55 undef, a.tmps.getD 56 undef, a.tmps.getD 57 undef, a.tmps.getD 58 undef, a.tmps.getD 59 undef, a.tmps.getD 60 undef, a.tmps.getD 61 undef, a.tmps.getD 62 undef, a.tmps.getD 63 undef, a.tmps.getD 64 undef, a.tmps.getD 65 undef, a.tmps.getD 66 undef, a.tmps.getD 67 undef, a.tmps.getD 68 undef, a.tmps.getD 69 undef], defers := [] }) : ∃ u : Nat → Value, a = { tmps := #[.pointer (some ⟨g0, 0, none⟩), undef, .int .i64 0, u 3, u 4, u 5, u 6, u 7, u 8, u 9, u 10, u 11, u 12, u 13, u 14, u 15, u 16, u 17, u 18, u 19, u 20, u 21, u 22, u 23, u 24, u 25, u 26, u 27, u 28, u 29, u 30, u 31, u 32, u 33, u 34, u 35, u 36, u 37, u 38, u 39, u 40, u 41, u 42, u 43, u 44, u 45, u 46, u 47, u 48, u 49, u 50, u 51, u 52, u 53, u 54, u 55, u 56, u 57, u 58, u 59, u 60, u 61, u 62, u 63, u 64, u 65, u 66, u 67, u 68, u 69], defers := [] } := ⟨fun k => a.tmps.getD k undef, h⟩
/-- What holds at a label: the tokens so far, and what is left. -/
def AllAt (B : Nat) (w : World) (g : Nat) (s : ByteArray) (l i : Nat) (ts : List Lx.Tok) (wr : World) : Prop :=
  i ≤ s.size ∧ LxSt B wr g s i ts ∧ Below B w wr ∧ ts.length ≤ i ∧ (l = 0 → Lx.L 0 (bs s) = Lx.pre ts (Lx.L i ((bs s).drop i)))
    ∧ (l = 1 → Lx.L 0 (bs s) = Lx.pre ts (Lx.L (i + Lx.run Lx.noEnd ((bs s).drop i)) ((bs s).drop (i + Lx.run Lx.noEnd ((bs s).drop i)))))
def AllPost (B : Nat) (w : World) (g : Nat) (s : ByteArray) (r : Except Int (List Lx.Tok)) : Ending → World → Prop := fun e w' =>
  match r with
  | .error x => LxErr B w x e w'
  | .ok ts => e = .returned (.int .i64 0) ∧ (∃ q, LxSt B w' g s q ts) ∧ Below B w w'
theorem all_err {B : Nat} {w : World} {g : Nat} {s : ByteArray} {r : Except Int (List Lx.Tok)} {x : Int} {e : Ending} {w' : World} (hr : r = .error x) (h : LxErr B w x e w') : AllPost B w g s r e w' := by subst hr; exact h
theorem all_ok {B : Nat} {w : World} {g : Nat} {s : ByteArray} {r : Except Int (List Lx.Tok)} {ts : List Lx.Tok} {q : Nat} {e : Ending} {w' : World} (hr : r = .ok ts) (he : e = .returned (.int .i64 0)) (h : LxSt B w' g s q ts) (hb : Below B w w') : AllPost B w g s r e w' := by subst hr; exact ⟨he, ⟨q, h⟩, hb⟩
def posOf (w : World) (g : Nat) : Nat := match w.cell? ⟨g, 1, none⟩ with
  | some v => (intOf v).toNat
  | none => 0
theorem posOf_eq {B : Nat} {w : World} {g : Nat} {s : ByteArray} {p : Nat} {ts : List Lx.Tok} (h : LxSt B w g s p ts) : posOf w g = p := by
  obtain ⟨v, h1, _⟩ := h
  unfold posOf; rw [h1.cells.2.1]; simp [intOf]
/-- What every pass lowers. -/
def allMu (s : ByteArray) (g : Nat) (l : Nat) (w : World) : Nat :=
  if l = 0 then 3 * (s.size - posOf w g) + 1 else if 0 < Lx.run Lx.noEnd ((bs s).drop (posOf w g)) then 3 * (s.size - posOf w g) else 3 * (s.size - posOf w g) + 2
theorem mu0 {B : Nat} {w : World} {g : Nat} {s : ByteArray} {p : Nat} {ts : List Lx.Tok} (h : LxSt B w g s p ts) : allMu s g 0 w = 3 * (s.size - p) + 1 := by unfold allMu; rw [if_pos rfl, posOf_eq h]
theorem mu1 {B : Nat} {w : World} {g : Nat} {s : ByteArray} {p : Nat} {ts : List Lx.Tok} (h : LxSt B w g s p ts) : allMu s g 1 w = if 0 < Lx.run Lx.noEnd ((bs s).drop p) then 3 * (s.size - p) else 3 * (s.size - p) + 2 := by unfold allMu; rw [if_neg (by decide), posOf_eq h]
theorem LxSt.step {B : Nat} {w : World} {g : Nat} {s : ByteArray} {p : Nat} {ts : List Lx.Tok} (h : LxSt B w g s p ts) (q : Nat) : LxSt B (w.setCell ⟨g, 1, none⟩ (.int .i64 q)) g s q ts ∧ Below B w (w.setCell ⟨g, 1, none⟩ (.int .i64 q)) := by
  obtain ⟨v, h1, h2, h3⟩ := h
  refine ⟨⟨v, h1.at_ q, h2, own_move h3 (fun k hk => Below.heap_setCell _ _ _ _ (fun e => own_far h3 h1 (by decide) k hk e))⟩, (Below.refl B w).setCell (p := ⟨g, 1, none⟩) h2 _⟩
theorem LxSt.cells {B : Nat} {w : World} {g : Nat} {s : ByteArray} {p : Nat} {ts : List Lx.Tok} (h : LxSt B w g s p ts) : w.cell? ⟨g, 0, none⟩ = some (.string s) ∧ w.cell? ⟨g, 1, none⟩ = some (.int .i64 p) ∧ w.frozen? ⟨g, 1, none⟩ = false := by
  obtain ⟨v, h1, _⟩ := h
  exact ⟨h1.cells.1, h1.cells.2.1, h1.cells.2.2.2.1⟩
theorem token_err {b : List UInt8} {x : Int} (h : Lx.token b = .error x) : x = 1300 ∨ x = 1301 := by
  cases b with
  | nil => simp [Lx.token] at h; exact .inl h.symm
  | cons c r =>
    simp only [Lx.token] at h
    split at h
    · split at h
      · cases h
      · cases h; exact .inl rfl
    · split at h
      · split at h
        · cases h; exact .inl rfl
        · cases h
      · split at h
        · split at h
          · cases h; exact .inl rfl
          · cases h
        · split at h
          · split at h
            · cases h; exact .inr rfl
            · split at h
              · cases h
              · cases h; exact .inr rfl
          · split at h
            · cases h
            · split at h
              · cases h
              · cases h; exact .inl rfl
theorem err_ne {b : List UInt8} {x : Int} (h : Lx.token b = .error x) : (x != 0) = true := by rcases token_err h with rfl | rfl <;> rfl
set_option maxRecDepth 100000 in
set_option maxHeartbeats 4000000 in
theorem all_any (B g : Nat) (s : ByteArray) (w : World) (hs : s.size ≤ 65536) (h : LxSt B w g s 0 []) :
    Calls Tryd.prog 14 #[.pointer (some ⟨g, 0, none⟩)] w (AllPost B w g s (Lx.L 0 (bs s))) := by
  have HSt := Aside0.mk h; clear h
  obtain ⟨R, hR⟩ : ∃ R, Lx.L 0 (bs s) = R := ⟨_, rfl⟩
  rw [hR]
  have HR := Aside0.mk hR; clear hR
  go_enter Tryd.func14, Tryd.ntmps14
  go_wp2_with fail
  refine wp_scope_two (fun l a' wr => ∃ (i : Nat) (ts : List Lx.Tok), (∃ u : Nat → Value, a' = { tmps := #[.pointer (some ⟨g, 0, none⟩), undef, .int .i64 0, u 3, u 4, u 5, u 6, u 7, u 8, u 9, u 10, u 11, u 12, u 13, u 14, u 15, u 16, u 17, u 18, u 19, u 20, u 21, u 22, u 23, u 24, u 25, u 26, u 27, u 28, u 29, u 30, u 31, u 32, u 33, u 34, u 35, u 36, u 37, u 38, u 39, u 40, u 41, u 42, u 43, u 44, u 45, u 46, u 47, u 48, u 49, u 50, u 51, u 52, u 53, u 54, u 55, u 56, u 57, u 58, u 59, u 60, u 61, u 62, u 63, u 64, u 65, u 66, u 67, u 68, u 69], defers := [] }) ∧ Aside0 (AllAt B w g s l i ts wr)) (fun l _ wr => allMu s g l wr) rfl rfl ?_ ?_ ?_
  · intro HP
    have HP := Aside0.mk HP
    go_wp2_with fail
    go_step3
    simp only [Exit.then]
    refine (‹∀ (a : Act) (w : World), Code.wp _ _ _ a w → _› _ _ ?_)
    refine HP.out _ _ ?_
    exact ⟨0, [], fr_all _ rfl, ⟨Nat.zero_le _, HSt.out, Below.refl _ _, by simp, fun _ => by rw [List.drop_zero, Lx.pre_nil], fun h => by cases h⟩⟩
  · rintro a' wr ⟨i, ts, ⟨u, rfl⟩, hT⟩
    obtain ⟨hi, hS, hB, hl, h0, h1⟩ := hT.out
    clear hT
    obtain ⟨hc0, hc1, hf1⟩ := hS.cells
    have HBr := Aside0.mk hB; have HSr := Aside0.mk hS; clear hB hS
    have hL := h0 rfl
    rw [HR.out] at hL
    clear h0 h1
    by_cases hlt : i < s.size
    · have e1 : ((i : Int) == (s.size : Int)) = false := by simp; omega
      have hd := bs_drop s i hlt
      have HD := Aside0.mk hd; have HL := Aside0.mk hL; clear hd hL
      go_wp2_with fail
      go_quiet (fail)
      rename_i nq
      have hB1 : Below B w (wr.drewN nq) := pw_below_drewN HBr.out nq
      have hS1 : LxSt B (wr.drewN nq) g s i ts := HSr.out.below (pw_below_drewN (Below.refl _ _) nq)
      clear hc0 hc1 hf1
      generalize wr.drewN nq = w1 at *
      obtain ⟨hc0, hc1, hf1⟩ := hS1.cells
      have HB1 := Aside0.mk hB1; have HS1 := Aside0.mk hS1; clear hB1 hS1
      go_wp2_with fail
      go_wp2_with fail
      go_quiet (fail)
      have hB2 : Below B w (w1.drewN nq) := pw_below_drewN HB1.out nq
      have hS2 : LxSt B (w1.drewN nq) g s i ts := HS1.out.below (pw_below_drewN (Below.refl _ _) nq)
      clear hc0 hc1 hf1
      generalize w1.drewN nq = w2 at *
      obtain ⟨hc0, hc1, hf1⟩ := hS2.cells
      have HB2 := Aside0.mk hB2; have HS2 := Aside0.mk hS2; clear hB2 hS2
      obtain ⟨x, hx, hix⟩ : ∃ x : Int, decide (0 ≤ x) = Lx.isBlank s[i] ∧ ∀ w, Calls Tryd.prog 23 #[.string ⟨#[9, 10, 13, 32, 44]⟩, .int .u8 (s[i]).toNat] w fun e w' => e = .returned (.int .i64 x) ∧ w = w' := by
        refine ⟨Lib.indexByte [9, 10, 13, 32, 44] s[i], ?_, fun w => (Tryd.strings_IndexByte ⟨#[9, 10, 13, 32, 44]⟩ ((s[i]).toNat : Int) w).mono fun e w' h => ⟨by rw [h.1]; simp, h.2.symm⟩⟩
        have := blanks_all ⟨(s[i]).toNat, (s[i]).toNat_lt⟩
        simpa using this
      have HIX := Aside0.mk hix; clear hix
      cases hbl : Lx.isBlank s[i] with
      | true =>
        have hx0 : 0 ≤ x := by rw [hbl] at hx; simpa using hx
        have hn : R = Lx.pre ts (Lx.L (i + 1) ((bs s).drop (i + 1))) := by rw [HL.out, HD.out, Lx.L_blank hbl]
        have HN := Aside0.mk hn; clear hn hx hbl
        go_wp2_with (go_at_call 23; refine (HIX.out _).mono ?_; rintro e w' ⟨rfl, rfl⟩)
        try go_step3
        have hst := HS2.out.step (i + 1)
        simp only [Int.natCast_add, Int.natCast_one] at hst
        refine ⟨.inl rfl, ⟨i + 1, ts, fr_all _ rfl, ⟨hlt, hst.1, HB2.out.trans hst.2, by omega, fun _ => by rw [HR.out]; exact HN.out, fun h => by cases h⟩⟩, ?_⟩
        rw [mu0 HSr.out, mu0 hst.1]; omega
      | false =>
        have hx0 : x < 0 := by rw [hbl] at hx; simpa using hx
        clear hx
        by_cases h35 : (s[i]).toNat = 35
        · have hn : R = Lx.pre ts (Lx.L (i + Lx.run Lx.noEnd ((bs s).drop i)) ((bs s).drop (i + Lx.run Lx.noEnd ((bs s).drop i)))) := by
            rw [HL.out, ← List.drop_drop, HD.out, Lx.L_note h35]
          have hrun : 0 < Lx.run Lx.noEnd ((bs s).drop i) := by rw [HD.out, Lx.run_yes (by unfold Lx.noEnd; simp; omega)]; omega
          have e2 : (((s[i]).toNat : Int) == 35) = true := by simp; omega
          have HN := Aside0.mk hn; have HRun := Aside0.mk hrun; clear hn hbl h35 hrun
          go_wp2_with (go_at_call 23; refine (HIX.out _).mono ?_; rintro e w' ⟨rfl, rfl⟩)
          try go_step3
          refine ⟨.inr rfl, ⟨i, ts, fr_all _ rfl, ⟨hi, HS2.out, HB2.out, hl, fun h => (by cases h), fun _ => by rw [HR.out]; exact HN.out⟩⟩, ?_⟩
          rw [mu0 HSr.out, mu1 HS2.out, if_pos HRun.out]; omega
        · have e2 : (((s[i]).toNat : Int) == 35) = false := by simp; omega
          have htk := token_any B g s i ts w2 (by omega) HS2.out (by omega) hlt
          cases ht : Lx.token ((bs s).drop i) with
          | error x2 =>
            rw [ht] at htk
            have hn : R = .error x2 := by rw [HL.out, HD.out, Lx.L_err hbl h35 (by rw [← HD.out]; exact ht)]; rfl
            have htk2 : Calls Tryd.prog 24 #[.pointer (some ⟨g, 0, none⟩)] w2 (LxErr B w2 x2) := htk
            have hx2 : (x2 != 0) = true := err_ne ht
            have HN := Aside0.mk hn; have HT := Aside0.mk htk2; clear hn hbl h35 htk htk2 ht
            go_wp2_with (go_at_call 23; refine (HIX.out _).mono ?_; rintro e w' ⟨rfl, rfl⟩)
            refine (HT.out).mono ?_
            rintro e w4 ⟨rfl, b4⟩
            have B4 := Aside0.mk b4; clear b4
            go_wp2_with fail
            try simp only [jumps]
            go_ret
            exact all_err HN.out ⟨rfl, HB2.out.trans B4.out⟩
          | ok q =>
            obtain ⟨kd, tx, n, len⟩ := q
            rw [ht] at htk
            have hpos := Lx.token_pos (c := s[i]) (r := (bs s).drop (i + 1)) (by rw [← HD.out]; exact ht)
            rw [List.length_drop, bs_length] at hpos
            have hn : R = Lx.pre (ts ++ [⟨kd, tx, n, i⟩]) (Lx.L (i + len) ((bs s).drop (i + len))) := by
              rw [HL.out, ← List.drop_drop, HD.out, Lx.L_tok hbl h35 (by rw [← HD.out]; exact ht), Lx.pre_pre]
            have htk2 : Calls Tryd.prog 24 #[.pointer (some ⟨g, 0, none⟩)] w2 (LxPost B w2 g s (i + len) (ts ++ [⟨kd, tx, n, i⟩])) := htk
            have HN := Aside0.mk hn; have HT := Aside0.mk htk2; clear hn hbl h35 htk htk2 ht
            go_wp2_with (go_at_call 23; refine (HIX.out _).mono ?_; rintro e w' ⟨rfl, rfl⟩)
            refine (HT.out).mono ?_
            rintro e w4 ⟨rfl, h4, b4⟩
            have B4 := Aside0.mk b4; have H4 := Aside0.mk h4; clear b4 h4
            go_wp2_with fail
            try go_step3
            refine ⟨.inl rfl, ⟨i + len, _, fr_all _ rfl, ⟨by omega, H4.out, HB2.out.trans B4.out, by simp; omega, fun _ => by rw [HR.out]; exact HN.out, fun h => by cases h⟩⟩, ?_⟩
            rw [mu0 HSr.out, mu0 H4.out]; omega
    · have e1 : ((i : Int) == (s.size : Int)) = true := by simp; omega
      have hn : R = .ok ts := by rw [hL, List.drop_of_length_le (by rw [bs_length]; omega), Lx.L_nil]; simp [Lx.pre]
      have HN := Aside0.mk hn; clear hn hL
      go_wp2_with fail
      go_quiet (fail)
      rename_i nq
      have hB1 : Below B w (wr.drewN nq) := pw_below_drewN HBr.out nq
      have hS1 : LxSt B (wr.drewN nq) g s i ts := HSr.out.below (pw_below_drewN (Below.refl _ _) nq)
      clear hc0 hc1 hf1
      generalize wr.drewN nq = w1 at *
      obtain ⟨hc0, hc1, hf1⟩ := hS1.cells
      have HB1 := Aside0.mk hB1; have HS1 := Aside0.mk hS1; clear hB1 hS1
      go_wp2_with fail
      try simp only [jumps]
      go_ret
      exact all_ok HN.out rfl HS1.out HB1.out
  · rintro a' wr ⟨i, ts, ⟨u, rfl⟩, hT⟩
    obtain ⟨hi, hS, hB, hl, h0, h1⟩ := hT.out
    clear hT
    obtain ⟨hc0, hc1, hf1⟩ := hS.cells
    have HBr := Aside0.mk hB; have HSr := Aside0.mk hS; clear hB hS
    have hL := h1 rfl
    rw [HR.out] at hL
    clear h0 h1
    by_cases hlt : i < s.size
    · have hd := bs_drop s i hlt
      have e1 : decide ((i : Int) < (s.size : Int)) = true := by simp; omega
      have e1b : decide (i < s.size) = true := by simp; omega
      by_cases h10 : (s[i]).toNat = 10
      · have hn0 : Lx.run Lx.noEnd ((bs s).drop i) = 0 := by rw [hd, Lx.run_no (by unfold Lx.noEnd; simp [h10])]
        have e2 : (((s[i]).toNat : Int) != 10) = false := by simp; omega
        rw [hn0, Nat.add_zero] at hL
        have HL := Aside0.mk hL; have HZ := Aside0.mk hn0; clear hL hn0 hd h10
        go_wp2_with fail
        go_quiet (fail)
        rename_i nq
        have hB1 : Below B w (wr.drewN nq) := pw_below_drewN HBr.out nq
        have hS1 : LxSt B (wr.drewN nq) g s i ts := HSr.out.below (pw_below_drewN (Below.refl _ _) nq)
        clear hc0 hc1 hf1
        generalize wr.drewN nq = w1 at *
        obtain ⟨hc0, hc1, hf1⟩ := hS1.cells
        have HB1 := Aside0.mk hB1; have HS1 := Aside0.mk hS1; clear hB1 hS1
        go_wp2_with fail
        try go_step3
        refine ⟨.inl rfl, ⟨i, ts, fr_all _ rfl, ⟨hi, HS1.out, HB1.out, hl, fun _ => by rw [HR.out]; exact HL.out, fun h => by cases h⟩⟩, ?_⟩
        rw [mu1 HSr.out, mu0 HS1.out, HZ.out, if_neg (by decide)]; omega
      · have hn0 : Lx.run Lx.noEnd ((bs s).drop i) = Lx.run Lx.noEnd ((bs s).drop (i + 1)) + 1 := by rw [hd, Lx.run_yes (by unfold Lx.noEnd; simp [h10])]
        have e2 : (((s[i]).toNat : Int) != 10) = true := by simp; omega
        rw [hn0, show i + (Lx.run Lx.noEnd ((bs s).drop (i + 1)) + 1) = i + 1 + Lx.run Lx.noEnd ((bs s).drop (i + 1)) from by omega] at hL
        have HL := Aside0.mk hL; have HZ := Aside0.mk hn0; clear hL hn0 hd h10
        go_wp2_with fail
        go_quiet (fail)
        rename_i nq
        have hB1 : Below B w (wr.drewN nq) := pw_below_drewN HBr.out nq
        have hS1 : LxSt B (wr.drewN nq) g s i ts := HSr.out.below (pw_below_drewN (Below.refl _ _) nq)
        clear hc0 hc1 hf1
        generalize wr.drewN nq = w1 at *
        obtain ⟨hc0, hc1, hf1⟩ := hS1.cells
        have HB1 := Aside0.mk hB1; have HS1 := Aside0.mk hS1; clear hB1 hS1
        go_wp2_with fail
        try go_step3
        have hst := HS1.out.step (i + 1)
        simp only [Int.natCast_add, Int.natCast_one] at hst
        refine ⟨.inr rfl, ⟨i + 1, ts, fr_all _ rfl, ⟨hlt, hst.1, HB1.out.trans hst.2, by omega, fun h => (by cases h), fun _ => by rw [HR.out]; exact HL.out⟩⟩, ?_⟩
        have hp0 : 0 < Lx.run Lx.noEnd ((bs s).drop i) := by rw [HZ.out]; omega
        rw [mu1 HSr.out, if_pos hp0, mu1 hst.1]; split <;> omega
    · have hn0 : Lx.run Lx.noEnd ((bs s).drop i) = 0 := by rw [List.drop_of_length_le (by rw [bs_length]; omega)]; rfl
      have e1 : decide ((i : Int) < (s.size : Int)) = false := by simp; omega
      have e1b : decide (i < s.size) = false := by simp; omega
      rw [hn0, Nat.add_zero] at hL
      have HL := Aside0.mk hL; have HZ := Aside0.mk hn0; clear hL hn0
      go_wp2_with fail
      go_quiet (fail)
      rename_i nq
      have hB1 : Below B w (wr.drewN nq) := pw_below_drewN HBr.out nq
      have hS1 : LxSt B (wr.drewN nq) g s i ts := HSr.out.below (pw_below_drewN (Below.refl _ _) nq)
      clear hc0 hc1 hf1
      generalize wr.drewN nq = w1 at *
      obtain ⟨hc0, hc1, hf1⟩ := hS1.cells
      have HB1 := Aside0.mk hB1; have HS1 := Aside0.mk hS1; clear hB1 hS1
      go_wp2_with fail
      try go_step3
      refine ⟨.inl rfl, ⟨i, ts, fr_all _ rfl, ⟨hi, HS1.out, HB1.out, hl, fun _ => by rw [HR.out]; exact HL.out, fun h => by cases h⟩⟩, ?_⟩
      rw [mu1 HSr.out, mu0 HS1.out, HZ.out, if_neg (by decide)]; omega
end Go.Proofs.YtapbpmpeikobcaaDoor.Q
