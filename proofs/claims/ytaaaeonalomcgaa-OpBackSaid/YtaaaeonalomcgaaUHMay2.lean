/- What op's own answers of an operation that lies in memory. Conditions: its lists are read where it tells. -/
import Derived.Test.YtaaaeonalomcgaaUHMay1
import Derived.Test.YtaaaeonalomcgaaUHDots
set_option linter.unusedVariables false
set_option linter.unusedSimpArgs false
namespace Go.Proofs.Ytaaaeonalomcgaa.Q
open Go.RowKit Go.Proofs.YtaaaeonalomcgaaW.PrintWords Go.Proofs.YtaaaeonalomcgaaW.PrintLast Go.Proofs.YtaaaeonalomcgaaW.PrintMore Sp
attribute [local go_sem high] eqA23
def ownB (k : Int) (val : ByteArray) (n0 n1 r0 r1 : Int) (ds : List S23) (deps : List Int) : Bool :=
  if k = 0 ∨ k = 2 then decide (val.size ≤ 256)
  else if k = 1 then numB n0 n1
  else if k = 3 then dotsB ds deps
  else if k = 4 then decide (val.size ≤ 256) && ((r0 == 0 && r1 == 0) || hasB deps r0 r1)
  else if k = 5 then hasB deps r0 r1
  else false
section
variable {o : Nat} {w : World} {d0 d1 t k n0 n1 r0 r1 : Int} {ty id fl val : ByteArray} {A3 A13 : Option Addr} {c3 c13 : Nat} {deps : List Int} {ds : List S23}
theorem opCells {W : World} {A D : Value} (h : IsOp W o d0 d1 t A k ty id fl val n0 n1 r0 r1 D) :
    W.cell? ⟨o, 3, none⟩ = some A ∧ W.cell? ⟨o, 8, none⟩ = some (.string val) ∧ W.cell? ⟨o, 11, none⟩ = some (.int .i64 r0) ∧ W.cell? ⟨o, 12, none⟩ = some (.int .i64 r1) ∧ W.cell? ⟨o, 13, none⟩ = some D :=
  ⟨(blk_cell h 3).trans rfl, (blk_cell h 8).trans rfl, (blk_cell h 11).trans rfl, (blk_cell h 12).trans rfl, (blk_cell h 13).trans rfl⟩
theorem has_any (h3 : Kd.C (Kd.int .i64) w A3 deps.length deps) (hc3 : deps.length ≤ c3) (a b : Int) :
    Calls Try.prog 40 #[.slice A3 deps.length c3, .agg #[.int .i64 a, .int .i64 b]] w fun e w' => e = .returned (.bool (hasB deps a b)) ∧ Below w.heap.size w w' :=
  vec_Has.calls A3 c3 deps a b _ w h3 hc3 (has_eq deps a b)
theorem dots_any (h3 : Kd.C (Kd.int .i64) w A3 deps.length deps) (hc3 : deps.length ≤ c3) (h13 : Kd.C k23 w A13 ds.length ds) (hc13 : ds.length ≤ c13) :
    Calls Try.prog 39 #[.slice A13 ds.length c13, .slice A3 deps.length c3] w fun e w' => e = .returned (.bool (dotsB ds deps)) ∧ Below w.heap.size w w' := by
  obtain ⟨k, hk⟩ := (dots_ev ds deps h13.2.1).rounds
  exact op_dots.calls k A13 c13 ds A3 c3 deps _ w h13 hc13 h3 hc3 hk
theorem value_q (val : ByteArray) (w : World) : Calls Try.prog 37 #[.string val] w fun e w' => e = .returned (.bool (decide (val.size ≤ 256))) ∧ ∃ n, w' = w.drewN n :=
  (lww_Value.calls val _ w (value_eq val)).mono fun _ _ ⟨h, k⟩ => ⟨h, k.out⟩
set_option maxHeartbeats 4000000 in
theorem ownB_any (hO : IsOp w o d0 d1 t (.slice A3 deps.length c3) k ty id fl val n0 n1 r0 r1 (.slice A13 ds.length c13))
    (h3 : Kd.C (Kd.int .i64) w A3 deps.length deps) (hc3 : deps.length ≤ c3) (h13 : Kd.C k23 w A13 ds.length ds) (hc13 : ds.length ≤ c13) :
    Calls Try.prog 24 #[.pointer (some ⟨o, 0, none⟩)] w fun e w' => e = .returned (.bool (ownB k val n0 n1 r0 r1 ds deps)) ∧ Below w.heap.size w w' := by
  have q4 := (blk_cell hO 4).trans rfl
  have q8 := (blk_cell hO 8).trans rfl
  have q9 := (blk_cell hO 9).trans rfl
  have q10 := (blk_cell hO 10).trans rfl
  have q11 := (blk_cell hO 11).trans rfl
  have q12 := (blk_cell hO 12).trans rfl
  have hu23 := Try.underlying23
  have hu26 := Try.underlying26
  have H3 := Aside0.mk h3; have HC3 := Aside0.mk hc3; have H13 := Aside0.mk h13; have HC13 := Aside0.mk hc13; have HO := Aside0.mk hO
  clear h3 hc3 h13 hc13 hO
  by_cases k02 : k = 0 ∨ k = 2
  · have e0 : ownB k val n0 n1 r0 r1 ds deps = decide (val.size ≤ 256) := if_pos k02
    rw [e0]; clear e0
    rcases k02 with rfl | rfl
    all_goals
      go_enter Try.func24, Try.ntmps24
      go_wp2_with (first | (go_at_call 37; refine (lww_Value.calls _ _ _ (value_eq val)).mono ?_; rintro e w1 ⟨rfl, ⟨⟨nq, rfl⟩⟩⟩))
      go_ret
      exact ⟨rfl, by repeat (first | exact Below.refl _ _ | apply pw_below_drewN)⟩
  · by_cases k1 : k = 1
    · subst k1
      have e0 : ownB 1 val n0 n1 r0 r1 ds deps = numB n0 n1 := rfl
      rw [e0]; clear e0 k02
      go_enter Try.func24, Try.ntmps24
      go_wp2_with (first | (go_at_call 38; refine (op_Num.calls _ _ _ _ (num_eq n0 n1)).mono ?_; rintro e w1 ⟨rfl, hb⟩))
      go_ret
      exact ⟨rfl, hb⟩
    · by_cases k3 : k = 3
      · subst k3
        have e0 : ownB 3 val n0 n1 r0 r1 ds deps = dotsB ds deps := rfl
        rw [e0]; clear e0 k02
        go_enter Try.func24, Try.ntmps24
        go_wp2_with fail
        go_region_held3 (fun w' => w'.cell? ⟨o, 3, none⟩ = some (.slice A3 deps.length c3) ∧ w'.cell? ⟨o, 8, none⟩ = some (.string val) ∧ w'.cell? ⟨o, 11, none⟩ = some (.int .i64 r0) ∧ w'.cell? ⟨o, 12, none⟩ = some (.int .i64 r1) ∧ w'.cell? ⟨o, 13, none⟩ = some (.slice A13 ds.length c13))
          (first | exact opCells (blk_drew HO.out) | exact opCells (blk_below (blk_drew HO.out) hb) | fail "keep")
          (first | (go_at_call 39; refine (dots_any (w := w.drew) H3.out HC3.out H13.out HC13.out).mono ?_; rintro e w1 ⟨rfl, hb⟩) | fail "arm")
        go_wp2
        go_ret
        exact ⟨rfl, ((Below.refl _ _).drew).trans hb⟩
      · by_cases k5 : k = 5
        · subst k5
          have e0 : ownB 5 val n0 n1 r0 r1 ds deps = hasB deps r0 r1 := rfl
          rw [e0]; clear e0 k02
          go_enter Try.func24, Try.ntmps24
          go_wp2_with fail
          go_region_held3 (fun w' => w'.cell? ⟨o, 3, none⟩ = some (.slice A3 deps.length c3) ∧ w'.cell? ⟨o, 8, none⟩ = some (.string val) ∧ w'.cell? ⟨o, 11, none⟩ = some (.int .i64 r0) ∧ w'.cell? ⟨o, 12, none⟩ = some (.int .i64 r1) ∧ w'.cell? ⟨o, 13, none⟩ = some (.slice A13 ds.length c13))
            (first | exact opCells (blk_drew HO.out) | exact opCells (blk_below (blk_drew HO.out) hb) | fail "keep")
            (first | (go_at_call 40; refine (has_any (w := w.drew) H3.out HC3.out r0 r1).mono ?_; rintro e w1 ⟨rfl, hb⟩) | fail "arm")
          go_wp2
          go_ret
          exact ⟨rfl, ((Below.refl _ _).drew).trans hb⟩
        · by_cases k4 : k = 4
          · subst k4
            have e0 : ownB 4 val n0 n1 r0 r1 ds deps = (decide (val.size ≤ 256) && ((r0 == 0 && r1 == 0) || hasB deps r0 r1)) := rfl
            rw [e0]; clear e0 k02
            have hq := fun (w : World) => value_q val w
            by_cases hv : val.size ≤ 256
            · rw [decide_eq_true hv] at hq ⊢
              by_cases hr : r0 = 0 ∧ r1 = 0
              · obtain ⟨rfl, rfl⟩ := hr
                have HQ := Aside0.mk hq
                clear hq hv
                go_enter Try.func24, Try.ntmps24
                go_wp2_with fail
                go_quiet ((go_at_call 37; exact Calls.quiet_of (HQ.out _)))
                go_wp2
                go_ret
                exact ⟨rfl, by repeat (first | exact Below.refl _ _ | apply pw_below_drewN | apply below_drew)⟩
              · have hr2 : (r0 == 0 && r1 == 0) = false := by simp; omega
                rw [hr2]
                have HQ := Aside0.mk hq
                clear hq hv hr
                go_enter Try.func24, Try.ntmps24
                go_wp2_with fail
                go_region_held3 (fun w' => w'.cell? ⟨o, 3, none⟩ = some (.slice A3 deps.length c3) ∧ w'.cell? ⟨o, 8, none⟩ = some (.string val) ∧ w'.cell? ⟨o, 11, none⟩ = some (.int .i64 r0) ∧ w'.cell? ⟨o, 12, none⟩ = some (.int .i64 r1) ∧ w'.cell? ⟨o, 13, none⟩ = some (.slice A13 ds.length c13))
                  (first | exact opCells (blk_drew HO.out) | exact opCells (blk_drewN (blk_drew HO.out) nq) | exact opCells (blk_below (by exact HO.out) hb) | fail "keep")
                  (first | (go_at_call 37; refine (HQ.out _).mono ?_; rintro e w1 ⟨rfl, ⟨nq, rfl⟩⟩) | (go_at_call 40; refine (has_any (by exact H3.out) HC3.out r0 r1).mono ?_; rintro e w2 ⟨rfl, hb⟩) | fail "arm")
                go_wp2
                go_ret
                exact ⟨rfl, ⟨hb.os, hb.tape, hb.output, hb.size, hb.block⟩⟩
            · rw [decide_eq_false hv] at hq ⊢
              have HQ := Aside0.mk hq
              clear hq hv
              go_enter Try.func24, Try.ntmps24
              go_wp2_with fail
              go_quiet ((go_at_call 37; exact Calls.quiet_of (HQ.out _)))
              go_wp2
              go_ret
              exact ⟨rfl, by repeat (first | exact Below.refl _ _ | apply pw_below_drewN | apply below_drew)⟩
          · have b0 := beq_eq_false_iff_ne.2 (show k ≠ 0 from fun h => k02 (.inl h)); have b1 := beq_eq_false_iff_ne.2 k1; have b2 := beq_eq_false_iff_ne.2 (show k ≠ 2 from fun h => k02 (.inr h)); have b3 := beq_eq_false_iff_ne.2 k3; have b4 := beq_eq_false_iff_ne.2 k4; have b5 := beq_eq_false_iff_ne.2 k5
            have e0 : ownB k val n0 n1 r0 r1 ds deps = false := by unfold ownB; rw [if_neg k02, if_neg k1, if_neg k3, if_neg k4, if_neg k5]
            rw [e0]
            clear e0 k02 k1 k3 k4 k5
            go_enter Try.func24, Try.ntmps24
            go_wp2
            go_ret
            exact ⟨rfl, Below.refl _ _⟩
end
end Go.Proofs.Ytaaaeonalomcgaa.Q
