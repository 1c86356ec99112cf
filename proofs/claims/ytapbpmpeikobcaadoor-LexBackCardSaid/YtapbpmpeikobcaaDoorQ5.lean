/- Walks of the functions that the law reaches, printed by a program out of the translation. Their conditions stand in each. -/
import Derived.Test.YtapbpmpeikobcaaDoorQ0
import Derived.Test.YtapbpmpeikobcaaDoorQ3
import Derived.Test.YtapbpmpeikobcaaDoorQ4
import Derived.Test.YtapbpmpeikobcaaDoorHLex
namespace Go.Proofs.YtapbpmpeikobcaaDoor.Q
open Go.RowKit Go.Proofs.YtapbpmpeikobcaaDoorW.PrintWords Go.Proofs.YtapbpmpeikobcaaDoorW.PrintLast Go.Proofs.YtapbpmpeikobcaaDoorW.PrintMore
attribute [local go_sem] max2_int min2_int max_two min_two max_three min_three max_four min_four   -- for this text's walks alone
set_option linter.unusedVariables false
set_option linter.unusedSimpArgs false

/-! ### tattlelaw13_LexBack: function 4 -/
mutual
def tattlelaw13_LexBack.l0 : Nat → Int → List (S37) → ByteArray → List Int → Int → Option (Bool)
  | 0, _, _, _, _, _ => none
  | k + 1, x1, x5, x7, x8, x9 => if x9 < (x5.length : Int) then ((some (([(⟨#[32]⟩ : ByteArray), (⟨#[10]⟩ : ByteArray), (⟨#[44, 44, 32]⟩ : ByteArray), (⟨#[35, 120, 34, 10]⟩ : ByteArray)] : List ByteArray) : List ByteArray)).bind fun y195 => (if 0 ≤ (IntKind.u64.wrap (Go.bits .and .i64 x9 15)) then (if 0 ≤ (Go.bits .and .i64 (shr .i64 x1 (IntKind.u64.wrap (Go.bits .and .i64 x9 15))) 3) then (if (Go.bits .and .i64 (shr .i64 x1 (IntKind.u64.wrap (Go.bits .and .i64 x9 15))) 3) < (y195.length : Int) then (if x7.size + (rdOf ByteArray.empty y195 (Go.bits .and .i64 (shr .i64 x1 (IntKind.u64.wrap (Go.bits .and .i64 x9 15))) 3)).size ≤ 9223372036854775807 then (if x8.length < 17592186044416 then ((some (x8 ++ [((x7 ++ (rdOf ByteArray.empty y195 (Go.bits .and .i64 (shr .i64 x1 (IntKind.u64.wrap (Go.bits .and .i64 x9 15))) 3))).size : Int)] : List Int)).bind fun y199 => (if 0 ≤ x9 then ((tattlelaw13_written.f k ((rd_T37 x5 x9).f0) ((rd_T37 x5 x9).f1) ((rd_T37 x5 x9).f2) ((rd_T37 x5 x9).f3)).bind fun t203 => (if (x7 ++ (rdOf ByteArray.empty y195 (Go.bits .and .i64 (shr .i64 x1 (IntKind.u64.wrap (Go.bits .and .i64 x9 15))) 3))).size + t203.size ≤ 9223372036854775807 then (if ((rd_T37 x5 x9).f0) = 3 then (tattlelaw13_LexBack.l0 k x1 x5 ((x7 ++ (rdOf ByteArray.empty y195 (Go.bits .and .i64 (shr .i64 x1 (IntKind.u64.wrap (Go.bits .and .i64 x9 15))) 3))) ++ t203) y199 (wrap64 (x9 + 1))) else (if ((x7 ++ (rdOf ByteArray.empty y195 (Go.bits .and .i64 (shr .i64 x1 (IntKind.u64.wrap (Go.bits .and .i64 x9 15))) 3))) ++ t203).size + 1 ≤ 9223372036854775807 then (tattlelaw13_LexBack.l0 k x1 x5 (((x7 ++ (rdOf ByteArray.empty y195 (Go.bits .and .i64 (shr .i64 x1 (IntKind.u64.wrap (Go.bits .and .i64 x9 15))) 3))) ++ t203) ++ (⟨#[32]⟩ : ByteArray)) y199 (wrap64 (x9 + 1))) else (none))) else (none))) else (none))) else (none)) else (none)) else (none)) else (none)) else (none))) else (if (x7.size : Int) > 65536 then (some true) else ((lex_Tokens.f x7).bind fun bt205 => ((tattlelaw0_Num.f bt205.2).bind fun t209 => (if t209 = 0 then (tattlelaw13_LexBack.j1 k x5 x8 bt205.1 ((bt205.1.length : Int) != (x5.length : Int))) else (tattlelaw13_LexBack.j1 k x5 x8 bt205.1 true)))))
def tattlelaw13_LexBack.j1 : Nat → List (S37) → List Int → List (S37) → Bool → Option (Bool)
  | 0, _, _, _, _ => none
  | k + 1, x5, x8, x10, x80 => if x80 = true then (some false) else (tattlelaw13_LexBack.l1 k x5 x8 x10 0)
def tattlelaw13_LexBack.l1 : Nat → List (S37) → List Int → List (S37) → Int → Option (Bool)
  | 0, _, _, _, _ => none
  | k + 1, x5, x8, x10, x12 => if x12 < (x5.length : Int) then (if 0 ≤ x12 then (if x12 < (x10.length : Int) then (if ((rd_T37 x10 x12).f0) = ((rd_T37 x5 x12).f0) then (if ((rd_T37 x10 x12).f1).toList = ((rd_T37 x5 x12).f1).toList then (if ((rd_T37 x10 x12).f2) = ((rd_T37 x5 x12).f2) then (if x12 < (x8.length : Int) then (if ((rd_T37 x10 x12).f3) = (rd x8 x12) then (tattlelaw13_LexBack.l1 k x5 x8 x10 (wrap64 (x12 + 1))) else (some false)) else (none)) else (some false)) else (some false)) else (some false)) else (none)) else (none)) else (some true)
end
def tattlelaw13_LexBack.f (k : Nat) (a0 : ByteArray) (a1 : Int) : Option (Bool) := (tattlelaw13_awake.f k).bind fun t189 => (if t189 = true then ((lex_Tokens.f a0).bind fun bt190 => ((tattlelaw0_Num.f bt190.2).bind fun t194 => (if t194 = 0 then (tattlelaw13_LexBack.l0 k a1 bt190.1 (⟨#[]⟩ : ByteArray) ([] : List Int) 0) else (some ((bt190.1.length : Int) == 0))))) else (some false))
theorem tattlelaw13_LexBack.mono_l : ∀ k, (∀ y0 y1 y2 y3 y4, LeO (tattlelaw13_LexBack.l0 k y0 y1 y2 y3 y4) (tattlelaw13_LexBack.l0 (k + 1) y0 y1 y2 y3 y4)) ∧ (∀ y0 y1 y2 y3, LeO (tattlelaw13_LexBack.j1 k y0 y1 y2 y3) (tattlelaw13_LexBack.j1 (k + 1) y0 y1 y2 y3)) ∧ (∀ y0 y1 y2 y3, LeO (tattlelaw13_LexBack.l1 k y0 y1 y2 y3) (tattlelaw13_LexBack.l1 (k + 1) y0 y1 y2 y3))
  | 0 => ⟨fun _ _ _ _ _ r h => by simp [tattlelaw13_LexBack.l0] at h, fun _ _ _ _ r h => by simp [tattlelaw13_LexBack.j1] at h, fun _ _ _ _ r h => by simp [tattlelaw13_LexBack.l1] at h⟩
  | k + 1 => by
    obtain ⟨ih0, ih1, ih2⟩ := tattlelaw13_LexBack.mono_l k
    refine ⟨?_, ?_, ?_⟩
    · intro y0 y1 y2 y3 y4
      unfold tattlelaw13_LexBack.l0
      repeat' first
      | (with_reducible exact ih0 _ _ _ _ _)
      | (with_reducible exact ih1 _ _ _ _)
      | (with_reducible exact ih2 _ _ _ _)
      | (with_reducible exact tattlelaw13_awake.mono _)
      | (with_reducible exact tattlelaw13_written.mono _ _ _ _ _)
      | (with_reducible exact LeO.refl _)
      | (with_reducible exact LeO.none _)
      | (with_reducible refine LeO.ite ?_ ?_)
      | (with_reducible refine LeO.bind ?_ (fun _ => ?_))
      | exact ih0 _ _ _ _ _
      | exact ih1 _ _ _ _
      | exact ih2 _ _ _ _
      | exact tattlelaw13_awake.mono _
      | exact tattlelaw13_written.mono _ _ _ _ _
      | exact LeO.none _
      | refine LeO.ite ?_ ?_
      | refine LeO.bind ?_ (fun _ => ?_)
    · intro y0 y1 y2 y3
      unfold tattlelaw13_LexBack.j1
      repeat' first
      | (with_reducible exact ih0 _ _ _ _ _)
      | (with_reducible exact ih1 _ _ _ _)
      | (with_reducible exact ih2 _ _ _ _)
      | (with_reducible exact tattlelaw13_awake.mono _)
      | (with_reducible exact tattlelaw13_written.mono _ _ _ _ _)
      | (with_reducible exact LeO.refl _)
      | (with_reducible exact LeO.none _)
      | (with_reducible refine LeO.ite ?_ ?_)
      | (with_reducible refine LeO.bind ?_ (fun _ => ?_))
      | exact ih0 _ _ _ _ _
      | exact ih1 _ _ _ _
      | exact ih2 _ _ _ _
      | exact tattlelaw13_awake.mono _
      | exact tattlelaw13_written.mono _ _ _ _ _
      | exact LeO.none _
      | refine LeO.ite ?_ ?_
      | refine LeO.bind ?_ (fun _ => ?_)
    · intro y0 y1 y2 y3
      unfold tattlelaw13_LexBack.l1
      repeat' first
      | (with_reducible exact ih0 _ _ _ _ _)
      | (with_reducible exact ih1 _ _ _ _)
      | (with_reducible exact ih2 _ _ _ _)
      | (with_reducible exact tattlelaw13_awake.mono _)
      | (with_reducible exact tattlelaw13_written.mono _ _ _ _ _)
      | (with_reducible exact LeO.refl _)
      | (with_reducible exact LeO.none _)
      | (with_reducible refine LeO.ite ?_ ?_)
      | (with_reducible refine LeO.bind ?_ (fun _ => ?_))
      | exact ih0 _ _ _ _ _
      | exact ih1 _ _ _ _
      | exact ih2 _ _ _ _
      | exact tattlelaw13_awake.mono _
      | exact tattlelaw13_written.mono _ _ _ _ _
      | exact LeO.none _
      | refine LeO.ite ?_ ?_
      | refine LeO.bind ?_ (fun _ => ?_)
theorem tattlelaw13_LexBack.mono : ∀ a0 a1 k, LeO (tattlelaw13_LexBack.f k a0 a1) (tattlelaw13_LexBack.f (k + 1) a0 a1) := by
  intro a0 a1 k
  obtain ⟨ih0, ih1, ih2⟩ := tattlelaw13_LexBack.mono_l k
  unfold tattlelaw13_LexBack.f
  repeat' first
      | (with_reducible exact ih0 _ _ _ _ _)
      | (with_reducible exact ih1 _ _ _ _)
      | (with_reducible exact ih2 _ _ _ _)
      | (with_reducible exact tattlelaw13_awake.mono _)
      | (with_reducible exact tattlelaw13_written.mono _ _ _ _ _)
      | (with_reducible exact LeO.refl _)
      | (with_reducible exact LeO.none _)
      | (with_reducible refine LeO.ite ?_ ?_)
      | (with_reducible refine LeO.bind ?_ (fun _ => ?_))
      | exact ih0 _ _ _ _ _
      | exact ih1 _ _ _ _
      | exact ih2 _ _ _ _
      | exact tattlelaw13_awake.mono _
      | exact tattlelaw13_written.mono _ _ _ _ _
      | exact LeO.none _
      | refine LeO.ite ?_ ?_
      | refine LeO.bind ?_ (fun _ => ?_)
set_option maxHeartbeats 8000000 in
set_option maxRecDepth 100000 in
theorem tattlelaw13_LexBack.calls (k : Nat) (a0 : ByteArray) (a1 : Int) (r : Bool) (w : World) (h : tattlelaw13_LexBack.f k a0 a1 = some r) :
    Calls Tryd.prog 4 #[.string a0, .int .i64 a1] w fun e w' => e = .returned (.bool r) ∧ Below w.heap.size w w' := by
  have hu37 := Tryd.underlying37
  have HB := Aside0.mk (Below.refl w.heap.size w)
  have H : ((tattlelaw13_awake.f k).bind fun t189 => (if t189 = true then ((lex_Tokens.f a0).bind fun bt190 => ((tattlelaw0_Num.f bt190.2).bind fun t194 => (if t194 = 0 then (tattlelaw13_LexBack.l0 k a1 bt190.1 (⟨#[]⟩ : ByteArray) ([] : List Int) 0) else (some ((bt190.1.length : Int) == 0))))) else (some false))) = some r := h
  clear h
  replace H := Option.bind_eq_some_iff.mp H
  obtain ⟨t189, A30, H⟩ := H
  replace H : (if t189 = true then ((lex_Tokens.f a0).bind fun bt190 => ((tattlelaw0_Num.f bt190.2).bind fun t194 => (if t194 = 0 then (tattlelaw13_LexBack.l0 k a1 bt190.1 (⟨#[]⟩ : ByteArray) ([] : List Int) 0) else (some ((bt190.1.length : Int) == 0))))) else (some false)) = some r := H
  have A3 := Aside0.mk A30
  clear A30
  by_cases c4 : t189 = true
  · subst c4
    have H1 : ((lex_Tokens.f a0).bind fun bt190 => ((tattlelaw0_Num.f bt190.2).bind fun t194 => (if t194 = 0 then (tattlelaw13_LexBack.l0 k a1 bt190.1 (⟨#[]⟩ : ByteArray) ([] : List Int) 0) else (some ((bt190.1.length : Int) == 0))))) = some r := by rw [if_pos rfl] at H; exact H
    clear H
    have H := H1
    clear H1
    replace H := Option.bind_eq_some_iff.mp H
    obtain ⟨⟨t190, t191⟩, A50, H⟩ := H
    replace H : ((tattlelaw0_Num.f t191).bind fun t194 => (if t194 = 0 then (tattlelaw13_LexBack.l0 k a1 t190 (⟨#[]⟩ : ByteArray) ([] : List Int) 0) else (some ((t190.length : Int) == 0)))) = some r := H
    have A5 := Aside0.mk A50
    clear A50
    replace H := Option.bind_eq_some_iff.mp H
    obtain ⟨t194, A60, H⟩ := H
    replace H : (if t194 = 0 then (tattlelaw13_LexBack.l0 k a1 t190 (⟨#[]⟩ : ByteArray) ([] : List Int) 0) else (some ((t190.length : Int) == 0))) = some r := H
    have A6 := Aside0.mk A60
    clear A60
    by_cases c7 : t194 = 0
    · rw [if_pos c7] at H
      have c7b0 : (t194 == 0) = true := beq_iff_eq.mpr c7
      have c7b1 : (t194 != 0) = false := bne_eq_false_iff_eq.mpr c7
      clear c7
      have H' := Aside0.mk H
      clear H
      go_enter Tryd.func4, Tryd.ntmps4
      go_wp2_with (first | (go_at_call 12; (with_reducible refine (tattlelaw13_awake.calls k  true _ A3.out).mono ?_); rintro e w8 ⟨rfl, hb⟩; have n0_ := Aside0.mk (below_step (by repeat (first | (with_reducible first | exact HB.out | apply below_alloc | apply pw_below_drewN | apply below_drew1) | exact HB.out)) hb); clear HB; have HB := n0_; clear n0_; (try clear hb); (try clear hb2); (try clear hk); (try clear hi)) | (go_at_call 8; (with_reducible refine (lex_Tokens.calls a0 t190 t191 _ A5.out).mono ?_); rintro e w9 ⟨v192, rfl, ho0, hb⟩; have n0_ := Aside0.mk (Kd.R_lower ho0 (below_size (by repeat (first | (with_reducible first | exact HB.out | apply below_alloc | apply pw_below_drewN | apply below_drew1) | exact HB.out)))); have n1_ := Aside0.mk (below_step (by repeat (first | (with_reducible first | exact HB.out | apply below_alloc | apply pw_below_drewN | apply below_drew1) | exact HB.out)) hb); clear HB; have HO193 := n0_; have HB := n1_; clear n0_ n1_; (try clear hb); (try clear hb2); (try clear hk); (try clear hi); (try clear ho0)) | (go_at_call 11; (with_reducible refine (tattlelaw0_Num.calls t191 t194 _ A6.out).mono ?_); rintro e w' ⟨rfl, ⟨nd, rfl⟩⟩; (try first | exact ⟨rfl, _, World.drewN_drewN _ _ _⟩ | exact ⟨rfl, _, Eq.trans (World.drewN_drewN _ _ _) (congrArg (World.drewN _) (Nat.add_assoc _ _ _))⟩)))
      repeat (go_quiet (first | (go_at_call 12; (with_reducible refine (tattlelaw13_awake.calls k  true _ A3.out).mono ?_); rintro e w8 ⟨rfl, hb⟩; have n0_ := Aside0.mk (below_step (by repeat (first | (with_reducible first | exact HB.out | apply below_alloc | apply pw_below_drewN | apply below_drew1) | exact HB.out)) hb); clear HB; have HB := n0_; clear n0_; (try clear hb); (try clear hb2); (try clear hk); (try clear hi)) | (go_at_call 8; (with_reducible refine (lex_Tokens.calls a0 t190 t191 _ A5.out).mono ?_); rintro e w9 ⟨v192, rfl, ho0, hb⟩; have n0_ := Aside0.mk (Kd.R_lower ho0 (below_size (by repeat (first | (with_reducible first | exact HB.out | apply below_alloc | apply pw_below_drewN | apply below_drew1) | exact HB.out)))); have n1_ := Aside0.mk (below_step (by repeat (first | (with_reducible first | exact HB.out | apply below_alloc | apply pw_below_drewN | apply below_drew1) | exact HB.out)) hb); clear HB; have HO193 := n0_; have HB := n1_; clear n0_ n1_; (try clear hb); (try clear hb2); (try clear hk); (try clear hi); (try clear ho0)) | (go_at_call 11; (with_reducible refine (tattlelaw0_Num.calls t191 t194 _ A6.out).mono ?_); rintro e w' ⟨rfl, ⟨nd, rfl⟩⟩; (try first | exact ⟨rfl, _, World.drewN_drewN _ _ _⟩ | exact ⟨rfl, _, Eq.trans (World.drewN_drewN _ _ _) (congrArg (World.drewN _) (Nat.add_assoc _ _ _))⟩))); try go_wp2_with (first | (go_at_call 12; (with_reducible refine (tattlelaw13_awake.calls k  true _ A3.out).mono ?_); rintro e w8 ⟨rfl, hb⟩; have n0_ := Aside0.mk (below_step (by repeat (first | (with_reducible first | exact HB.out | apply below_alloc | apply pw_below_drewN | apply below_drew1) | exact HB.out)) hb); clear HB; have HB := n0_; clear n0_; (try clear hb); (try clear hb2); (try clear hk); (try clear hi)) | (go_at_call 8; (with_reducible refine (lex_Tokens.calls a0 t190 t191 _ A5.out).mono ?_); rintro e w9 ⟨v192, rfl, ho0, hb⟩; have n0_ := Aside0.mk (Kd.R_lower ho0 (below_size (by repeat (first | (with_reducible first | exact HB.out | apply below_alloc | apply pw_below_drewN | apply below_drew1) | exact HB.out)))); have n1_ := Aside0.mk (below_step (by repeat (first | (with_reducible first | exact HB.out | apply below_alloc | apply pw_below_drewN | apply below_drew1) | exact HB.out)) hb); clear HB; have HO193 := n0_; have HB := n1_; clear n0_ n1_; (try clear hb); (try clear hb2); (try clear hk); (try clear hi); (try clear ho0)) | (go_at_call 11; (with_reducible refine (tattlelaw0_Num.calls t191 t194 _ A6.out).mono ?_); rintro e w' ⟨rfl, ⟨nd, rfl⟩⟩; (try first | exact ⟨rfl, _, World.drewN_drewN _ _ _⟩ | exact ⟨rfl, _, Eq.trans (World.drewN_drewN _ _ _) (congrArg (World.drewN _) (Nat.add_assoc _ _ _))⟩))))
      go_loopg [7, 8, 9] k (fun kq v7 v8 v9 w' => ∃ (x7_1 : ByteArray) (x8_1 : List Int) (x9_1 : Int), v7 = .string x7_1 ∧ v9 = .int .i64 x9_1 ∧ Aside0 (tattlelaw13_LexBack.l0 kq a1 t190 x7_1 x8_1 x9_1 = some r) ∧ Aside0 (kq ≤ k) ∧ Aside0 (Kd.R k37 37 w' w.heap.size (fun _ => True) v192 t190) ∧ Aside0 (Kd.R (Kd.int .i64) 3 w' w.heap.size (fun _ => True) v8 x8_1) ∧ Aside0 (Below w.heap.size w w'))
      case atStart => exact ⟨((⟨#[]⟩ : ByteArray)), (([] : List Int)), (0), (by first | rfl | (simp; done) | (simp [*]; done)), (by first | rfl | (simp; done) | (simp [*]; done)), H', ⟨Nat.le_refl _⟩, ⟨by (with_reducible repeat (first | apply Kd.R_alloc | apply Kd.R_drewN | apply Kd.R_drew)); exact HO193.out⟩, ⟨by first | exact Kd.R_nil _ _ _ _ _ | exact Kd.N_nil _ _ _ _ _ | exact Kd.V_nil _ _ _ _ _ | exact Kd.Q_nil _ _ _ _ _ | exact Kd.S_nil _ _ _ _ _⟩, ⟨by repeat (first | (with_reducible first | exact HB.out | apply below_alloc | apply pw_below_drewN | apply below_drew1) | exact HB.out)⟩⟩
      case round =>
        clear H'
        try clear p2
        try clear c4
        try clear c7
        try clear c7b0
        try clear c7b1
        obtain ⟨x7_1, x8_1, x9_1, rfl, rfl, HA, HK1, HO_5, HO_8, HB⟩ := hrel
        cases gk with
        | zero => exact absurd HA.out (by simp [tattlelaw13_LexBack.l0])
        | succ k1 =>
          have H := HA.out
          clear HA
          simp only [tattlelaw13_LexBack.l0] at H
          by_cases c10 : x9_1 < (t190.length : Int)
          · rw [if_pos c10] at H
            have c10b0 : decide (x9_1 < (t190.length : Int)) = true := decide_eq_true c10
            clear c10
            obtain ⟨y195, hy195⟩ : ∃ y_ : List ByteArray, y_ = (([(⟨#[32]⟩ : ByteArray), (⟨#[10]⟩ : ByteArray), (⟨#[44, 44, 32]⟩ : ByteArray), (⟨#[35, 120, 34, 10]⟩ : ByteArray)] : List ByteArray)) := ⟨_, rfl⟩
            replace H : (if 0 ≤ (IntKind.u64.wrap (Go.bits .and .i64 x9_1 15)) then (if 0 ≤ (Go.bits .and .i64 (shr .i64 a1 (IntKind.u64.wrap (Go.bits .and .i64 x9_1 15))) 3) then (if (Go.bits .and .i64 (shr .i64 a1 (IntKind.u64.wrap (Go.bits .and .i64 x9_1 15))) 3) < (y195.length : Int) then (if x7_1.size + (rdOf ByteArray.empty y195 (Go.bits .and .i64 (shr .i64 a1 (IntKind.u64.wrap (Go.bits .and .i64 x9_1 15))) 3)).size ≤ 9223372036854775807 then (if x8_1.length < 17592186044416 then ((some (x8_1 ++ [((x7_1 ++ (rdOf ByteArray.empty y195 (Go.bits .and .i64 (shr .i64 a1 (IntKind.u64.wrap (Go.bits .and .i64 x9_1 15))) 3))).size : Int)] : List Int)).bind fun y199 => (if 0 ≤ x9_1 then ((tattlelaw13_written.f k1 ((rd_T37 t190 x9_1).f0) ((rd_T37 t190 x9_1).f1) ((rd_T37 t190 x9_1).f2) ((rd_T37 t190 x9_1).f3)).bind fun t203 => (if (x7_1 ++ (rdOf ByteArray.empty y195 (Go.bits .and .i64 (shr .i64 a1 (IntKind.u64.wrap (Go.bits .and .i64 x9_1 15))) 3))).size + t203.size ≤ 9223372036854775807 then (if ((rd_T37 t190 x9_1).f0) = 3 then (tattlelaw13_LexBack.l0 k1 a1 t190 ((x7_1 ++ (rdOf ByteArray.empty y195 (Go.bits .and .i64 (shr .i64 a1 (IntKind.u64.wrap (Go.bits .and .i64 x9_1 15))) 3))) ++ t203) y199 (wrap64 (x9_1 + 1))) else (if ((x7_1 ++ (rdOf ByteArray.empty y195 (Go.bits .and .i64 (shr .i64 a1 (IntKind.u64.wrap (Go.bits .and .i64 x9_1 15))) 3))) ++ t203).size + 1 ≤ 9223372036854775807 then (tattlelaw13_LexBack.l0 k1 a1 t190 (((x7_1 ++ (rdOf ByteArray.empty y195 (Go.bits .and .i64 (shr .i64 a1 (IntKind.u64.wrap (Go.bits .and .i64 x9_1 15))) 3))) ++ t203) ++ (⟨#[32]⟩ : ByteArray)) y199 (wrap64 (x9_1 + 1))) else (none))) else (none))) else (none))) else (none)) else (none)) else (none)) else (none)) else (none)) = some r := by first | (rw [hy195]; with_reducible exact H) | (have H2_ := (Option.bind_some _ _).symm.trans H; rw [hy195]; with_reducible exact H2_) | (have H2_ := (Option.bind_some _ _).symm.trans H; with_reducible exact H2_) | with_reducible exact H | (rw [hy195]; exact H) | exact H
            have Ny195 := Aside0.mk hy195
            clear hy195
            obtain ⟨ji11, hji11⟩ : ∃ j_ : Int, (IntKind.u64.wrap (Go.bits .and .i64 x9_1 15)) = j_ := ⟨_, rfl⟩
            replace H : (if 0 ≤ (ji11) then (if 0 ≤ (Go.bits .and .i64 (shr .i64 a1 (ji11)) 3) then (if (Go.bits .and .i64 (shr .i64 a1 (ji11)) 3) < (y195.length : Int) then (if x7_1.size + (rdOf ByteArray.empty y195 (Go.bits .and .i64 (shr .i64 a1 (ji11)) 3)).size ≤ 9223372036854775807 then (if x8_1.length < 17592186044416 then ((some (x8_1 ++ [((x7_1 ++ (rdOf ByteArray.empty y195 (Go.bits .and .i64 (shr .i64 a1 (ji11)) 3))).size : Int)] : List Int)).bind fun y199 => (if 0 ≤ x9_1 then ((tattlelaw13_written.f k1 ((rd_T37 t190 x9_1).f0) ((rd_T37 t190 x9_1).f1) ((rd_T37 t190 x9_1).f2) ((rd_T37 t190 x9_1).f3)).bind fun t203 => (if (x7_1 ++ (rdOf ByteArray.empty y195 (Go.bits .and .i64 (shr .i64 a1 (ji11)) 3))).size + t203.size ≤ 9223372036854775807 then (if ((rd_T37 t190 x9_1).f0) = 3 then (tattlelaw13_LexBack.l0 k1 a1 t190 ((x7_1 ++ (rdOf ByteArray.empty y195 (Go.bits .and .i64 (shr .i64 a1 (ji11)) 3))) ++ t203) y199 (wrap64 (x9_1 + 1))) else (if ((x7_1 ++ (rdOf ByteArray.empty y195 (Go.bits .and .i64 (shr .i64 a1 (ji11)) 3))) ++ t203).size + 1 ≤ 9223372036854775807 then (tattlelaw13_LexBack.l0 k1 a1 t190 (((x7_1 ++ (rdOf ByteArray.empty y195 (Go.bits .and .i64 (shr .i64 a1 (ji11)) 3))) ++ t203) ++ (⟨#[32]⟩ : ByteArray)) y199 (wrap64 (x9_1 + 1))) else (none))) else (none))) else (none))) else (none)) else (none)) else (none)) else (none)) else (none)) = some r := by first | (rw [hji11] at H; exact H) | (simp only [hji11] at H ⊢; exact H)
            by_cases c12 : 0 ≤ (ji11)
            · rw [if_pos c12] at H
              have c12b0 := eq_true c12
              have c12b1 : decide (0 ≤ (ji11)) = true := decide_eq_true c12
              clear c12
              obtain ⟨ji13, hji13⟩ : ∃ j_ : Int, (shr .i64 a1 (ji11)) = j_ := ⟨_, rfl⟩
              replace H : (if 0 ≤ (Go.bits .and .i64 (ji13) 3) then (if (Go.bits .and .i64 (ji13) 3) < (y195.length : Int) then (if x7_1.size + (rdOf ByteArray.empty y195 (Go.bits .and .i64 (ji13) 3)).size ≤ 9223372036854775807 then (if x8_1.length < 17592186044416 then ((some (x8_1 ++ [((x7_1 ++ (rdOf ByteArray.empty y195 (Go.bits .and .i64 (ji13) 3))).size : Int)] : List Int)).bind fun y199 => (if 0 ≤ x9_1 then ((tattlelaw13_written.f k1 ((rd_T37 t190 x9_1).f0) ((rd_T37 t190 x9_1).f1) ((rd_T37 t190 x9_1).f2) ((rd_T37 t190 x9_1).f3)).bind fun t203 => (if (x7_1 ++ (rdOf ByteArray.empty y195 (Go.bits .and .i64 (ji13) 3))).size + t203.size ≤ 9223372036854775807 then (if ((rd_T37 t190 x9_1).f0) = 3 then (tattlelaw13_LexBack.l0 k1 a1 t190 ((x7_1 ++ (rdOf ByteArray.empty y195 (Go.bits .and .i64 (ji13) 3))) ++ t203) y199 (wrap64 (x9_1 + 1))) else (if ((x7_1 ++ (rdOf ByteArray.empty y195 (Go.bits .and .i64 (ji13) 3))) ++ t203).size + 1 ≤ 9223372036854775807 then (tattlelaw13_LexBack.l0 k1 a1 t190 (((x7_1 ++ (rdOf ByteArray.empty y195 (Go.bits .and .i64 (ji13) 3))) ++ t203) ++ (⟨#[32]⟩ : ByteArray)) y199 (wrap64 (x9_1 + 1))) else (none))) else (none))) else (none))) else (none)) else (none)) else (none)) else (none)) = some r := by first | (rw [hji13] at H; exact H) | (simp only [hji13] at H ⊢; exact H)
              have hji13_ : (a1 / 2 ^ min (ji11).toNat 64) = ji13 := hji13
              have hji13z : (ji11) ≤ 64 → (a1 / 2 ^ (ji11).toNat) = ji13 := shr_small hji13
              by_cases c14 : 0 ≤ (Go.bits .and .i64 (ji13) 3)
              · rw [if_pos c14] at H
                have c14b0 : decide (0 ≤ (Go.bits .and .i64 (ji13) 3)) = true := decide_eq_true c14
                clear c14
                by_cases c15 : (Go.bits .and .i64 (ji13) 3) < (y195.length : Int)
                · rw [if_pos c15] at H
                  have c15b0 : decide ((Go.bits .and .i64 (ji13) 3) < (y195.length : Int)) = true := decide_eq_true c15
                  clear c15
                  by_cases c16 : x7_1.size + (rdOf ByteArray.empty y195 (Go.bits .and .i64 (ji13) 3)).size ≤ 9223372036854775807
                  · rw [if_pos c16] at H
                    have c16b0 := eq_true c16
                    have c16b1 : decide (x7_1.size + (rdOf ByteArray.empty y195 (Go.bits .and .i64 (ji13) 3)).size ≤ 9223372036854775807) = true := decide_eq_true c16
                    try have c16b2 : (9223372036854775807 < x7_1.size + (rdOf ByteArray.empty y195 (Go.bits .and .i64 (ji13) 3)).size) = False := eq_false (Nat.not_lt.2 c16)
                    by_cases c17 : x8_1.length < 17592186044416
                    · rw [if_pos c17] at H
                      have LMc17 := Aside0.mk c17
                      clear c17
                      obtain ⟨y199, hy199⟩ : ∃ y_ : List Int, y_ = (x8_1 ++ [((x7_1 ++ (rdOf ByteArray.empty y195 (Go.bits .and .i64 (ji13) 3))).size : Int)]) := ⟨_, rfl⟩
                      replace H : (if 0 ≤ x9_1 then ((tattlelaw13_written.f k1 ((rd_T37 t190 x9_1).f0) ((rd_T37 t190 x9_1).f1) ((rd_T37 t190 x9_1).f2) ((rd_T37 t190 x9_1).f3)).bind fun t203 => (if (x7_1 ++ (rdOf ByteArray.empty y195 (Go.bits .and .i64 (ji13) 3))).size + t203.size ≤ 9223372036854775807 then (if ((rd_T37 t190 x9_1).f0) = 3 then (tattlelaw13_LexBack.l0 k1 a1 t190 ((x7_1 ++ (rdOf ByteArray.empty y195 (Go.bits .and .i64 (ji13) 3))) ++ t203) y199 (wrap64 (x9_1 + 1))) else (if ((x7_1 ++ (rdOf ByteArray.empty y195 (Go.bits .and .i64 (ji13) 3))) ++ t203).size + 1 ≤ 9223372036854775807 then (tattlelaw13_LexBack.l0 k1 a1 t190 (((x7_1 ++ (rdOf ByteArray.empty y195 (Go.bits .and .i64 (ji13) 3))) ++ t203) ++ (⟨#[32]⟩ : ByteArray)) y199 (wrap64 (x9_1 + 1))) else (none))) else (none))) else (none)) = some r := by first | (rw [hy199]; with_reducible exact H) | (have H2_ := (Option.bind_some _ _).symm.trans H; rw [hy199]; with_reducible exact H2_) | (have H2_ := (Option.bind_some _ _).symm.trans H; with_reducible exact H2_) | with_reducible exact H | (rw [hy199]; exact H) | exact H
                      have Ny199 := Aside0.mk hy199
                      clear hy199
                      by_cases c18 : 0 ≤ x9_1
                      · rw [if_pos c18] at H
                        have c18b0 : decide (0 ≤ x9_1) = true := decide_eq_true c18
                        clear c18
                        replace H := Option.bind_eq_some_iff.mp H
                        obtain ⟨t203, A190, H⟩ := H
                        replace H : (if (x7_1 ++ (rdOf ByteArray.empty y195 (Go.bits .and .i64 (ji13) 3))).size + t203.size ≤ 9223372036854775807 then (if ((rd_T37 t190 x9_1).f0) = 3 then (tattlelaw13_LexBack.l0 k1 a1 t190 ((x7_1 ++ (rdOf ByteArray.empty y195 (Go.bits .and .i64 (ji13) 3))) ++ t203) y199 (wrap64 (x9_1 + 1))) else (if ((x7_1 ++ (rdOf ByteArray.empty y195 (Go.bits .and .i64 (ji13) 3))) ++ t203).size + 1 ≤ 9223372036854775807 then (tattlelaw13_LexBack.l0 k1 a1 t190 (((x7_1 ++ (rdOf ByteArray.empty y195 (Go.bits .and .i64 (ji13) 3))) ++ t203) ++ (⟨#[32]⟩ : ByteArray)) y199 (wrap64 (x9_1 + 1))) else (none))) else (none)) = some r := H
                        have A19 := Aside0.mk A190
                        clear A190
                        by_cases c20 : (x7_1 ++ (rdOf ByteArray.empty y195 (Go.bits .and .i64 (ji13) 3))).size + t203.size ≤ 9223372036854775807
                        · rw [if_pos c20] at H
                          have c20b0 := eq_true c20
                          have c20b1 : decide ((x7_1 ++ (rdOf ByteArray.empty y195 (Go.bits .and .i64 (ji13) 3))).size + t203.size ≤ 9223372036854775807) = true := decide_eq_true c20
                          try have c20b2 : (9223372036854775807 < (x7_1 ++ (rdOf ByteArray.empty y195 (Go.bits .and .i64 (ji13) 3))).size + t203.size) = False := eq_false (Nat.not_lt.2 c20)
                          by_cases c21 : ((rd_T37 t190 x9_1).f0) = 3
                          · rw [if_pos c21] at H
                            have c21b0 : (((rd_T37 t190 x9_1).f0) == 3) = true := beq_iff_eq.mpr c21
                            have c21b1 : (((rd_T37 t190 x9_1).f0) != 3) = false := bne_eq_false_iff_eq.mpr c21
                            clear c21
                            have H' := Aside0.mk H
                            clear H
                            obtain ⟨Ao22, co22, eo22⟩ := Kd.R_slice HO_5.out
                            subst eo22
                            go_wp2_with (first | ((with_reducible refine gate_dst (N := 33) rfl ?_); (try (refine gate_guard (by rfl) ?_; dsimp only)); refine Kd.R_lit Kd.string _ 9 ?hg (N := 33) ?hd (xs := ([(⟨#[32]⟩ : ByteArray), (⟨#[10]⟩ : ByteArray), (⟨#[44, 44, 32]⟩ : ByteArray), (⟨#[35, 120, 34, 10]⟩ : ByteArray)] : List ByteArray)) (inner := [.string (⟨#[32]⟩ : ByteArray), .string (⟨#[10]⟩ : ByteArray), .string (⟨#[44, 44, 32]⟩ : ByteArray), .string (⟨#[35, 120, 34, 10]⟩ : ByteArray)]) (ok := fun _ => True) (okp := fun _ => True) ?hr ?hp (fun _ hk => hk) trivial (Below.refl _ _) (Nat.le_refl _) (by simp) ?_; (case hd => rfl); (case hg => rfl); (case hr => first | (go_simp; done) | (go_simp; rfl)); (case hp => exact (Reps.one (show Kd.M Kd.string _ _ _ (⟨#[32]⟩ : ByteArray) [.string (⟨#[32]⟩ : ByteArray)] from rfl) (Reps.one (show Kd.M Kd.string _ _ _ (⟨#[10]⟩ : ByteArray) [.string (⟨#[10]⟩ : ByteArray)] from rfl) (Reps.one (show Kd.M Kd.string _ _ _ (⟨#[44, 44, 32]⟩ : ByteArray) [.string (⟨#[44, 44, 32]⟩ : ByteArray)] from rfl) (Reps.one (show Kd.M Kd.string _ _ _ (⟨#[35, 120, 34, 10]⟩ : ByteArray) [.string (⟨#[35, 120, 34, 10]⟩ : ByteArray)] from rfl) (Reps.none _ _)))))); intro v196 w23 ho24 hb hg_ hnew_; clear hg_ hnew_; (first | rw [← Ny195.out] at ho24 | (simp only [Int.reduceToNat] at ho24; rw [← Ny195.out] at ho24)); have n0_ := Aside0.mk (Kd.R_below (by (with_reducible repeat (first | apply Kd.R_alloc | apply Kd.R_drewN | apply Kd.R_drew)); exact HO_5.out) hb); have n1_ := Aside0.mk (Kd.R_below (by (with_reducible repeat (first | apply Kd.R_alloc | apply Kd.R_drewN | apply Kd.R_drew)); exact HO_8.out) hb); have n2_ := Aside0.mk (Kd.R_lower ho24 (below_size (by repeat (first | (with_reducible first | exact HB.out | apply below_alloc | apply pw_below_drewN | apply below_drew1) | exact HB.out)))); have n3_ := Aside0.mk (below_step (by repeat (first | (with_reducible first | exact HB.out | apply below_alloc | apply pw_below_drewN | apply below_drew1) | exact HB.out)) hb); clear HO_5; clear HO_8; clear HB; have HO_5 := n0_; have HO_8 := n1_; have HO197 := n2_; have HB := n3_; clear n0_ n1_ n2_ n3_; clear hb ho24; obtain ⟨Ao25, co25, eo25⟩ := Kd.R_slice HO197.out; subst eo25; have p198 : 0 ≤ ((Go.bits .and .i64 (ji13) 3) : Int) := of_decide_eq_true (by first | (with_reducible assumption) | assumption); have q198 : (Go.bits .and .i64 (ji13) 3) < (y195.length : Int) := of_decide_eq_true (by first | (with_reducible assumption) | assumption); obtain ⟨ad198, e198, hx198_0⟩ := Kd.at_string (Kd.R_reads' HO197.out).2.2 (Go.bits .and .i64 (ji13) 3) p198 q198; cases e198; replace p198 := eq_true p198; replace q198 := eq_true q198) | ((with_reducible refine gate_builtin (b := .append) (xs := #[.tmp 43, .tmp 46]) rfl ?_); (try (refine gate_guard (by rfl) ?_; dsimp only)); at_builtin; refine Kd.R_append (Kd.int .i64) (w0 := w) w.heap.size rfl (.tmp 43) (.tmp 46) 32 3 (.int .i64 0) 8 rfl Tryd.underlying32 info3 rfl (by decide) (by omega) u8 x8_1 ((x7_1.size : Int) + ((rdOf ByteArray.empty y195 (Go.bits .and .i64 (ji13) 3)).size : Int)) [.int .i64 ((x7_1.size : Int) + ((rdOf ByteArray.empty y195 (Go.bits .and .i64 (ji13) 3)).size : Int))] (fun _ => True) (fun _ => False) rfl rfl ?aP (fun _ hk => hk.elim) ?aF ?aO ?aB ?aS ?aL ?_; (case aP => exact rfl); (case aB => exact (by repeat (first | (with_reducible first | exact HB.out | apply below_alloc | apply pw_below_drewN | apply below_drew1) | exact HB.out))); (case aF => exact (fun _ _ => trivial)); (case aO => exact (by (with_reducible repeat (first | apply Kd.R_alloc | apply Kd.R_drewN | apply Kd.R_drew)); exact HO_8.out)); (case aS => exact (below_size (by repeat (first | (with_reducible first | exact HB.out | apply below_alloc | apply pw_below_drewN | apply below_drew1) | exact HB.out)))); (case aL => have := LMc17.out; omega); intro v200 w26 ho hb hg hat; rw [show ((x7_1.size : Int) + ((rdOf ByteArray.empty y195 (Go.bits .and .i64 (ji13) 3)).size : Int)) = ((x7_1 ++ (rdOf ByteArray.empty y195 (Go.bits .and .i64 (ji13) 3))).size : Int) from by rw [ByteArray.size_append]; exact (Int.natCast_add _ _).symm] at ho; rw [← Ny199.out] at ho; have n0_ := Aside0.mk (Kd.R_over' (by (with_reducible repeat (first | apply Kd.R_alloc | apply Kd.R_drewN | apply Kd.R_drew)); exact HO_5.out) (Kd.R_typed (by (with_reducible repeat (first | apply Kd.R_alloc | apply Kd.R_drewN | apply Kd.R_drew)); exact HO_8.out)) (by decide) hg); have n1_ := Aside0.mk (Kd.R_over' (by (with_reducible repeat (first | apply Kd.R_alloc | apply Kd.R_drewN | apply Kd.R_drew)); exact HO197.out) (Kd.R_typed (by (with_reducible repeat (first | apply Kd.R_alloc | apply Kd.R_drewN | apply Kd.R_drew)); exact HO_8.out)) (by decide) hg); have n2_ := Aside0.mk (hb); have n3_ := Aside0.mk (ho); clear HO_5; clear HO197; clear HB; clear HO_8; have HO_5 := n0_; have HO197 := n1_; have HB := n2_; have HO201 := n3_; clear n0_ n1_ n2_ n3_; clear ho hb hg hat; have p202 : 0 ≤ (x9_1 : Int) := of_decide_eq_true (by first | (with_reducible assumption) | assumption); have q202 : x9_1 < (t190.length : Int) := of_decide_eq_true (by first | (with_reducible assumption) | assumption); obtain ⟨ad202, e202, hx202_0, hx202_1, hx202_2, hx202_3⟩ := at_T37 (Kd.R_reads' HO_5.out).2.2 x9_1 p202 q202; cases e202; replace p202 := eq_true p202; replace q202 := eq_true q202) | (go_at_call 13; (with_reducible refine (tattlelaw13_written.calls k1 ((rd_T37 t190 x9_1).f0) ((rd_T37 t190 x9_1).f1) ((rd_T37 t190 x9_1).f2) ((rd_T37 t190 x9_1).f3) t203 _ A19.out).mono ?_); rintro e w27 ⟨rfl, hb⟩; have n0_ := Aside0.mk (Kd.R_below (by (with_reducible repeat (first | apply Kd.R_alloc | apply Kd.R_drewN | apply Kd.R_drew)); exact HO_5.out) hb); have n1_ := Aside0.mk (Kd.R_below (by (with_reducible repeat (first | apply Kd.R_alloc | apply Kd.R_drewN | apply Kd.R_drew)); exact HO197.out) hb); have n2_ := Aside0.mk (Kd.R_below (by (with_reducible repeat (first | apply Kd.R_alloc | apply Kd.R_drewN | apply Kd.R_drew)); exact HO201.out) hb); have n3_ := Aside0.mk (below_step (by repeat (first | (with_reducible first | exact HB.out | apply below_alloc | apply pw_below_drewN | apply below_drew1) | exact HB.out)) hb); clear HO_5; clear HO197; clear HO201; clear HB; have HO_5 := n0_; have HO197 := n1_; have HO201 := n2_; have HB := n3_; clear n0_ n1_ n2_ n3_; (try clear hb); (try clear hb2); (try clear hk); (try clear hi); have p204 : 0 ≤ (x9_1 : Int) := of_decide_eq_true (by first | (with_reducible assumption) | assumption); have q204 : x9_1 < (t190.length : Int) := of_decide_eq_true (by first | (with_reducible assumption) | assumption); obtain ⟨ad204, e204, hx204_0, hx204_1, hx204_2, hx204_3⟩ := at_T37 (Kd.R_reads' HO_5.out).2.2 x9_1 p204 q204; obtain rfl : ad202 = ad204 := (by injection e204); replace p204 := eq_true p204; replace q204 := eq_true q204))
                            repeat (go_quiet (first | ((with_reducible refine gate_dst (N := 33) rfl ?_); (try (refine gate_guard (by rfl) ?_; dsimp only)); refine Kd.R_lit Kd.string _ 9 ?hg (N := 33) ?hd (xs := ([(⟨#[32]⟩ : ByteArray), (⟨#[10]⟩ : ByteArray), (⟨#[44, 44, 32]⟩ : ByteArray), (⟨#[35, 120, 34, 10]⟩ : ByteArray)] : List ByteArray)) (inner := [.string (⟨#[32]⟩ : ByteArray), .string (⟨#[10]⟩ : ByteArray), .string (⟨#[44, 44, 32]⟩ : ByteArray), .string (⟨#[35, 120, 34, 10]⟩ : ByteArray)]) (ok := fun _ => True) (okp := fun _ => True) ?hr ?hp (fun _ hk => hk) trivial (Below.refl _ _) (Nat.le_refl _) (by simp) ?_; (case hd => rfl); (case hg => rfl); (case hr => first | (go_simp; done) | (go_simp; rfl)); (case hp => exact (Reps.one (show Kd.M Kd.string _ _ _ (⟨#[32]⟩ : ByteArray) [.string (⟨#[32]⟩ : ByteArray)] from rfl) (Reps.one (show Kd.M Kd.string _ _ _ (⟨#[10]⟩ : ByteArray) [.string (⟨#[10]⟩ : ByteArray)] from rfl) (Reps.one (show Kd.M Kd.string _ _ _ (⟨#[44, 44, 32]⟩ : ByteArray) [.string (⟨#[44, 44, 32]⟩ : ByteArray)] from rfl) (Reps.one (show Kd.M Kd.string _ _ _ (⟨#[35, 120, 34, 10]⟩ : ByteArray) [.string (⟨#[35, 120, 34, 10]⟩ : ByteArray)] from rfl) (Reps.none _ _)))))); intro v196 w23 ho24 hb hg_ hnew_; clear hg_ hnew_; (first | rw [← Ny195.out] at ho24 | (simp only [Int.reduceToNat] at ho24; rw [← Ny195.out] at ho24)); have n0_ := Aside0.mk (Kd.R_below (by (with_reducible repeat (first | apply Kd.R_alloc | apply Kd.R_drewN | apply Kd.R_drew)); exact HO_5.out) hb); have n1_ := Aside0.mk (Kd.R_below (by (with_reducible repeat (first | apply Kd.R_alloc | apply Kd.R_drewN | apply Kd.R_drew)); exact HO_8.out) hb); have n2_ := Aside0.mk (Kd.R_lower ho24 (below_size (by repeat (first | (with_reducible first | exact HB.out | apply below_alloc | apply pw_below_drewN | apply below_drew1) | exact HB.out)))); have n3_ := Aside0.mk (below_step (by repeat (first | (with_reducible first | exact HB.out | apply below_alloc | apply pw_below_drewN | apply below_drew1) | exact HB.out)) hb); clear HO_5; clear HO_8; clear HB; have HO_5 := n0_; have HO_8 := n1_; have HO197 := n2_; have HB := n3_; clear n0_ n1_ n2_ n3_; clear hb ho24; obtain ⟨Ao25, co25, eo25⟩ := Kd.R_slice HO197.out; subst eo25; have p198 : 0 ≤ ((Go.bits .and .i64 (ji13) 3) : Int) := of_decide_eq_true (by first | (with_reducible assumption) | assumption); have q198 : (Go.bits .and .i64 (ji13) 3) < (y195.length : Int) := of_decide_eq_true (by first | (with_reducible assumption) | assumption); obtain ⟨ad198, e198, hx198_0⟩ := Kd.at_string (Kd.R_reads' HO197.out).2.2 (Go.bits .and .i64 (ji13) 3) p198 q198; cases e198; replace p198 := eq_true p198; replace q198 := eq_true q198) | ((with_reducible refine gate_builtin (b := .append) (xs := #[.tmp 43, .tmp 46]) rfl ?_); (try (refine gate_guard (by rfl) ?_; dsimp only)); at_builtin; refine Kd.R_append (Kd.int .i64) (w0 := w) w.heap.size rfl (.tmp 43) (.tmp 46) 32 3 (.int .i64 0) 8 rfl Tryd.underlying32 info3 rfl (by decide) (by omega) u8 x8_1 ((x7_1.size : Int) + ((rdOf ByteArray.empty y195 (Go.bits .and .i64 (ji13) 3)).size : Int)) [.int .i64 ((x7_1.size : Int) + ((rdOf ByteArray.empty y195 (Go.bits .and .i64 (ji13) 3)).size : Int))] (fun _ => True) (fun _ => False) rfl rfl ?aP (fun _ hk => hk.elim) ?aF ?aO ?aB ?aS ?aL ?_; (case aP => exact rfl); (case aB => exact (by repeat (first | (with_reducible first | exact HB.out | apply below_alloc | apply pw_below_drewN | apply below_drew1) | exact HB.out))); (case aF => exact (fun _ _ => trivial)); (case aO => exact (by (with_reducible repeat (first | apply Kd.R_alloc | apply Kd.R_drewN | apply Kd.R_drew)); exact HO_8.out)); (case aS => exact (below_size (by repeat (first | (with_reducible first | exact HB.out | apply below_alloc | apply pw_below_drewN | apply below_drew1) | exact HB.out)))); (case aL => have := LMc17.out; omega); intro v200 w26 ho hb hg hat; rw [show ((x7_1.size : Int) + ((rdOf ByteArray.empty y195 (Go.bits .and .i64 (ji13) 3)).size : Int)) = ((x7_1 ++ (rdOf ByteArray.empty y195 (Go.bits .and .i64 (ji13) 3))).size : Int) from by rw [ByteArray.size_append]; exact (Int.natCast_add _ _).symm] at ho; rw [← Ny199.out] at ho; have n0_ := Aside0.mk (Kd.R_over' (by (with_reducible repeat (first | apply Kd.R_alloc | apply Kd.R_drewN | apply Kd.R_drew)); exact HO_5.out) (Kd.R_typed (by (with_reducible repeat (first | apply Kd.R_alloc | apply Kd.R_drewN | apply Kd.R_drew)); exact HO_8.out)) (by decide) hg); have n1_ := Aside0.mk (Kd.R_over' (by (with_reducible repeat (first | apply Kd.R_alloc | apply Kd.R_drewN | apply Kd.R_drew)); exact HO197.out) (Kd.R_typed (by (with_reducible repeat (first | apply Kd.R_alloc | apply Kd.R_drewN | apply Kd.R_drew)); exact HO_8.out)) (by decide) hg); have n2_ := Aside0.mk (hb); have n3_ := Aside0.mk (ho); clear HO_5; clear HO197; clear HB; clear HO_8; have HO_5 := n0_; have HO197 := n1_; have HB := n2_; have HO201 := n3_; clear n0_ n1_ n2_ n3_; clear ho hb hg hat; have p202 : 0 ≤ (x9_1 : Int) := of_decide_eq_true (by first | (with_reducible assumption) | assumption); have q202 : x9_1 < (t190.length : Int) := of_decide_eq_true (by first | (with_reducible assumption) | assumption); obtain ⟨ad202, e202, hx202_0, hx202_1, hx202_2, hx202_3⟩ := at_T37 (Kd.R_reads' HO_5.out).2.2 x9_1 p202 q202; cases e202; replace p202 := eq_true p202; replace q202 := eq_true q202) | (go_at_call 13; (with_reducible refine (tattlelaw13_written.calls k1 ((rd_T37 t190 x9_1).f0) ((rd_T37 t190 x9_1).f1) ((rd_T37 t190 x9_1).f2) ((rd_T37 t190 x9_1).f3) t203 _ A19.out).mono ?_); rintro e w27 ⟨rfl, hb⟩; have n0_ := Aside0.mk (Kd.R_below (by (with_reducible repeat (first | apply Kd.R_alloc | apply Kd.R_drewN | apply Kd.R_drew)); exact HO_5.out) hb); have n1_ := Aside0.mk (Kd.R_below (by (with_reducible repeat (first | apply Kd.R_alloc | apply Kd.R_drewN | apply Kd.R_drew)); exact HO197.out) hb); have n2_ := Aside0.mk (Kd.R_below (by (with_reducible repeat (first | apply Kd.R_alloc | apply Kd.R_drewN | apply Kd.R_drew)); exact HO201.out) hb); have n3_ := Aside0.mk (below_step (by repeat (first | (with_reducible first | exact HB.out | apply below_alloc | apply pw_below_drewN | apply below_drew1) | exact HB.out)) hb); clear HO_5; clear HO197; clear HO201; clear HB; have HO_5 := n0_; have HO197 := n1_; have HO201 := n2_; have HB := n3_; clear n0_ n1_ n2_ n3_; (try clear hb); (try clear hb2); (try clear hk); (try clear hi); have p204 : 0 ≤ (x9_1 : Int) := of_decide_eq_true (by first | (with_reducible assumption) | assumption); have q204 : x9_1 < (t190.length : Int) := of_decide_eq_true (by first | (with_reducible assumption) | assumption); obtain ⟨ad204, e204, hx204_0, hx204_1, hx204_2, hx204_3⟩ := at_T37 (Kd.R_reads' HO_5.out).2.2 x9_1 p204 q204; obtain rfl : ad202 = ad204 := (by injection e204); replace p204 := eq_true p204; replace q204 := eq_true q204)); try go_wp2_with (first | ((with_reducible refine gate_dst (N := 33) rfl ?_); (try (refine gate_guard (by rfl) ?_; dsimp only)); refine Kd.R_lit Kd.string _ 9 ?hg (N := 33) ?hd (xs := ([(⟨#[32]⟩ : ByteArray), (⟨#[10]⟩ : ByteArray), (⟨#[44, 44, 32]⟩ : ByteArray), (⟨#[35, 120, 34, 10]⟩ : ByteArray)] : List ByteArray)) (inner := [.string (⟨#[32]⟩ : ByteArray), .string (⟨#[10]⟩ : ByteArray), .string (⟨#[44, 44, 32]⟩ : ByteArray), .string (⟨#[35, 120, 34, 10]⟩ : ByteArray)]) (ok := fun _ => True) (okp := fun _ => True) ?hr ?hp (fun _ hk => hk) trivial (Below.refl _ _) (Nat.le_refl _) (by simp) ?_; (case hd => rfl); (case hg => rfl); (case hr => first | (go_simp; done) | (go_simp; rfl)); (case hp => exact (Reps.one (show Kd.M Kd.string _ _ _ (⟨#[32]⟩ : ByteArray) [.string (⟨#[32]⟩ : ByteArray)] from rfl) (Reps.one (show Kd.M Kd.string _ _ _ (⟨#[10]⟩ : ByteArray) [.string (⟨#[10]⟩ : ByteArray)] from rfl) (Reps.one (show Kd.M Kd.string _ _ _ (⟨#[44, 44, 32]⟩ : ByteArray) [.string (⟨#[44, 44, 32]⟩ : ByteArray)] from rfl) (Reps.one (show Kd.M Kd.string _ _ _ (⟨#[35, 120, 34, 10]⟩ : ByteArray) [.string (⟨#[35, 120, 34, 10]⟩ : ByteArray)] from rfl) (Reps.none _ _)))))); intro v196 w23 ho24 hb hg_ hnew_; clear hg_ hnew_; (first | rw [← Ny195.out] at ho24 | (simp only [Int.reduceToNat] at ho24; rw [← Ny195.out] at ho24)); have n0_ := Aside0.mk (Kd.R_below (by (with_reducible repeat (first | apply Kd.R_alloc | apply Kd.R_drewN | apply Kd.R_drew)); exact HO_5.out) hb); have n1_ := Aside0.mk (Kd.R_below (by (with_reducible repeat (first | apply Kd.R_alloc | apply Kd.R_drewN | apply Kd.R_drew)); exact HO_8.out) hb); have n2_ := Aside0.mk (Kd.R_lower ho24 (below_size (by repeat (first | (with_reducible first | exact HB.out | apply below_alloc | apply pw_below_drewN | apply below_drew1) | exact HB.out)))); have n3_ := Aside0.mk (below_step (by repeat (first | (with_reducible first | exact HB.out | apply below_alloc | apply pw_below_drewN | apply below_drew1) | exact HB.out)) hb); clear HO_5; clear HO_8; clear HB; have HO_5 := n0_; have HO_8 := n1_; have HO197 := n2_; have HB := n3_; clear n0_ n1_ n2_ n3_; clear hb ho24; obtain ⟨Ao25, co25, eo25⟩ := Kd.R_slice HO197.out; subst eo25; have p198 : 0 ≤ ((Go.bits .and .i64 (ji13) 3) : Int) := of_decide_eq_true (by first | (with_reducible assumption) | assumption); have q198 : (Go.bits .and .i64 (ji13) 3) < (y195.length : Int) := of_decide_eq_true (by first | (with_reducible assumption) | assumption); obtain ⟨ad198, e198, hx198_0⟩ := Kd.at_string (Kd.R_reads' HO197.out).2.2 (Go.bits .and .i64 (ji13) 3) p198 q198; cases e198; replace p198 := eq_true p198; replace q198 := eq_true q198) | ((with_reducible refine gate_builtin (b := .append) (xs := #[.tmp 43, .tmp 46]) rfl ?_); (try (refine gate_guard (by rfl) ?_; dsimp only)); at_builtin; refine Kd.R_append (Kd.int .i64) (w0 := w) w.heap.size rfl (.tmp 43) (.tmp 46) 32 3 (.int .i64 0) 8 rfl Tryd.underlying32 info3 rfl (by decide) (by omega) u8 x8_1 ((x7_1.size : Int) + ((rdOf ByteArray.empty y195 (Go.bits .and .i64 (ji13) 3)).size : Int)) [.int .i64 ((x7_1.size : Int) + ((rdOf ByteArray.empty y195 (Go.bits .and .i64 (ji13) 3)).size : Int))] (fun _ => True) (fun _ => False) rfl rfl ?aP (fun _ hk => hk.elim) ?aF ?aO ?aB ?aS ?aL ?_; (case aP => exact rfl); (case aB => exact (by repeat (first | (with_reducible first | exact HB.out | apply below_alloc | apply pw_below_drewN | apply below_drew1) | exact HB.out))); (case aF => exact (fun _ _ => trivial)); (case aO => exact (by (with_reducible repeat (first | apply Kd.R_alloc | apply Kd.R_drewN | apply Kd.R_drew)); exact HO_8.out)); (case aS => exact (below_size (by repeat (first | (with_reducible first | exact HB.out | apply below_alloc | apply pw_below_drewN | apply below_drew1) | exact HB.out)))); (case aL => have := LMc17.out; omega); intro v200 w26 ho hb hg hat; rw [show ((x7_1.size : Int) + ((rdOf ByteArray.empty y195 (Go.bits .and .i64 (ji13) 3)).size : Int)) = ((x7_1 ++ (rdOf ByteArray.empty y195 (Go.bits .and .i64 (ji13) 3))).size : Int) from by rw [ByteArray.size_append]; exact (Int.natCast_add _ _).symm] at ho; rw [← Ny199.out] at ho; have n0_ := Aside0.mk (Kd.R_over' (by (with_reducible repeat (first | apply Kd.R_alloc | apply Kd.R_drewN | apply Kd.R_drew)); exact HO_5.out) (Kd.R_typed (by (with_reducible repeat (first | apply Kd.R_alloc | apply Kd.R_drewN | apply Kd.R_drew)); exact HO_8.out)) (by decide) hg); have n1_ := Aside0.mk (Kd.R_over' (by (with_reducible repeat (first | apply Kd.R_alloc | apply Kd.R_drewN | apply Kd.R_drew)); exact HO197.out) (Kd.R_typed (by (with_reducible repeat (first | apply Kd.R_alloc | apply Kd.R_drewN | apply Kd.R_drew)); exact HO_8.out)) (by decide) hg); have n2_ := Aside0.mk (hb); have n3_ := Aside0.mk (ho); clear HO_5; clear HO197; clear HB; clear HO_8; have HO_5 := n0_; have HO197 := n1_; have HB := n2_; have HO201 := n3_; clear n0_ n1_ n2_ n3_; clear ho hb hg hat; have p202 : 0 ≤ (x9_1 : Int) := of_decide_eq_true (by first | (with_reducible assumption) | assumption); have q202 : x9_1 < (t190.length : Int) := of_decide_eq_true (by first | (with_reducible assumption) | assumption); obtain ⟨ad202, e202, hx202_0, hx202_1, hx202_2, hx202_3⟩ := at_T37 (Kd.R_reads' HO_5.out).2.2 x9_1 p202 q202; cases e202; replace p202 := eq_true p202; replace q202 := eq_true q202) | (go_at_call 13; (with_reducible refine (tattlelaw13_written.calls k1 ((rd_T37 t190 x9_1).f0) ((rd_T37 t190 x9_1).f1) ((rd_T37 t190 x9_1).f2) ((rd_T37 t190 x9_1).f3) t203 _ A19.out).mono ?_); rintro e w27 ⟨rfl, hb⟩; have n0_ := Aside0.mk (Kd.R_below (by (with_reducible repeat (first | apply Kd.R_alloc | apply Kd.R_drewN | apply Kd.R_drew)); exact HO_5.out) hb); have n1_ := Aside0.mk (Kd.R_below (by (with_reducible repeat (first | apply Kd.R_alloc | apply Kd.R_drewN | apply Kd.R_drew)); exact HO197.out) hb); have n2_ := Aside0.mk (Kd.R_below (by (with_reducible repeat (first | apply Kd.R_alloc | apply Kd.R_drewN | apply Kd.R_drew)); exact HO201.out) hb); have n3_ := Aside0.mk (below_step (by repeat (first | (with_reducible first | exact HB.out | apply below_alloc | apply pw_below_drewN | apply below_drew1) | exact HB.out)) hb); clear HO_5; clear HO197; clear HO201; clear HB; have HO_5 := n0_; have HO197 := n1_; have HO201 := n2_; have HB := n3_; clear n0_ n1_ n2_ n3_; (try clear hb); (try clear hb2); (try clear hk); (try clear hi); have p204 : 0 ≤ (x9_1 : Int) := of_decide_eq_true (by first | (with_reducible assumption) | assumption); have q204 : x9_1 < (t190.length : Int) := of_decide_eq_true (by first | (with_reducible assumption) | assumption); obtain ⟨ad204, e204, hx204_0, hx204_1, hx204_2, hx204_3⟩ := at_T37 (Kd.R_reads' HO_5.out).2.2 x9_1 p204 q204; obtain rfl : ad202 = ad204 := (by injection e204); replace p204 := eq_true p204; replace q204 := eq_true q204)))
                            go_roundg k1
                            case measure => have := HK1.out; omega
                            case rel => exact ⟨((x7_1 ++ (rdOf ByteArray.empty y195 (Go.bits .and .i64 (ji13) 3))) ++ t203), (y199), (wrap64 (x9_1 + 1)), (by first | rfl | (simp; done) | (simp only [← hji13] <;> (first | rfl | simp)) | (simp [*]; done)), (by first | rfl | (simp; done) | (simp [*]; done)), H', ⟨by have := HK1.out; omega⟩, ⟨by (with_reducible repeat (first | apply Kd.R_alloc | apply Kd.R_drewN | apply Kd.R_drew)); exact HO_5.out⟩, ⟨by (with_reducible repeat (first | apply Kd.R_alloc | apply Kd.R_drewN | apply Kd.R_drew)); exact HO201.out⟩, ⟨by repeat (first | (with_reducible first | exact HB.out | apply below_alloc | apply pw_below_drewN | apply below_drew1) | exact HB.out)⟩⟩
                          · rw [if_neg c21] at H
                            have c21b0 : (((rd_T37 t190 x9_1).f0) == 3) = false := beq_eq_false_iff_ne.mpr c21
                            have c21b1 : (((rd_T37 t190 x9_1).f0) != 3) = true := bne_iff_ne.mpr c21
                            by_cases c28 : ((x7_1 ++ (rdOf ByteArray.empty y195 (Go.bits .and .i64 (ji13) 3))) ++ t203).size + 1 ≤ 9223372036854775807
                            · rw [if_pos c28] at H
                              have c28b0 := eq_true c28
                              have c28s : x7_1.size + (rdOf ByteArray.empty y195 (Go.bits .and .i64 (ji13) 3)).size + t203.size + 1 ≤ 9223372036854775807 := by have := c28; rw [ByteArray.size_append, ByteArray.size_append] at this; exact this
                              have c28b5 := eq_true c28s
                              have c28b6 : decide (x7_1.size + (rdOf ByteArray.empty y195 (Go.bits .and .i64 (ji13) 3)).size + t203.size + 1 ≤ 9223372036854775807) = true := decide_eq_true c28s
                              have c28b7 : (9223372036854775807 < x7_1.size + (rdOf ByteArray.empty y195 (Go.bits .and .i64 (ji13) 3)).size + t203.size + 1) = False := eq_false (Nat.not_lt.2 c28s)
                              clear c28s
                              have c28b1 : decide (((x7_1 ++ (rdOf ByteArray.empty y195 (Go.bits .and .i64 (ji13) 3))) ++ t203).size + 1 ≤ 9223372036854775807) = true := decide_eq_true c28
                              try have c28b2 : (9223372036854775807 < ((x7_1 ++ (rdOf ByteArray.empty y195 (Go.bits .and .i64 (ji13) 3))) ++ t203).size + 1) = False := eq_false (Nat.not_lt.2 c28)
                              have H' := Aside0.mk H
                              clear H
                              obtain ⟨Ao29, co29, eo29⟩ := Kd.R_slice HO_5.out
                              subst eo29
                              go_wp2_with (first | ((with_reducible refine gate_dst (N := 33) rfl ?_); (try (refine gate_guard (by rfl) ?_; dsimp only)); refine Kd.R_lit Kd.string _ 9 ?hg (N := 33) ?hd (xs := ([(⟨#[32]⟩ : ByteArray), (⟨#[10]⟩ : ByteArray), (⟨#[44, 44, 32]⟩ : ByteArray), (⟨#[35, 120, 34, 10]⟩ : ByteArray)] : List ByteArray)) (inner := [.string (⟨#[32]⟩ : ByteArray), .string (⟨#[10]⟩ : ByteArray), .string (⟨#[44, 44, 32]⟩ : ByteArray), .string (⟨#[35, 120, 34, 10]⟩ : ByteArray)]) (ok := fun _ => True) (okp := fun _ => True) ?hr ?hp (fun _ hk => hk) trivial (Below.refl _ _) (Nat.le_refl _) (by simp) ?_; (case hd => rfl); (case hg => rfl); (case hr => first | (go_simp; done) | (go_simp; rfl)); (case hp => exact (Reps.one (show Kd.M Kd.string _ _ _ (⟨#[32]⟩ : ByteArray) [.string (⟨#[32]⟩ : ByteArray)] from rfl) (Reps.one (show Kd.M Kd.string _ _ _ (⟨#[10]⟩ : ByteArray) [.string (⟨#[10]⟩ : ByteArray)] from rfl) (Reps.one (show Kd.M Kd.string _ _ _ (⟨#[44, 44, 32]⟩ : ByteArray) [.string (⟨#[44, 44, 32]⟩ : ByteArray)] from rfl) (Reps.one (show Kd.M Kd.string _ _ _ (⟨#[35, 120, 34, 10]⟩ : ByteArray) [.string (⟨#[35, 120, 34, 10]⟩ : ByteArray)] from rfl) (Reps.none _ _)))))); intro v196 w30 ho31 hb hg_ hnew_; clear hg_ hnew_; (first | rw [← Ny195.out] at ho31 | (simp only [Int.reduceToNat] at ho31; rw [← Ny195.out] at ho31)); have n0_ := Aside0.mk (Kd.R_below (by (with_reducible repeat (first | apply Kd.R_alloc | apply Kd.R_drewN | apply Kd.R_drew)); exact HO_5.out) hb); have n1_ := Aside0.mk (Kd.R_below (by (with_reducible repeat (first | apply Kd.R_alloc | apply Kd.R_drewN | apply Kd.R_drew)); exact HO_8.out) hb); have n2_ := Aside0.mk (Kd.R_lower ho31 (below_size (by repeat (first | (with_reducible first | exact HB.out | apply below_alloc | apply pw_below_drewN | apply below_drew1) | exact HB.out)))); have n3_ := Aside0.mk (below_step (by repeat (first | (with_reducible first | exact HB.out | apply below_alloc | apply pw_below_drewN | apply below_drew1) | exact HB.out)) hb); clear HO_5; clear HO_8; clear HB; have HO_5 := n0_; have HO_8 := n1_; have HO197 := n2_; have HB := n3_; clear n0_ n1_ n2_ n3_; clear hb ho31; obtain ⟨Ao32, co32, eo32⟩ := Kd.R_slice HO197.out; subst eo32; have p198 : 0 ≤ ((Go.bits .and .i64 (ji13) 3) : Int) := of_decide_eq_true (by first | (with_reducible assumption) | assumption); have q198 : (Go.bits .and .i64 (ji13) 3) < (y195.length : Int) := of_decide_eq_true (by first | (with_reducible assumption) | assumption); obtain ⟨ad198, e198, hx198_0⟩ := Kd.at_string (Kd.R_reads' HO197.out).2.2 (Go.bits .and .i64 (ji13) 3) p198 q198; cases e198; replace p198 := eq_true p198; replace q198 := eq_true q198) | ((with_reducible refine gate_builtin (b := .append) (xs := #[.tmp 43, .tmp 46]) rfl ?_); (try (refine gate_guard (by rfl) ?_; dsimp only)); at_builtin; refine Kd.R_append (Kd.int .i64) (w0 := w) w.heap.size rfl (.tmp 43) (.tmp 46) 32 3 (.int .i64 0) 8 rfl Tryd.underlying32 info3 rfl (by decide) (by omega) u8 x8_1 ((x7_1.size : Int) + ((rdOf ByteArray.empty y195 (Go.bits .and .i64 (ji13) 3)).size : Int)) [.int .i64 ((x7_1.size : Int) + ((rdOf ByteArray.empty y195 (Go.bits .and .i64 (ji13) 3)).size : Int))] (fun _ => True) (fun _ => False) rfl rfl ?aP (fun _ hk => hk.elim) ?aF ?aO ?aB ?aS ?aL ?_; (case aP => exact rfl); (case aB => exact (by repeat (first | (with_reducible first | exact HB.out | apply below_alloc | apply pw_below_drewN | apply below_drew1) | exact HB.out))); (case aF => exact (fun _ _ => trivial)); (case aO => exact (by (with_reducible repeat (first | apply Kd.R_alloc | apply Kd.R_drewN | apply Kd.R_drew)); exact HO_8.out)); (case aS => exact (below_size (by repeat (first | (with_reducible first | exact HB.out | apply below_alloc | apply pw_below_drewN | apply below_drew1) | exact HB.out)))); (case aL => have := LMc17.out; omega); intro v200 w33 ho hb hg hat; rw [show ((x7_1.size : Int) + ((rdOf ByteArray.empty y195 (Go.bits .and .i64 (ji13) 3)).size : Int)) = ((x7_1 ++ (rdOf ByteArray.empty y195 (Go.bits .and .i64 (ji13) 3))).size : Int) from by rw [ByteArray.size_append]; exact (Int.natCast_add _ _).symm] at ho; rw [← Ny199.out] at ho; have n0_ := Aside0.mk (Kd.R_over' (by (with_reducible repeat (first | apply Kd.R_alloc | apply Kd.R_drewN | apply Kd.R_drew)); exact HO_5.out) (Kd.R_typed (by (with_reducible repeat (first | apply Kd.R_alloc | apply Kd.R_drewN | apply Kd.R_drew)); exact HO_8.out)) (by decide) hg); have n1_ := Aside0.mk (Kd.R_over' (by (with_reducible repeat (first | apply Kd.R_alloc | apply Kd.R_drewN | apply Kd.R_drew)); exact HO197.out) (Kd.R_typed (by (with_reducible repeat (first | apply Kd.R_alloc | apply Kd.R_drewN | apply Kd.R_drew)); exact HO_8.out)) (by decide) hg); have n2_ := Aside0.mk (hb); have n3_ := Aside0.mk (ho); clear HO_5; clear HO197; clear HB; clear HO_8; have HO_5 := n0_; have HO197 := n1_; have HB := n2_; have HO201 := n3_; clear n0_ n1_ n2_ n3_; clear ho hb hg hat; have p202 : 0 ≤ (x9_1 : Int) := of_decide_eq_true (by first | (with_reducible assumption) | assumption); have q202 : x9_1 < (t190.length : Int) := of_decide_eq_true (by first | (with_reducible assumption) | assumption); obtain ⟨ad202, e202, hx202_0, hx202_1, hx202_2, hx202_3⟩ := at_T37 (Kd.R_reads' HO_5.out).2.2 x9_1 p202 q202; cases e202; replace p202 := eq_true p202; replace q202 := eq_true q202) | (go_at_call 13; (with_reducible refine (tattlelaw13_written.calls k1 ((rd_T37 t190 x9_1).f0) ((rd_T37 t190 x9_1).f1) ((rd_T37 t190 x9_1).f2) ((rd_T37 t190 x9_1).f3) t203 _ A19.out).mono ?_); rintro e w34 ⟨rfl, hb⟩; have n0_ := Aside0.mk (Kd.R_below (by (with_reducible repeat (first | apply Kd.R_alloc | apply Kd.R_drewN | apply Kd.R_drew)); exact HO_5.out) hb); have n1_ := Aside0.mk (Kd.R_below (by (with_reducible repeat (first | apply Kd.R_alloc | apply Kd.R_drewN | apply Kd.R_drew)); exact HO197.out) hb); have n2_ := Aside0.mk (Kd.R_below (by (with_reducible repeat (first | apply Kd.R_alloc | apply Kd.R_drewN | apply Kd.R_drew)); exact HO201.out) hb); have n3_ := Aside0.mk (below_step (by repeat (first | (with_reducible first | exact HB.out | apply below_alloc | apply pw_below_drewN | apply below_drew1) | exact HB.out)) hb); clear HO_5; clear HO197; clear HO201; clear HB; have HO_5 := n0_; have HO197 := n1_; have HO201 := n2_; have HB := n3_; clear n0_ n1_ n2_ n3_; (try clear hb); (try clear hb2); (try clear hk); (try clear hi); have p204 : 0 ≤ (x9_1 : Int) := of_decide_eq_true (by first | (with_reducible assumption) | assumption); have q204 : x9_1 < (t190.length : Int) := of_decide_eq_true (by first | (with_reducible assumption) | assumption); obtain ⟨ad204, e204, hx204_0, hx204_1, hx204_2, hx204_3⟩ := at_T37 (Kd.R_reads' HO_5.out).2.2 x9_1 p204 q204; obtain rfl : ad202 = ad204 := (by injection e204); replace p204 := eq_true p204; replace q204 := eq_true q204))
                              repeat (go_quiet (first | ((with_reducible refine gate_dst (N := 33) rfl ?_); (try (refine gate_guard (by rfl) ?_; dsimp only)); refine Kd.R_lit Kd.string _ 9 ?hg (N := 33) ?hd (xs := ([(⟨#[32]⟩ : ByteArray), (⟨#[10]⟩ : ByteArray), (⟨#[44, 44, 32]⟩ : ByteArray), (⟨#[35, 120, 34, 10]⟩ : ByteArray)] : List ByteArray)) (inner := [.string (⟨#[32]⟩ : ByteArray), .string (⟨#[10]⟩ : ByteArray), .string (⟨#[44, 44, 32]⟩ : ByteArray), .string (⟨#[35, 120, 34, 10]⟩ : ByteArray)]) (ok := fun _ => True) (okp := fun _ => True) ?hr ?hp (fun _ hk => hk) trivial (Below.refl _ _) (Nat.le_refl _) (by simp) ?_; (case hd => rfl); (case hg => rfl); (case hr => first | (go_simp; done) | (go_simp; rfl)); (case hp => exact (Reps.one (show Kd.M Kd.string _ _ _ (⟨#[32]⟩ : ByteArray) [.string (⟨#[32]⟩ : ByteArray)] from rfl) (Reps.one (show Kd.M Kd.string _ _ _ (⟨#[10]⟩ : ByteArray) [.string (⟨#[10]⟩ : ByteArray)] from rfl) (Reps.one (show Kd.M Kd.string _ _ _ (⟨#[44, 44, 32]⟩ : ByteArray) [.string (⟨#[44, 44, 32]⟩ : ByteArray)] from rfl) (Reps.one (show Kd.M Kd.string _ _ _ (⟨#[35, 120, 34, 10]⟩ : ByteArray) [.string (⟨#[35, 120, 34, 10]⟩ : ByteArray)] from rfl) (Reps.none _ _)))))); intro v196 w30 ho31 hb hg_ hnew_; clear hg_ hnew_; (first | rw [← Ny195.out] at ho31 | (simp only [Int.reduceToNat] at ho31; rw [← Ny195.out] at ho31)); have n0_ := Aside0.mk (Kd.R_below (by (with_reducible repeat (first | apply Kd.R_alloc | apply Kd.R_drewN | apply Kd.R_drew)); exact HO_5.out) hb); have n1_ := Aside0.mk (Kd.R_below (by (with_reducible repeat (first | apply Kd.R_alloc | apply Kd.R_drewN | apply Kd.R_drew)); exact HO_8.out) hb); have n2_ := Aside0.mk (Kd.R_lower ho31 (below_size (by repeat (first | (with_reducible first | exact HB.out | apply below_alloc | apply pw_below_drewN | apply below_drew1) | exact HB.out)))); have n3_ := Aside0.mk (below_step (by repeat (first | (with_reducible first | exact HB.out | apply below_alloc | apply pw_below_drewN | apply below_drew1) | exact HB.out)) hb); clear HO_5; clear HO_8; clear HB; have HO_5 := n0_; have HO_8 := n1_; have HO197 := n2_; have HB := n3_; clear n0_ n1_ n2_ n3_; clear hb ho31; obtain ⟨Ao32, co32, eo32⟩ := Kd.R_slice HO197.out; subst eo32; have p198 : 0 ≤ ((Go.bits .and .i64 (ji13) 3) : Int) := of_decide_eq_true (by first | (with_reducible assumption) | assumption); have q198 : (Go.bits .and .i64 (ji13) 3) < (y195.length : Int) := of_decide_eq_true (by first | (with_reducible assumption) | assumption); obtain ⟨ad198, e198, hx198_0⟩ := Kd.at_string (Kd.R_reads' HO197.out).2.2 (Go.bits .and .i64 (ji13) 3) p198 q198; cases e198; replace p198 := eq_true p198; replace q198 := eq_true q198) | ((with_reducible refine gate_builtin (b := .append) (xs := #[.tmp 43, .tmp 46]) rfl ?_); (try (refine gate_guard (by rfl) ?_; dsimp only)); at_builtin; refine Kd.R_append (Kd.int .i64) (w0 := w) w.heap.size rfl (.tmp 43) (.tmp 46) 32 3 (.int .i64 0) 8 rfl Tryd.underlying32 info3 rfl (by decide) (by omega) u8 x8_1 ((x7_1.size : Int) + ((rdOf ByteArray.empty y195 (Go.bits .and .i64 (ji13) 3)).size : Int)) [.int .i64 ((x7_1.size : Int) + ((rdOf ByteArray.empty y195 (Go.bits .and .i64 (ji13) 3)).size : Int))] (fun _ => True) (fun _ => False) rfl rfl ?aP (fun _ hk => hk.elim) ?aF ?aO ?aB ?aS ?aL ?_; (case aP => exact rfl); (case aB => exact (by repeat (first | (with_reducible first | exact HB.out | apply below_alloc | apply pw_below_drewN | apply below_drew1) | exact HB.out))); (case aF => exact (fun _ _ => trivial)); (case aO => exact (by (with_reducible repeat (first | apply Kd.R_alloc | apply Kd.R_drewN | apply Kd.R_drew)); exact HO_8.out)); (case aS => exact (below_size (by repeat (first | (with_reducible first | exact HB.out | apply below_alloc | apply pw_below_drewN | apply below_drew1) | exact HB.out)))); (case aL => have := LMc17.out; omega); intro v200 w33 ho hb hg hat; rw [show ((x7_1.size : Int) + ((rdOf ByteArray.empty y195 (Go.bits .and .i64 (ji13) 3)).size : Int)) = ((x7_1 ++ (rdOf ByteArray.empty y195 (Go.bits .and .i64 (ji13) 3))).size : Int) from by rw [ByteArray.size_append]; exact (Int.natCast_add _ _).symm] at ho; rw [← Ny199.out] at ho; have n0_ := Aside0.mk (Kd.R_over' (by (with_reducible repeat (first | apply Kd.R_alloc | apply Kd.R_drewN | apply Kd.R_drew)); exact HO_5.out) (Kd.R_typed (by (with_reducible repeat (first | apply Kd.R_alloc | apply Kd.R_drewN | apply Kd.R_drew)); exact HO_8.out)) (by decide) hg); have n1_ := Aside0.mk (Kd.R_over' (by (with_reducible repeat (first | apply Kd.R_alloc | apply Kd.R_drewN | apply Kd.R_drew)); exact HO197.out) (Kd.R_typed (by (with_reducible repeat (first | apply Kd.R_alloc | apply Kd.R_drewN | apply Kd.R_drew)); exact HO_8.out)) (by decide) hg); have n2_ := Aside0.mk (hb); have n3_ := Aside0.mk (ho); clear HO_5; clear HO197; clear HB; clear HO_8; have HO_5 := n0_; have HO197 := n1_; have HB := n2_; have HO201 := n3_; clear n0_ n1_ n2_ n3_; clear ho hb hg hat; have p202 : 0 ≤ (x9_1 : Int) := of_decide_eq_true (by first | (with_reducible assumption) | assumption); have q202 : x9_1 < (t190.length : Int) := of_decide_eq_true (by first | (with_reducible assumption) | assumption); obtain ⟨ad202, e202, hx202_0, hx202_1, hx202_2, hx202_3⟩ := at_T37 (Kd.R_reads' HO_5.out).2.2 x9_1 p202 q202; cases e202; replace p202 := eq_true p202; replace q202 := eq_true q202) | (go_at_call 13; (with_reducible refine (tattlelaw13_written.calls k1 ((rd_T37 t190 x9_1).f0) ((rd_T37 t190 x9_1).f1) ((rd_T37 t190 x9_1).f2) ((rd_T37 t190 x9_1).f3) t203 _ A19.out).mono ?_); rintro e w34 ⟨rfl, hb⟩; have n0_ := Aside0.mk (Kd.R_below (by (with_reducible repeat (first | apply Kd.R_alloc | apply Kd.R_drewN | apply Kd.R_drew)); exact HO_5.out) hb); have n1_ := Aside0.mk (Kd.R_below (by (with_reducible repeat (first | apply Kd.R_alloc | apply Kd.R_drewN | apply Kd.R_drew)); exact HO197.out) hb); have n2_ := Aside0.mk (Kd.R_below (by (with_reducible repeat (first | apply Kd.R_alloc | apply Kd.R_drewN | apply Kd.R_drew)); exact HO201.out) hb); have n3_ := Aside0.mk (below_step (by repeat (first | (with_reducible first | exact HB.out | apply below_alloc | apply pw_below_drewN | apply below_drew1) | exact HB.out)) hb); clear HO_5; clear HO197; clear HO201; clear HB; have HO_5 := n0_; have HO197 := n1_; have HO201 := n2_; have HB := n3_; clear n0_ n1_ n2_ n3_; (try clear hb); (try clear hb2); (try clear hk); (try clear hi); have p204 : 0 ≤ (x9_1 : Int) := of_decide_eq_true (by first | (with_reducible assumption) | assumption); have q204 : x9_1 < (t190.length : Int) := of_decide_eq_true (by first | (with_reducible assumption) | assumption); obtain ⟨ad204, e204, hx204_0, hx204_1, hx204_2, hx204_3⟩ := at_T37 (Kd.R_reads' HO_5.out).2.2 x9_1 p204 q204; obtain rfl : ad202 = ad204 := (by injection e204); replace p204 := eq_true p204; replace q204 := eq_true q204)); try go_wp2_with (first | ((with_reducible refine gate_dst (N := 33) rfl ?_); (try (refine gate_guard (by rfl) ?_; dsimp only)); refine Kd.R_lit Kd.string _ 9 ?hg (N := 33) ?hd (xs := ([(⟨#[32]⟩ : ByteArray), (⟨#[10]⟩ : ByteArray), (⟨#[44, 44, 32]⟩ : ByteArray), (⟨#[35, 120, 34, 10]⟩ : ByteArray)] : List ByteArray)) (inner := [.string (⟨#[32]⟩ : ByteArray), .string (⟨#[10]⟩ : ByteArray), .string (⟨#[44, 44, 32]⟩ : ByteArray), .string (⟨#[35, 120, 34, 10]⟩ : ByteArray)]) (ok := fun _ => True) (okp := fun _ => True) ?hr ?hp (fun _ hk => hk) trivial (Below.refl _ _) (Nat.le_refl _) (by simp) ?_; (case hd => rfl); (case hg => rfl); (case hr => first | (go_simp; done) | (go_simp; rfl)); (case hp => exact (Reps.one (show Kd.M Kd.string _ _ _ (⟨#[32]⟩ : ByteArray) [.string (⟨#[32]⟩ : ByteArray)] from rfl) (Reps.one (show Kd.M Kd.string _ _ _ (⟨#[10]⟩ : ByteArray) [.string (⟨#[10]⟩ : ByteArray)] from rfl) (Reps.one (show Kd.M Kd.string _ _ _ (⟨#[44, 44, 32]⟩ : ByteArray) [.string (⟨#[44, 44, 32]⟩ : ByteArray)] from rfl) (Reps.one (show Kd.M Kd.string _ _ _ (⟨#[35, 120, 34, 10]⟩ : ByteArray) [.string (⟨#[35, 120, 34, 10]⟩ : ByteArray)] from rfl) (Reps.none _ _)))))); intro v196 w30 ho31 hb hg_ hnew_; clear hg_ hnew_; (first | rw [← Ny195.out] at ho31 | (simp only [Int.reduceToNat] at ho31; rw [← Ny195.out] at ho31)); have n0_ := Aside0.mk (Kd.R_below (by (with_reducible repeat (first | apply Kd.R_alloc | apply Kd.R_drewN | apply Kd.R_drew)); exact HO_5.out) hb); have n1_ := Aside0.mk (Kd.R_below (by (with_reducible repeat (first | apply Kd.R_alloc | apply Kd.R_drewN | apply Kd.R_drew)); exact HO_8.out) hb); have n2_ := Aside0.mk (Kd.R_lower ho31 (below_size (by repeat (first | (with_reducible first | exact HB.out | apply below_alloc | apply pw_below_drewN | apply below_drew1) | exact HB.out)))); have n3_ := Aside0.mk (below_step (by repeat (first | (with_reducible first | exact HB.out | apply below_alloc | apply pw_below_drewN | apply below_drew1) | exact HB.out)) hb); clear HO_5; clear HO_8; clear HB; have HO_5 := n0_; have HO_8 := n1_; have HO197 := n2_; have HB := n3_; clear n0_ n1_ n2_ n3_; clear hb ho31; obtain ⟨Ao32, co32, eo32⟩ := Kd.R_slice HO197.out; subst eo32; have p198 : 0 ≤ ((Go.bits .and .i64 (ji13) 3) : Int) := of_decide_eq_true (by first | (with_reducible assumption) | assumption); have q198 : (Go.bits .and .i64 (ji13) 3) < (y195.length : Int) := of_decide_eq_true (by first | (with_reducible assumption) | assumption); obtain ⟨ad198, e198, hx198_0⟩ := Kd.at_string (Kd.R_reads' HO197.out).2.2 (Go.bits .and .i64 (ji13) 3) p198 q198; cases e198; replace p198 := eq_true p198; replace q198 := eq_true q198) | ((with_reducible refine gate_builtin (b := .append) (xs := #[.tmp 43, .tmp 46]) rfl ?_); (try (refine gate_guard (by rfl) ?_; dsimp only)); at_builtin; refine Kd.R_append (Kd.int .i64) (w0 := w) w.heap.size rfl (.tmp 43) (.tmp 46) 32 3 (.int .i64 0) 8 rfl Tryd.underlying32 info3 rfl (by decide) (by omega) u8 x8_1 ((x7_1.size : Int) + ((rdOf ByteArray.empty y195 (Go.bits .and .i64 (ji13) 3)).size : Int)) [.int .i64 ((x7_1.size : Int) + ((rdOf ByteArray.empty y195 (Go.bits .and .i64 (ji13) 3)).size : Int))] (fun _ => True) (fun _ => False) rfl rfl ?aP (fun _ hk => hk.elim) ?aF ?aO ?aB ?aS ?aL ?_; (case aP => exact rfl); (case aB => exact (by repeat (first | (with_reducible first | exact HB.out | apply below_alloc | apply pw_below_drewN | apply below_drew1) | exact HB.out))); (case aF => exact (fun _ _ => trivial)); (case aO => exact (by (with_reducible repeat (first | apply Kd.R_alloc | apply Kd.R_drewN | apply Kd.R_drew)); exact HO_8.out)); (case aS => exact (below_size (by repeat (first | (with_reducible first | exact HB.out | apply below_alloc | apply pw_below_drewN | apply below_drew1) | exact HB.out)))); (case aL => have := LMc17.out; omega); intro v200 w33 ho hb hg hat; rw [show ((x7_1.size : Int) + ((rdOf ByteArray.empty y195 (Go.bits .and .i64 (ji13) 3)).size : Int)) = ((x7_1 ++ (rdOf ByteArray.empty y195 (Go.bits .and .i64 (ji13) 3))).size : Int) from by rw [ByteArray.size_append]; exact (Int.natCast_add _ _).symm] at ho; rw [← Ny199.out] at ho; have n0_ := Aside0.mk (Kd.R_over' (by (with_reducible repeat (first | apply Kd.R_alloc | apply Kd.R_drewN | apply Kd.R_drew)); exact HO_5.out) (Kd.R_typed (by (with_reducible repeat (first | apply Kd.R_alloc | apply Kd.R_drewN | apply Kd.R_drew)); exact HO_8.out)) (by decide) hg); have n1_ := Aside0.mk (Kd.R_over' (by (with_reducible repeat (first | apply Kd.R_alloc | apply Kd.R_drewN | apply Kd.R_drew)); exact HO197.out) (Kd.R_typed (by (with_reducible repeat (first | apply Kd.R_alloc | apply Kd.R_drewN | apply Kd.R_drew)); exact HO_8.out)) (by decide) hg); have n2_ := Aside0.mk (hb); have n3_ := Aside0.mk (ho); clear HO_5; clear HO197; clear HB; clear HO_8; have HO_5 := n0_; have HO197 := n1_; have HB := n2_; have HO201 := n3_; clear n0_ n1_ n2_ n3_; clear ho hb hg hat; have p202 : 0 ≤ (x9_1 : Int) := of_decide_eq_true (by first | (with_reducible assumption) | assumption); have q202 : x9_1 < (t190.length : Int) := of_decide_eq_true (by first | (with_reducible assumption) | assumption); obtain ⟨ad202, e202, hx202_0, hx202_1, hx202_2, hx202_3⟩ := at_T37 (Kd.R_reads' HO_5.out).2.2 x9_1 p202 q202; cases e202; replace p202 := eq_true p202; replace q202 := eq_true q202) | (go_at_call 13; (with_reducible refine (tattlelaw13_written.calls k1 ((rd_T37 t190 x9_1).f0) ((rd_T37 t190 x9_1).f1) ((rd_T37 t190 x9_1).f2) ((rd_T37 t190 x9_1).f3) t203 _ A19.out).mono ?_); rintro e w34 ⟨rfl, hb⟩; have n0_ := Aside0.mk (Kd.R_below (by (with_reducible repeat (first | apply Kd.R_alloc | apply Kd.R_drewN | apply Kd.R_drew)); exact HO_5.out) hb); have n1_ := Aside0.mk (Kd.R_below (by (with_reducible repeat (first | apply Kd.R_alloc | apply Kd.R_drewN | apply Kd.R_drew)); exact HO197.out) hb); have n2_ := Aside0.mk (Kd.R_below (by (with_reducible repeat (first | apply Kd.R_alloc | apply Kd.R_drewN | apply Kd.R_drew)); exact HO201.out) hb); have n3_ := Aside0.mk (below_step (by repeat (first | (with_reducible first | exact HB.out | apply below_alloc | apply pw_below_drewN | apply below_drew1) | exact HB.out)) hb); clear HO_5; clear HO197; clear HO201; clear HB; have HO_5 := n0_; have HO197 := n1_; have HO201 := n2_; have HB := n3_; clear n0_ n1_ n2_ n3_; (try clear hb); (try clear hb2); (try clear hk); (try clear hi); have p204 : 0 ≤ (x9_1 : Int) := of_decide_eq_true (by first | (with_reducible assumption) | assumption); have q204 : x9_1 < (t190.length : Int) := of_decide_eq_true (by first | (with_reducible assumption) | assumption); obtain ⟨ad204, e204, hx204_0, hx204_1, hx204_2, hx204_3⟩ := at_T37 (Kd.R_reads' HO_5.out).2.2 x9_1 p204 q204; obtain rfl : ad202 = ad204 := (by injection e204); replace p204 := eq_true p204; replace q204 := eq_true q204)))
                              go_roundg k1
                              case measure => have := HK1.out; omega
                              case rel => exact ⟨(((x7_1 ++ (rdOf ByteArray.empty y195 (Go.bits .and .i64 (ji13) 3))) ++ t203) ++ (⟨#[32]⟩ : ByteArray)), (y199), (wrap64 (x9_1 + 1)), (by first | rfl | (simp; done) | (simp only [← hji13] <;> (first | rfl | simp)) | (simp [*]; done)), (by first | rfl | (simp; done) | (simp [*]; done)), H', ⟨by have := HK1.out; omega⟩, ⟨by (with_reducible repeat (first | apply Kd.R_alloc | apply Kd.R_drewN | apply Kd.R_drew)); exact HO_5.out⟩, ⟨by (with_reducible repeat (first | apply Kd.R_alloc | apply Kd.R_drewN | apply Kd.R_drew)); exact HO201.out⟩, ⟨by repeat (first | (with_reducible first | exact HB.out | apply below_alloc | apply pw_below_drewN | apply below_drew1) | exact HB.out)⟩⟩
                            · rw [if_neg c28] at H
                              exact absurd H (by simp)
                        · rw [if_neg c20] at H
                          exact absurd H (by simp)
                      · rw [if_neg c18] at H
                        exact absurd H (by simp)
                    · rw [if_neg c17] at H
                      exact absurd H (by simp)
                  · rw [if_neg c16] at H
                    exact absurd H (by simp)
                · rw [if_neg c15] at H
                  exact absurd H (by simp)
              · rw [if_neg c14] at H
                exact absurd H (by simp)
            · rw [if_neg c12] at H
              exact absurd H (by simp)
          · rw [if_neg c10] at H
            have c10b0 : decide (x9_1 < (t190.length : Int)) = false := decide_eq_false c10
            clear c10
            by_cases c35 : (x7_1.size : Int) > 65536
            · rw [if_pos c35] at H
              have c35b0 : decide (65536 < (x7_1.size : Int)) = true := decide_eq_true c35
              have c35b1 : decide (65536 < x7_1.size) = true := decide_eq_true (by omega)
              clear c35
              obtain rfl := Option.some.inj H
              obtain ⟨Ao36, co36, eo36⟩ := Kd.R_slice HO_5.out
              subst eo36
              go_wp2
              repeat (go_quiet (fail); try go_wp2)
              go_ret
              exact ⟨by first | rfl | (simp [errW_none, errW_some] <;> rfl) | (simp [*, errW_none, errW_some] <;> rfl), by repeat (first | (with_reducible first | exact HB.out | apply below_alloc | apply pw_below_drewN | apply below_drew1) | exact HB.out)⟩
            · rw [if_neg c35] at H
              have c35b0 : decide (65536 < (x7_1.size : Int)) = false := decide_eq_false c35
              have c35b1 : decide (65536 < x7_1.size) = false := decide_eq_false (by omega)
              clear c35
              replace H := Option.bind_eq_some_iff.mp H
              obtain ⟨⟨t205, t206⟩, A370, H⟩ := H
              replace H : ((tattlelaw0_Num.f t206).bind fun t209 => (if t209 = 0 then (tattlelaw13_LexBack.j1 k1 t190 x8_1 t205 ((t205.length : Int) != (t190.length : Int))) else (tattlelaw13_LexBack.j1 k1 t190 x8_1 t205 true))) = some r := H
              have A37 := Aside0.mk A370
              clear A370
              have HC38 := Aside0.mk H
              clear H
              obtain ⟨Ao39, co39, eo39⟩ := Kd.R_slice HO_5.out
              subst eo39
              go_upto_region 19 with (first | (go_at_call 8; (with_reducible refine (lex_Tokens.calls x7_1 t205 t206 _ A37.out).mono ?_); rintro e w40 ⟨v207, rfl, ho0, hb⟩; have n0_ := Aside0.mk (Kd.R_elder' (by (with_reducible repeat (first | apply Kd.R_alloc | apply Kd.R_drewN | apply Kd.R_drew)); exact HO_5.out) (Kd.R_base ho0) hb); have n1_ := Aside0.mk (Kd.R_below (by (with_reducible repeat (first | apply Kd.R_alloc | apply Kd.R_drewN | apply Kd.R_drew)); exact HO_8.out) hb); have n2_ := Aside0.mk (Kd.R_lower (Kd.R_new' ho0 (Kd.R_lt (by (with_reducible repeat (first | apply Kd.R_alloc | apply Kd.R_drewN | apply Kd.R_drew)); exact HO_5.out))) (below_size (by repeat (first | (with_reducible first | exact HB.out | apply below_alloc | apply pw_below_drewN | apply below_drew1) | exact HB.out)))); have n3_ := Aside0.mk (below_step (by repeat (first | (with_reducible first | exact HB.out | apply below_alloc | apply pw_below_drewN | apply below_drew1) | exact HB.out)) hb); clear HO_5; clear HO_8; clear HB; have HO_5 := n0_; have HO_8 := n1_; have HO208 := n2_; have HB := n3_; clear n0_ n1_ n2_ n3_; (try clear hb); (try clear hb2); (try clear hk); (try clear hi); (try clear ho0)))
              repeat (go_quiet (first | (go_at_call 8; (with_reducible refine (lex_Tokens.calls x7_1 t205 t206 _ A37.out).mono ?_); rintro e w40 ⟨v207, rfl, ho0, hb⟩; have n0_ := Aside0.mk (Kd.R_elder' (by (with_reducible repeat (first | apply Kd.R_alloc | apply Kd.R_drewN | apply Kd.R_drew)); exact HO_5.out) (Kd.R_base ho0) hb); have n1_ := Aside0.mk (Kd.R_below (by (with_reducible repeat (first | apply Kd.R_alloc | apply Kd.R_drewN | apply Kd.R_drew)); exact HO_8.out) hb); have n2_ := Aside0.mk (Kd.R_lower (Kd.R_new' ho0 (Kd.R_lt (by (with_reducible repeat (first | apply Kd.R_alloc | apply Kd.R_drewN | apply Kd.R_drew)); exact HO_5.out))) (below_size (by repeat (first | (with_reducible first | exact HB.out | apply below_alloc | apply pw_below_drewN | apply below_drew1) | exact HB.out)))); have n3_ := Aside0.mk (below_step (by repeat (first | (with_reducible first | exact HB.out | apply below_alloc | apply pw_below_drewN | apply below_drew1) | exact HB.out)) hb); clear HO_5; clear HO_8; clear HB; have HO_5 := n0_; have HO_8 := n1_; have HO208 := n2_; have HB := n3_; clear n0_ n1_ n2_ n3_; (try clear hb); (try clear hb2); (try clear hk); (try clear hi); (try clear ho0))); go_upto_region 19 with (first | (go_at_call 8; (with_reducible refine (lex_Tokens.calls x7_1 t205 t206 _ A37.out).mono ?_); rintro e w40 ⟨v207, rfl, ho0, hb⟩; have n0_ := Aside0.mk (Kd.R_elder' (by (with_reducible repeat (first | apply Kd.R_alloc | apply Kd.R_drewN | apply Kd.R_drew)); exact HO_5.out) (Kd.R_base ho0) hb); have n1_ := Aside0.mk (Kd.R_below (by (with_reducible repeat (first | apply Kd.R_alloc | apply Kd.R_drewN | apply Kd.R_drew)); exact HO_8.out) hb); have n2_ := Aside0.mk (Kd.R_lower (Kd.R_new' ho0 (Kd.R_lt (by (with_reducible repeat (first | apply Kd.R_alloc | apply Kd.R_drewN | apply Kd.R_drew)); exact HO_5.out))) (below_size (by repeat (first | (with_reducible first | exact HB.out | apply below_alloc | apply pw_below_drewN | apply below_drew1) | exact HB.out)))); have n3_ := Aside0.mk (below_step (by repeat (first | (with_reducible first | exact HB.out | apply below_alloc | apply pw_below_drewN | apply below_drew1) | exact HB.out)) hb); clear HO_5; clear HO_8; clear HB; have HO_5 := n0_; have HO_8 := n1_; have HO208 := n2_; have HB := n3_; clear n0_ n1_ n2_ n3_; (try clear hb); (try clear hb2); (try clear hk); (try clear hi); (try clear ho0))))
              (try simp only [Act.put, List.setIfInBounds_toArray, List.set_cons_zero, List.set_cons_succ])
              go_cut [80] (fun v80 wc => ∃ (kq : Nat) (x80_37 : Bool), v80 = .bool x80_37 ∧ Aside0 (tattlelaw13_LexBack.j1 kq t190 x8_1 t205 x80_37 = some r) ∧ Aside0 (kq ≤ k1) ∧ Aside0 (Kd.R k37 37 wc w.heap.size (fun k_ => some k_ ≠ (v207 : Value).ownBlock) (.slice Ao39 t190.length co39) t190) ∧ Aside0 (Kd.R (Kd.int .i64) 3 wc w.heap.size (fun _ => True) u8 x8_1) ∧ Aside0 (Kd.R k37 37 wc w.heap.size (fun k_ => some k_ ≠ ((.slice Ao39 t190.length co39) : Value).ownBlock) v207 t205) ∧ Aside0 (Below w.heap.size w wc))
              case first =>
                have H := HC38.out
                clear HC38
                replace H := Option.bind_eq_some_iff.mp H
                obtain ⟨t209, A410, H⟩ := H
                replace H : (if t209 = 0 then (tattlelaw13_LexBack.j1 k1 t190 x8_1 t205 ((t205.length : Int) != (t190.length : Int))) else (tattlelaw13_LexBack.j1 k1 t190 x8_1 t205 true)) = some r := H
                have A41 := Aside0.mk A410
                clear A410
                by_cases c42 : t209 = 0
                · rw [if_pos c42] at H
                  have c42b0 : (t209 == 0) = true := beq_iff_eq.mpr c42
                  have c42b1 : (t209 != 0) = false := bne_eq_false_iff_eq.mpr c42
                  clear c42
                  (first | rw [c42b0] | (simp only [i64_w, i32_w]; rw [c42b0]) | skip)
                  have H' := Aside0.mk H
                  clear H
                  go_wp2_with (first | (go_at_call 11; (with_reducible refine (tattlelaw0_Num.calls t206 t209 _ A41.out).mono ?_); rintro e w' ⟨rfl, ⟨nd, rfl⟩⟩; (try first | exact ⟨rfl, _, World.drewN_drewN _ _ _⟩ | exact ⟨rfl, _, Eq.trans (World.drewN_drewN _ _ _) (congrArg (World.drewN _) (Nat.add_assoc _ _ _))⟩); obtain ⟨Ao43, co43, eo43⟩ := Kd.R_slice HO208.out; subst eo43))
                  repeat (go_quiet (first | (go_at_call 11; (with_reducible refine (tattlelaw0_Num.calls t206 t209 _ A41.out).mono ?_); rintro e w' ⟨rfl, ⟨nd, rfl⟩⟩; (try first | exact ⟨rfl, _, World.drewN_drewN _ _ _⟩ | exact ⟨rfl, _, Eq.trans (World.drewN_drewN _ _ _) (congrArg (World.drewN _) (Nat.add_assoc _ _ _))⟩); obtain ⟨Ao43, co43, eo43⟩ := Kd.R_slice HO208.out; subst eo43)); try go_wp2_with (first | (go_at_call 11; (with_reducible refine (tattlelaw0_Num.calls t206 t209 _ A41.out).mono ?_); rintro e w' ⟨rfl, ⟨nd, rfl⟩⟩; (try first | exact ⟨rfl, _, World.drewN_drewN _ _ _⟩ | exact ⟨rfl, _, Eq.trans (World.drewN_drewN _ _ _) (congrArg (World.drewN _) (Nat.add_assoc _ _ _))⟩); obtain ⟨Ao43, co43, eo43⟩ := Kd.R_slice HO208.out; subst eo43)))
                  go_meet
                  case rel => exact ⟨_, (((t205.length : Int) != (t190.length : Int))), (by first | rfl | (simp; done) | (simp [*]; done)), H', ⟨by have := HK1.out; first | omega | exact Nat.le_refl _⟩, ⟨by (with_reducible repeat (first | apply Kd.R_alloc | apply Kd.R_drewN | apply Kd.R_drew)); exact Kd.R_mono HO_5.out (fun _ hk => hk.2)⟩, ⟨by (with_reducible repeat (first | apply Kd.R_alloc | apply Kd.R_drewN | apply Kd.R_drew)); exact HO_8.out⟩, ⟨by (with_reducible repeat (first | apply Kd.R_alloc | apply Kd.R_drewN | apply Kd.R_drew)); exact Kd.R_mono HO208.out (fun _ hk => hk.2)⟩, ⟨by repeat (first | (with_reducible first | exact HB.out | apply below_alloc | apply pw_below_drewN | apply below_drew1) | exact HB.out)⟩⟩
                · rw [if_neg c42] at H
                  have c42b0 : (t209 == 0) = false := beq_eq_false_iff_ne.mpr c42
                  have c42b1 : (t209 != 0) = true := bne_iff_ne.mpr c42
                  (first | rw [c42b0] | (simp only [i64_w, i32_w]; rw [c42b0]) | skip)
                  have H' := Aside0.mk H
                  clear H
                  go_wp2_with (first | (go_at_call 11; (with_reducible refine (tattlelaw0_Num.calls t206 t209 _ A41.out).mono ?_); rintro e w' ⟨rfl, ⟨nd, rfl⟩⟩; (try first | exact ⟨rfl, _, World.drewN_drewN _ _ _⟩ | exact ⟨rfl, _, Eq.trans (World.drewN_drewN _ _ _) (congrArg (World.drewN _) (Nat.add_assoc _ _ _))⟩)))
                  repeat (go_quiet (first | (go_at_call 11; (with_reducible refine (tattlelaw0_Num.calls t206 t209 _ A41.out).mono ?_); rintro e w' ⟨rfl, ⟨nd, rfl⟩⟩; (try first | exact ⟨rfl, _, World.drewN_drewN _ _ _⟩ | exact ⟨rfl, _, Eq.trans (World.drewN_drewN _ _ _) (congrArg (World.drewN _) (Nat.add_assoc _ _ _))⟩))); try go_wp2_with (first | (go_at_call 11; (with_reducible refine (tattlelaw0_Num.calls t206 t209 _ A41.out).mono ?_); rintro e w' ⟨rfl, ⟨nd, rfl⟩⟩; (try first | exact ⟨rfl, _, World.drewN_drewN _ _ _⟩ | exact ⟨rfl, _, Eq.trans (World.drewN_drewN _ _ _) (congrArg (World.drewN _) (Nat.add_assoc _ _ _))⟩))))
                  go_meet
                  case rel => exact ⟨_, (true), (by first | rfl | (simp; done) | (simp [*]; done)), H', ⟨by have := HK1.out; first | omega | exact Nat.le_refl _⟩, ⟨by (with_reducible repeat (first | apply Kd.R_alloc | apply Kd.R_drewN | apply Kd.R_drew)); exact Kd.R_mono HO_5.out (fun _ hk => hk.2)⟩, ⟨by (with_reducible repeat (first | apply Kd.R_alloc | apply Kd.R_drewN | apply Kd.R_drew)); exact HO_8.out⟩, ⟨by (with_reducible repeat (first | apply Kd.R_alloc | apply Kd.R_drewN | apply Kd.R_drew)); exact Kd.R_mono HO208.out (fun _ hk => hk.2)⟩, ⟨by repeat (first | (with_reducible first | exact HB.out | apply below_alloc | apply pw_below_drewN | apply below_drew1) | exact HB.out)⟩⟩
              case rest =>
                clear HC38
                try clear c1
                try clear p1
                try clear q1
                try clear hx1
                try clear c2
                try clear p2
                try clear q2
                try clear hx2
                try clear c3
                try clear c4
                try clear p6
                try clear c7
                try clear c7b0
                try clear c7b1
                try clear c10
                try clear c10b0
                try clear c12
                try clear c12b0
                try clear c12b1
                try clear c14
                try clear c14b0
                try clear c15
                try clear c15b0
                try clear c16
                try clear c16b0
                try clear c16b1
                try clear c16b2
                try clear c17
                try clear c18
                try clear c18b0
                try clear p19
                try clear q19
                try clear hx19
                try clear c20
                try clear c20b0
                try clear c20b1
                try clear c20b2
                try clear p20
                try clear q20
                try clear hx20
                try clear c21
                try clear c21b0
                try clear c21b1
                try clear c28
                try clear c28b0
                try clear c28b1
                try clear c28b2
                try clear c35
                try clear c35b0
                try clear c35b1
                try clear c42
                try clear c42b0
                try clear c42b1
                try clear hx198_0
                try clear hx202_0
                try clear hx202_1
                try clear hx202_2
                try clear hx202_3
                try clear hx204_0
                try clear hx204_1
                try clear hx204_2
                try clear hx204_3
                try clear p198
                try clear p2
                try clear p202
                try clear p204
                try clear q198
                try clear q202
                try clear q204
                obtain ⟨kq, x80_37, rfl, HA, HJ37, HO_5, HO_8, HO_10, HB⟩ := hcut
                cases kq with
                | zero => exact absurd HA.out (by simp [tattlelaw13_LexBack.j1])
                | succ kj37 =>
                  have H := HA.out
                  clear HA
                  simp only [tattlelaw13_LexBack.j1] at H
                  by_cases c44 : x80_37 = true
                  · subst c44
                    have H1 : (some false) = some r := by rw [if_pos rfl] at H; exact H
                    clear H
                    have H := H1
                    clear H1
                    obtain rfl := Option.some.inj H
                    go_wp2
                    repeat (go_quiet (fail); try go_wp2)
                    go_ret
                    exact ⟨by first | rfl | (simp [errW_none, errW_some] <;> rfl) | (simp [*, errW_none, errW_some] <;> rfl), by repeat (first | (with_reducible first | exact HB.out | apply below_alloc | apply pw_below_drewN | apply below_drew1) | exact HB.out)⟩
                  · replace c44 := Bool.eq_false_iff.mpr c44
                    subst c44
                    have H1 : (tattlelaw13_LexBack.l1 kj37 t190 x8_1 t205 0) = some r := by rw [if_neg (show ¬ (false = true) by decide)] at H; exact H
                    clear H
                    have H := H1
                    clear H1
                    have H' := Aside0.mk H
                    clear H
                    go_wp2
                    repeat (go_quiet (fail); try go_wp2)
                    go_loopg [12] kj37 (fun kq v12 w' => ∃ (x12_3 : Int), v12 = .int .i64 x12_3 ∧ Aside0 (tattlelaw13_LexBack.l1 kq t190 x8_1 t205 x12_3 = some r) ∧ Aside0 (kq ≤ kj37) ∧ Aside0 (Kd.R k37 37 w' w.heap.size (fun k_ => some k_ ≠ (v207 : Value).ownBlock) (.slice Ao39 t190.length co39) t190) ∧ Aside0 (Kd.R (Kd.int .i64) 3 w' w.heap.size (fun _ => True) u8 x8_1) ∧ Aside0 (Kd.R k37 37 w' w.heap.size (fun k_ => some k_ ≠ ((.slice Ao39 t190.length co39) : Value).ownBlock) v207 t205) ∧ Aside0 (Below w.heap.size w w'))
                    case atStart => exact ⟨(0), (by first | rfl | (simp; done) | (simp [*]; done)), H', ⟨Nat.le_refl _⟩, ⟨by (with_reducible repeat (first | apply Kd.R_alloc | apply Kd.R_drewN | apply Kd.R_drew)); exact HO_5.out⟩, ⟨by (with_reducible repeat (first | apply Kd.R_alloc | apply Kd.R_drewN | apply Kd.R_drew)); exact HO_8.out⟩, ⟨by (with_reducible repeat (first | apply Kd.R_alloc | apply Kd.R_drewN | apply Kd.R_drew)); exact HO_10.out⟩, ⟨by repeat (first | (with_reducible first | exact HB.out | apply below_alloc | apply pw_below_drewN | apply below_drew1) | exact HB.out)⟩⟩
                    case round =>
                      clear H'
                      try clear c1
                      try clear p1
                      try clear q1
                      try clear hx1
                      try clear c2
                      try clear p2
                      try clear q2
                      try clear hx2
                      try clear c3
                      try clear c4
                      try clear p6
                      try clear c7
                      try clear c7b0
                      try clear c7b1
                      try clear c10
                      try clear c10b0
                      try clear c12
                      try clear c12b0
                      try clear c12b1
                      try clear c14
                      try clear c14b0
                      try clear c15
                      try clear c15b0
                      try clear c16
                      try clear c16b0
                      try clear c16b1
                      try clear c16b2
                      try clear c17
                      try clear c18
                      try clear c18b0
                      try clear p19
                      try clear q19
                      try clear hx19
                      try clear c20
                      try clear c20b0
                      try clear c20b1
                      try clear c20b2
                      try clear p20
                      try clear q20
                      try clear hx20
                      try clear c21
                      try clear c21b0
                      try clear c21b1
                      try clear c28
                      try clear c28b0
                      try clear c28b1
                      try clear c28b2
                      try clear c35
                      try clear c35b0
                      try clear c35b1
                      try clear c42
                      try clear c42b0
                      try clear c42b1
                      try clear c44
                      try clear hx198_0
                      try clear hx202_0
                      try clear hx202_1
                      try clear hx202_2
                      try clear hx202_3
                      try clear hx204_0
                      try clear hx204_1
                      try clear hx204_2
                      try clear hx204_3
                      try clear p1
                      try clear p19
                      try clear p198
                      try clear p2
                      try clear p20
                      try clear p202
                      try clear p204
                      try clear p6
                      try clear q1
                      try clear q19
                      try clear q198
                      try clear q2
                      try clear q20
                      try clear q202
                      try clear q204
                      obtain ⟨x12_3, rfl, HA, HK3, HO_5, HO_8, HO_10, HB⟩ := hrel
                      cases gk with
                      | zero => exact absurd HA.out (by simp [tattlelaw13_LexBack.l1])
                      | succ k3 =>
                        have H := HA.out
                        clear HA
                        simp only [tattlelaw13_LexBack.l1] at H
                        by_cases c45 : x12_3 < (t190.length : Int)
                        · rw [if_pos c45] at H
                          have c45b0 : decide (x12_3 < (t190.length : Int)) = true := decide_eq_true c45
                          clear c45
                          by_cases c46 : 0 ≤ x12_3
                          · rw [if_pos c46] at H
                            have c46b0 : decide (0 ≤ x12_3) = true := decide_eq_true c46
                            clear c46
                            by_cases c47 : x12_3 < (t205.length : Int)
                            · rw [if_pos c47] at H
                              have c47b0 : decide (x12_3 < (t205.length : Int)) = true := decide_eq_true c47
                              clear c47
                              by_cases c48 : ((rd_T37 t205 x12_3).f0) = ((rd_T37 t190 x12_3).f0)
                              · rw [if_pos c48] at H
                                have c48b0 : (((rd_T37 t205 x12_3).f0) == ((rd_T37 t190 x12_3).f0)) = true := beq_iff_eq.mpr c48
                                have c48b1 : (((rd_T37 t205 x12_3).f0) != ((rd_T37 t190 x12_3).f0)) = false := bne_eq_false_iff_eq.mpr c48
                                clear c48
                                by_cases c49 : ((rd_T37 t205 x12_3).f1).toList = ((rd_T37 t190 x12_3).f1).toList
                                · rw [if_pos c49] at H
                                  have c49b0 : (((rd_T37 t205 x12_3).f1).toList == ((rd_T37 t190 x12_3).f1).toList) = true := beq_iff_eq.mpr c49
                                  have c49b1 : (((rd_T37 t205 x12_3).f1).toList != ((rd_T37 t190 x12_3).f1).toList) = false := bne_eq_false_iff_eq.mpr c49
                                  clear c49
                                  by_cases c50 : ((rd_T37 t205 x12_3).f2) = ((rd_T37 t190 x12_3).f2)
                                  · rw [if_pos c50] at H
                                    have c50b0 : (((rd_T37 t205 x12_3).f2) == ((rd_T37 t190 x12_3).f2)) = true := beq_iff_eq.mpr c50
                                    have c50b1 : (((rd_T37 t205 x12_3).f2) != ((rd_T37 t190 x12_3).f2)) = false := bne_eq_false_iff_eq.mpr c50
                                    clear c50
                                    by_cases c51 : x12_3 < (x8_1.length : Int)
                                    · rw [if_pos c51] at H
                                      have c51b0 : decide (x12_3 < (x8_1.length : Int)) = true := decide_eq_true c51
                                      clear c51
                                      by_cases c52 : ((rd_T37 t205 x12_3).f3) = (rd x8_1 x12_3)
                                      · rw [if_pos c52] at H
                                        have c52b0 : (((rd_T37 t205 x12_3).f3) == (rd x8_1 x12_3)) = true := beq_iff_eq.mpr c52
                                        have c52b1 : (((rd_T37 t205 x12_3).f3) != (rd x8_1 x12_3)) = false := bne_eq_false_iff_eq.mpr c52
                                        clear c52
                                        have H' := Aside0.mk H
                                        clear H
                                        obtain ⟨Ao53, co53, eo53⟩ := Kd.R_slice HO_10.out
                                        subst eo53
                                        have p210 : 0 ≤ (x12_3 : Int) := of_decide_eq_true (by first | (with_reducible assumption) | assumption)
                                        have q210 : x12_3 < (t205.length : Int) := of_decide_eq_true (by first | (with_reducible assumption) | assumption)
                                        obtain ⟨ad210, e210, hx210_0, hx210_1, hx210_2, hx210_3⟩ := at_T37 (Kd.R_reads' HO_10.out).2.2 x12_3 p210 q210
                                        cases e210
                                        replace p210 := eq_true p210
                                        replace q210 := eq_true q210
                                        have p211 : 0 ≤ (x12_3 : Int) := of_decide_eq_true (by first | (with_reducible assumption) | assumption)
                                        have q211 : x12_3 < (t190.length : Int) := of_decide_eq_true (by first | (with_reducible assumption) | assumption)
                                        obtain ⟨ad211, e211, hx211_0, hx211_1, hx211_2, hx211_3⟩ := at_T37 (Kd.R_reads' HO_5.out).2.2 x12_3 p211 q211
                                        cases e211
                                        replace p211 := eq_true p211
                                        replace q211 := eq_true q211
                                        have p212 : 0 ≤ (x12_3 : Int) := of_decide_eq_true (by first | (with_reducible assumption) | assumption)
                                        have q212 : x12_3 < (t205.length : Int) := of_decide_eq_true (by first | (with_reducible assumption) | assumption)
                                        obtain ⟨ad212, e212, hx212_0, hx212_1, hx212_2, hx212_3⟩ := at_T37 (Kd.R_reads' HO_10.out).2.2 x12_3 p212 q212
                                        obtain rfl : ad210 = ad212 := (by injection e212)
                                        replace p212 := eq_true p212
                                        replace q212 := eq_true q212
                                        have p213 : 0 ≤ (x12_3 : Int) := of_decide_eq_true (by first | (with_reducible assumption) | assumption)
                                        have q213 : x12_3 < (t190.length : Int) := of_decide_eq_true (by first | (with_reducible assumption) | assumption)
                                        obtain ⟨ad213, e213, hx213_0, hx213_1, hx213_2, hx213_3⟩ := at_T37 (Kd.R_reads' HO_5.out).2.2 x12_3 p213 q213
                                        obtain rfl : ad211 = ad213 := (by injection e213)
                                        replace p213 := eq_true p213
                                        replace q213 := eq_true q213
                                        have p214 : 0 ≤ (x12_3 : Int) := of_decide_eq_true (by first | (with_reducible assumption) | assumption)
                                        have q214 : x12_3 < (t205.length : Int) := of_decide_eq_true (by first | (with_reducible assumption) | assumption)
                                        obtain ⟨ad214, e214, hx214_0, hx214_1, hx214_2, hx214_3⟩ := at_T37 (Kd.R_reads' HO_10.out).2.2 x12_3 p214 q214
                                        obtain rfl : ad210 = ad214 := (by injection e214)
                                        replace p214 := eq_true p214
                                        replace q214 := eq_true q214
                                        have p215 : 0 ≤ (x12_3 : Int) := of_decide_eq_true (by first | (with_reducible assumption) | assumption)
                                        have q215 : x12_3 < (t190.length : Int) := of_decide_eq_true (by first | (with_reducible assumption) | assumption)
                                        obtain ⟨ad215, e215, hx215_0, hx215_1, hx215_2, hx215_3⟩ := at_T37 (Kd.R_reads' HO_5.out).2.2 x12_3 p215 q215
                                        obtain rfl : ad211 = ad215 := (by injection e215)
                                        replace p215 := eq_true p215
                                        replace q215 := eq_true q215
                                        have p216 : 0 ≤ (x12_3 : Int) := of_decide_eq_true (by first | (with_reducible assumption) | assumption)
                                        have q216 : x12_3 < (t205.length : Int) := of_decide_eq_true (by first | (with_reducible assumption) | assumption)
                                        obtain ⟨ad216, e216, hx216_0, hx216_1, hx216_2, hx216_3⟩ := at_T37 (Kd.R_reads' HO_10.out).2.2 x12_3 p216 q216
                                        obtain rfl : ad210 = ad216 := (by injection e216)
                                        replace p216 := eq_true p216
                                        replace q216 := eq_true q216
                                        obtain ⟨Ao54, co54, eo54⟩ := Kd.R_slice HO_8.out
                                        subst eo54
                                        have p217 : 0 ≤ (x12_3 : Int) := of_decide_eq_true (by first | (with_reducible assumption) | assumption)
                                        have q217 : x12_3 < (x8_1.length : Int) := of_decide_eq_true (by first | (with_reducible assumption) | assumption)
                                        obtain ⟨ad217, e217, hx217_0⟩ := Kd.at_int (Kd.R_reads' HO_8.out).2.2 x12_3 p217 q217
                                        cases e217
                                        replace p217 := eq_true p217
                                        replace q217 := eq_true q217
                                        go_wp2
                                        repeat (go_quiet (fail); try go_wp2)
                                        go_roundg k3
                                        case measure => have := HK1.out; have := HJ37.out; have := HK3.out; omega
                                        case rel => exact ⟨(wrap64 (x12_3 + 1)), (by first | rfl | (simp; done) | (simp [*]; done)), H', ⟨by have := HK1.out; have := HJ37.out; have := HK3.out; omega⟩, ⟨by (with_reducible repeat (first | apply Kd.R_alloc | apply Kd.R_drewN | apply Kd.R_drew)); exact HO_5.out⟩, ⟨by (with_reducible repeat (first | apply Kd.R_alloc | apply Kd.R_drewN | apply Kd.R_drew)); exact HO_8.out⟩, ⟨by (with_reducible repeat (first | apply Kd.R_alloc | apply Kd.R_drewN | apply Kd.R_drew)); exact HO_10.out⟩, ⟨by repeat (first | (with_reducible first | exact HB.out | apply below_alloc | apply pw_below_drewN | apply below_drew1) | exact HB.out)⟩⟩
                                      · rw [if_neg c52] at H
                                        have c52b0 : (((rd_T37 t205 x12_3).f3) == (rd x8_1 x12_3)) = false := beq_eq_false_iff_ne.mpr c52
                                        have c52b1 : (((rd_T37 t205 x12_3).f3) != (rd x8_1 x12_3)) = true := bne_iff_ne.mpr c52
                                        obtain rfl := Option.some.inj H
                                        obtain ⟨Ao55, co55, eo55⟩ := Kd.R_slice HO_10.out
                                        subst eo55
                                        have p210 : 0 ≤ (x12_3 : Int) := of_decide_eq_true (by first | (with_reducible assumption) | assumption)
                                        have q210 : x12_3 < (t205.length : Int) := of_decide_eq_true (by first | (with_reducible assumption) | assumption)
                                        obtain ⟨ad210, e210, hx210_0, hx210_1, hx210_2, hx210_3⟩ := at_T37 (Kd.R_reads' HO_10.out).2.2 x12_3 p210 q210
                                        cases e210
                                        replace p210 := eq_true p210
                                        replace q210 := eq_true q210
                                        have p211 : 0 ≤ (x12_3 : Int) := of_decide_eq_true (by first | (with_reducible assumption) | assumption)
                                        have q211 : x12_3 < (t190.length : Int) := of_decide_eq_true (by first | (with_reducible assumption) | assumption)
                                        obtain ⟨ad211, e211, hx211_0, hx211_1, hx211_2, hx211_3⟩ := at_T37 (Kd.R_reads' HO_5.out).2.2 x12_3 p211 q211
                                        cases e211
                                        replace p211 := eq_true p211
                                        replace q211 := eq_true q211
                                        have p212 : 0 ≤ (x12_3 : Int) := of_decide_eq_true (by first | (with_reducible assumption) | assumption)
                                        have q212 : x12_3 < (t205.length : Int) := of_decide_eq_true (by first | (with_reducible assumption) | assumption)
                                        obtain ⟨ad212, e212, hx212_0, hx212_1, hx212_2, hx212_3⟩ := at_T37 (Kd.R_reads' HO_10.out).2.2 x12_3 p212 q212
                                        obtain rfl : ad210 = ad212 := (by injection e212)
                                        replace p212 := eq_true p212
                                        replace q212 := eq_true q212
                                        have p213 : 0 ≤ (x12_3 : Int) := of_decide_eq_true (by first | (with_reducible assumption) | assumption)
                                        have q213 : x12_3 < (t190.length : Int) := of_decide_eq_true (by first | (with_reducible assumption) | assumption)
                                        obtain ⟨ad213, e213, hx213_0, hx213_1, hx213_2, hx213_3⟩ := at_T37 (Kd.R_reads' HO_5.out).2.2 x12_3 p213 q213
                                        obtain rfl : ad211 = ad213 := (by injection e213)
                                        replace p213 := eq_true p213
                                        replace q213 := eq_true q213
                                        have p214 : 0 ≤ (x12_3 : Int) := of_decide_eq_true (by first | (with_reducible assumption) | assumption)
                                        have q214 : x12_3 < (t205.length : Int) := of_decide_eq_true (by first | (with_reducible assumption) | assumption)
                                        obtain ⟨ad214, e214, hx214_0, hx214_1, hx214_2, hx214_3⟩ := at_T37 (Kd.R_reads' HO_10.out).2.2 x12_3 p214 q214
                                        obtain rfl : ad210 = ad214 := (by injection e214)
                                        replace p214 := eq_true p214
                                        replace q214 := eq_true q214
                                        have p215 : 0 ≤ (x12_3 : Int) := of_decide_eq_true (by first | (with_reducible assumption) | assumption)
                                        have q215 : x12_3 < (t190.length : Int) := of_decide_eq_true (by first | (with_reducible assumption) | assumption)
                                        obtain ⟨ad215, e215, hx215_0, hx215_1, hx215_2, hx215_3⟩ := at_T37 (Kd.R_reads' HO_5.out).2.2 x12_3 p215 q215
                                        obtain rfl : ad211 = ad215 := (by injection e215)
                                        replace p215 := eq_true p215
                                        replace q215 := eq_true q215
                                        have p216 : 0 ≤ (x12_3 : Int) := of_decide_eq_true (by first | (with_reducible assumption) | assumption)
                                        have q216 : x12_3 < (t205.length : Int) := of_decide_eq_true (by first | (with_reducible assumption) | assumption)
                                        obtain ⟨ad216, e216, hx216_0, hx216_1, hx216_2, hx216_3⟩ := at_T37 (Kd.R_reads' HO_10.out).2.2 x12_3 p216 q216
                                        obtain rfl : ad210 = ad216 := (by injection e216)
                                        replace p216 := eq_true p216
                                        replace q216 := eq_true q216
                                        obtain ⟨Ao56, co56, eo56⟩ := Kd.R_slice HO_8.out
                                        subst eo56
                                        have p217 : 0 ≤ (x12_3 : Int) := of_decide_eq_true (by first | (with_reducible assumption) | assumption)
                                        have q217 : x12_3 < (x8_1.length : Int) := of_decide_eq_true (by first | (with_reducible assumption) | assumption)
                                        obtain ⟨ad217, e217, hx217_0⟩ := Kd.at_int (Kd.R_reads' HO_8.out).2.2 x12_3 p217 q217
                                        cases e217
                                        replace p217 := eq_true p217
                                        replace q217 := eq_true q217
                                        go_wp2
                                        repeat (go_quiet (fail); try go_wp2)
                                        go_ret
                                        exact ⟨by first | rfl | (simp [errW_none, errW_some] <;> rfl) | (simp [*, errW_none, errW_some] <;> rfl), by repeat (first | (with_reducible first | exact HB.out | apply below_alloc | apply pw_below_drewN | apply below_drew1) | exact HB.out)⟩
                                    · rw [if_neg c51] at H
                                      exact absurd H (by simp)
                                  · rw [if_neg c50] at H
                                    have c50b0 : (((rd_T37 t205 x12_3).f2) == ((rd_T37 t190 x12_3).f2)) = false := beq_eq_false_iff_ne.mpr c50
                                    have c50b1 : (((rd_T37 t205 x12_3).f2) != ((rd_T37 t190 x12_3).f2)) = true := bne_iff_ne.mpr c50
                                    obtain rfl := Option.some.inj H
                                    obtain ⟨Ao57, co57, eo57⟩ := Kd.R_slice HO_10.out
                                    subst eo57
                                    have p210 : 0 ≤ (x12_3 : Int) := of_decide_eq_true (by first | (with_reducible assumption) | assumption)
                                    have q210 : x12_3 < (t205.length : Int) := of_decide_eq_true (by first | (with_reducible assumption) | assumption)
                                    obtain ⟨ad210, e210, hx210_0, hx210_1, hx210_2, hx210_3⟩ := at_T37 (Kd.R_reads' HO_10.out).2.2 x12_3 p210 q210
                                    cases e210
                                    replace p210 := eq_true p210
                                    replace q210 := eq_true q210
                                    have p211 : 0 ≤ (x12_3 : Int) := of_decide_eq_true (by first | (with_reducible assumption) | assumption)
                                    have q211 : x12_3 < (t190.length : Int) := of_decide_eq_true (by first | (with_reducible assumption) | assumption)
                                    obtain ⟨ad211, e211, hx211_0, hx211_1, hx211_2, hx211_3⟩ := at_T37 (Kd.R_reads' HO_5.out).2.2 x12_3 p211 q211
                                    cases e211
                                    replace p211 := eq_true p211
                                    replace q211 := eq_true q211
                                    have p212 : 0 ≤ (x12_3 : Int) := of_decide_eq_true (by first | (with_reducible assumption) | assumption)
                                    have q212 : x12_3 < (t205.length : Int) := of_decide_eq_true (by first | (with_reducible assumption) | assumption)
                                    obtain ⟨ad212, e212, hx212_0, hx212_1, hx212_2, hx212_3⟩ := at_T37 (Kd.R_reads' HO_10.out).2.2 x12_3 p212 q212
                                    obtain rfl : ad210 = ad212 := (by injection e212)
                                    replace p212 := eq_true p212
                                    replace q212 := eq_true q212
                                    have p213 : 0 ≤ (x12_3 : Int) := of_decide_eq_true (by first | (with_reducible assumption) | assumption)
                                    have q213 : x12_3 < (t190.length : Int) := of_decide_eq_true (by first | (with_reducible assumption) | assumption)
                                    obtain ⟨ad213, e213, hx213_0, hx213_1, hx213_2, hx213_3⟩ := at_T37 (Kd.R_reads' HO_5.out).2.2 x12_3 p213 q213
                                    obtain rfl : ad211 = ad213 := (by injection e213)
                                    replace p213 := eq_true p213
                                    replace q213 := eq_true q213
                                    have p214 : 0 ≤ (x12_3 : Int) := of_decide_eq_true (by first | (with_reducible assumption) | assumption)
                                    have q214 : x12_3 < (t205.length : Int) := of_decide_eq_true (by first | (with_reducible assumption) | assumption)
                                    obtain ⟨ad214, e214, hx214_0, hx214_1, hx214_2, hx214_3⟩ := at_T37 (Kd.R_reads' HO_10.out).2.2 x12_3 p214 q214
                                    obtain rfl : ad210 = ad214 := (by injection e214)
                                    replace p214 := eq_true p214
                                    replace q214 := eq_true q214
                                    have p215 : 0 ≤ (x12_3 : Int) := of_decide_eq_true (by first | (with_reducible assumption) | assumption)
                                    have q215 : x12_3 < (t190.length : Int) := of_decide_eq_true (by first | (with_reducible assumption) | assumption)
                                    obtain ⟨ad215, e215, hx215_0, hx215_1, hx215_2, hx215_3⟩ := at_T37 (Kd.R_reads' HO_5.out).2.2 x12_3 p215 q215
                                    obtain rfl : ad211 = ad215 := (by injection e215)
                                    replace p215 := eq_true p215
                                    replace q215 := eq_true q215
                                    go_wp2
                                    repeat (go_quiet (fail); try go_wp2)
                                    go_ret
                                    exact ⟨by first | rfl | (simp [errW_none, errW_some] <;> rfl) | (simp [*, errW_none, errW_some] <;> rfl), by repeat (first | (with_reducible first | exact HB.out | apply below_alloc | apply pw_below_drewN | apply below_drew1) | exact HB.out)⟩
                                · rw [if_neg c49] at H
                                  have c49b0 : (((rd_T37 t205 x12_3).f1).toList == ((rd_T37 t190 x12_3).f1).toList) = false := beq_eq_false_iff_ne.mpr c49
                                  have c49b1 : (((rd_T37 t205 x12_3).f1).toList != ((rd_T37 t190 x12_3).f1).toList) = true := bne_iff_ne.mpr c49
                                  obtain rfl := Option.some.inj H
                                  obtain ⟨Ao58, co58, eo58⟩ := Kd.R_slice HO_10.out
                                  subst eo58
                                  have p210 : 0 ≤ (x12_3 : Int) := of_decide_eq_true (by first | (with_reducible assumption) | assumption)
                                  have q210 : x12_3 < (t205.length : Int) := of_decide_eq_true (by first | (with_reducible assumption) | assumption)
                                  obtain ⟨ad210, e210, hx210_0, hx210_1, hx210_2, hx210_3⟩ := at_T37 (Kd.R_reads' HO_10.out).2.2 x12_3 p210 q210
                                  cases e210
                                  replace p210 := eq_true p210
                                  replace q210 := eq_true q210
                                  have p211 : 0 ≤ (x12_3 : Int) := of_decide_eq_true (by first | (with_reducible assumption) | assumption)
                                  have q211 : x12_3 < (t190.length : Int) := of_decide_eq_true (by first | (with_reducible assumption) | assumption)
                                  obtain ⟨ad211, e211, hx211_0, hx211_1, hx211_2, hx211_3⟩ := at_T37 (Kd.R_reads' HO_5.out).2.2 x12_3 p211 q211
                                  cases e211
                                  replace p211 := eq_true p211
                                  replace q211 := eq_true q211
                                  have p212 : 0 ≤ (x12_3 : Int) := of_decide_eq_true (by first | (with_reducible assumption) | assumption)
                                  have q212 : x12_3 < (t205.length : Int) := of_decide_eq_true (by first | (with_reducible assumption) | assumption)
                                  obtain ⟨ad212, e212, hx212_0, hx212_1, hx212_2, hx212_3⟩ := at_T37 (Kd.R_reads' HO_10.out).2.2 x12_3 p212 q212
                                  obtain rfl : ad210 = ad212 := (by injection e212)
                                  replace p212 := eq_true p212
                                  replace q212 := eq_true q212
                                  have p213 : 0 ≤ (x12_3 : Int) := of_decide_eq_true (by first | (with_reducible assumption) | assumption)
                                  have q213 : x12_3 < (t190.length : Int) := of_decide_eq_true (by first | (with_reducible assumption) | assumption)
                                  obtain ⟨ad213, e213, hx213_0, hx213_1, hx213_2, hx213_3⟩ := at_T37 (Kd.R_reads' HO_5.out).2.2 x12_3 p213 q213
                                  obtain rfl : ad211 = ad213 := (by injection e213)
                                  replace p213 := eq_true p213
                                  replace q213 := eq_true q213
                                  go_wp2
                                  repeat (go_quiet (fail); try go_wp2)
                                  go_ret
                                  exact ⟨by first | rfl | (simp [errW_none, errW_some] <;> rfl) | (simp [*, errW_none, errW_some] <;> rfl), by repeat (first | (with_reducible first | exact HB.out | apply below_alloc | apply pw_below_drewN | apply below_drew1) | exact HB.out)⟩
                              · rw [if_neg c48] at H
                                have c48b0 : (((rd_T37 t205 x12_3).f0) == ((rd_T37 t190 x12_3).f0)) = false := beq_eq_false_iff_ne.mpr c48
                                have c48b1 : (((rd_T37 t205 x12_3).f0) != ((rd_T37 t190 x12_3).f0)) = true := bne_iff_ne.mpr c48
                                obtain rfl := Option.some.inj H
                                obtain ⟨Ao59, co59, eo59⟩ := Kd.R_slice HO_10.out
                                subst eo59
                                have p210 : 0 ≤ (x12_3 : Int) := of_decide_eq_true (by first | (with_reducible assumption) | assumption)
                                have q210 : x12_3 < (t205.length : Int) := of_decide_eq_true (by first | (with_reducible assumption) | assumption)
                                obtain ⟨ad210, e210, hx210_0, hx210_1, hx210_2, hx210_3⟩ := at_T37 (Kd.R_reads' HO_10.out).2.2 x12_3 p210 q210
                                cases e210
                                replace p210 := eq_true p210
                                replace q210 := eq_true q210
                                have p211 : 0 ≤ (x12_3 : Int) := of_decide_eq_true (by first | (with_reducible assumption) | assumption)
                                have q211 : x12_3 < (t190.length : Int) := of_decide_eq_true (by first | (with_reducible assumption) | assumption)
                                obtain ⟨ad211, e211, hx211_0, hx211_1, hx211_2, hx211_3⟩ := at_T37 (Kd.R_reads' HO_5.out).2.2 x12_3 p211 q211
                                cases e211
                                replace p211 := eq_true p211
                                replace q211 := eq_true q211
                                go_wp2
                                repeat (go_quiet (fail); try go_wp2)
                                go_ret
                                exact ⟨by first | rfl | (simp [errW_none, errW_some] <;> rfl) | (simp [*, errW_none, errW_some] <;> rfl), by repeat (first | (with_reducible first | exact HB.out | apply below_alloc | apply pw_below_drewN | apply below_drew1) | exact HB.out)⟩
                            · rw [if_neg c47] at H
                              exact absurd H (by simp)
                          · rw [if_neg c46] at H
                            exact absurd H (by simp)
                        · rw [if_neg c45] at H
                          have c45b0 : decide (x12_3 < (t190.length : Int)) = false := decide_eq_false c45
                          clear c45
                          obtain rfl := Option.some.inj H
                          go_wp2
                          repeat (go_quiet (fail); try go_wp2)
                          go_ret
                          exact ⟨by first | rfl | (simp [errW_none, errW_some] <;> rfl) | (simp [*, errW_none, errW_some] <;> rfl), by repeat (first | (with_reducible first | exact HB.out | apply below_alloc | apply pw_below_drewN | apply below_drew1) | exact HB.out)⟩
    · rw [if_neg c7] at H
      have c7b0 : (t194 == 0) = false := beq_eq_false_iff_ne.mpr c7
      have c7b1 : (t194 != 0) = true := bne_iff_ne.mpr c7
      obtain rfl := Option.some.inj H
      go_enter Tryd.func4, Tryd.ntmps4
      go_wp2_with (first | (go_at_call 12; (with_reducible refine (tattlelaw13_awake.calls k  true _ A3.out).mono ?_); rintro e w60 ⟨rfl, hb⟩; have n0_ := Aside0.mk (below_step (by repeat (first | (with_reducible first | exact HB.out | apply below_alloc | apply pw_below_drewN | apply below_drew1) | exact HB.out)) hb); clear HB; have HB := n0_; clear n0_; (try clear hb); (try clear hb2); (try clear hk); (try clear hi)) | (go_at_call 8; (with_reducible refine (lex_Tokens.calls a0 t190 t191 _ A5.out).mono ?_); rintro e w61 ⟨v192, rfl, ho0, hb⟩; have n0_ := Aside0.mk (Kd.R_lower ho0 (below_size (by repeat (first | (with_reducible first | exact HB.out | apply below_alloc | apply pw_below_drewN | apply below_drew1) | exact HB.out)))); have n1_ := Aside0.mk (below_step (by repeat (first | (with_reducible first | exact HB.out | apply below_alloc | apply pw_below_drewN | apply below_drew1) | exact HB.out)) hb); clear HB; have HO193 := n0_; have HB := n1_; clear n0_ n1_; (try clear hb); (try clear hb2); (try clear hk); (try clear hi); (try clear ho0)) | (go_at_call 11; (with_reducible refine (tattlelaw0_Num.calls t191 t194 _ A6.out).mono ?_); rintro e w' ⟨rfl, ⟨nd, rfl⟩⟩; (try first | exact ⟨rfl, _, World.drewN_drewN _ _ _⟩ | exact ⟨rfl, _, Eq.trans (World.drewN_drewN _ _ _) (congrArg (World.drewN _) (Nat.add_assoc _ _ _))⟩); obtain ⟨Ao62, co62, eo62⟩ := Kd.R_slice HO193.out; subst eo62))
      repeat (go_quiet (first | (go_at_call 12; (with_reducible refine (tattlelaw13_awake.calls k  true _ A3.out).mono ?_); rintro e w60 ⟨rfl, hb⟩; have n0_ := Aside0.mk (below_step (by repeat (first | (with_reducible first | exact HB.out | apply below_alloc | apply pw_below_drewN | apply below_drew1) | exact HB.out)) hb); clear HB; have HB := n0_; clear n0_; (try clear hb); (try clear hb2); (try clear hk); (try clear hi)) | (go_at_call 8; (with_reducible refine (lex_Tokens.calls a0 t190 t191 _ A5.out).mono ?_); rintro e w61 ⟨v192, rfl, ho0, hb⟩; have n0_ := Aside0.mk (Kd.R_lower ho0 (below_size (by repeat (first | (with_reducible first | exact HB.out | apply below_alloc | apply pw_below_drewN | apply below_drew1) | exact HB.out)))); have n1_ := Aside0.mk (below_step (by repeat (first | (with_reducible first | exact HB.out | apply below_alloc | apply pw_below_drewN | apply below_drew1) | exact HB.out)) hb); clear HB; have HO193 := n0_; have HB := n1_; clear n0_ n1_; (try clear hb); (try clear hb2); (try clear hk); (try clear hi); (try clear ho0)) | (go_at_call 11; (with_reducible refine (tattlelaw0_Num.calls t191 t194 _ A6.out).mono ?_); rintro e w' ⟨rfl, ⟨nd, rfl⟩⟩; (try first | exact ⟨rfl, _, World.drewN_drewN _ _ _⟩ | exact ⟨rfl, _, Eq.trans (World.drewN_drewN _ _ _) (congrArg (World.drewN _) (Nat.add_assoc _ _ _))⟩); obtain ⟨Ao62, co62, eo62⟩ := Kd.R_slice HO193.out; subst eo62)); try go_wp2_with (first | (go_at_call 12; (with_reducible refine (tattlelaw13_awake.calls k  true _ A3.out).mono ?_); rintro e w60 ⟨rfl, hb⟩; have n0_ := Aside0.mk (below_step (by repeat (first | (with_reducible first | exact HB.out | apply below_alloc | apply pw_below_drewN | apply below_drew1) | exact HB.out)) hb); clear HB; have HB := n0_; clear n0_; (try clear hb); (try clear hb2); (try clear hk); (try clear hi)) | (go_at_call 8; (with_reducible refine (lex_Tokens.calls a0 t190 t191 _ A5.out).mono ?_); rintro e w61 ⟨v192, rfl, ho0, hb⟩; have n0_ := Aside0.mk (Kd.R_lower ho0 (below_size (by repeat (first | (with_reducible first | exact HB.out | apply below_alloc | apply pw_below_drewN | apply below_drew1) | exact HB.out)))); have n1_ := Aside0.mk (below_step (by repeat (first | (with_reducible first | exact HB.out | apply below_alloc | apply pw_below_drewN | apply below_drew1) | exact HB.out)) hb); clear HB; have HO193 := n0_; have HB := n1_; clear n0_ n1_; (try clear hb); (try clear hb2); (try clear hk); (try clear hi); (try clear ho0)) | (go_at_call 11; (with_reducible refine (tattlelaw0_Num.calls t191 t194 _ A6.out).mono ?_); rintro e w' ⟨rfl, ⟨nd, rfl⟩⟩; (try first | exact ⟨rfl, _, World.drewN_drewN _ _ _⟩ | exact ⟨rfl, _, Eq.trans (World.drewN_drewN _ _ _) (congrArg (World.drewN _) (Nat.add_assoc _ _ _))⟩); obtain ⟨Ao62, co62, eo62⟩ := Kd.R_slice HO193.out; subst eo62)))
      go_ret
      exact ⟨by first | rfl | (simp [errW_none, errW_some] <;> rfl) | (simp [*, errW_none, errW_some] <;> rfl), by repeat (first | (with_reducible first | exact HB.out | apply below_alloc | apply pw_below_drewN | apply below_drew1) | exact HB.out)⟩
  · replace c4 := Bool.eq_false_iff.mpr c4
    subst c4
    have H1 : (some false) = some r := by rw [if_neg (show ¬ (false = true) by decide)] at H; exact H
    clear H
    have H := H1
    clear H1
    obtain rfl := Option.some.inj H
    go_enter Tryd.func4, Tryd.ntmps4
    go_wp2_with (first | (go_at_call 12; (with_reducible refine (tattlelaw13_awake.calls k  false _ A3.out).mono ?_); rintro e w63 ⟨rfl, hb⟩; have n0_ := Aside0.mk (below_step (by repeat (first | (with_reducible first | exact HB.out | apply below_alloc | apply pw_below_drewN | apply below_drew1) | exact HB.out)) hb); clear HB; have HB := n0_; clear n0_; (try clear hb); (try clear hb2); (try clear hk); (try clear hi)))
    repeat (go_quiet (first | (go_at_call 12; (with_reducible refine (tattlelaw13_awake.calls k  false _ A3.out).mono ?_); rintro e w63 ⟨rfl, hb⟩; have n0_ := Aside0.mk (below_step (by repeat (first | (with_reducible first | exact HB.out | apply below_alloc | apply pw_below_drewN | apply below_drew1) | exact HB.out)) hb); clear HB; have HB := n0_; clear n0_; (try clear hb); (try clear hb2); (try clear hk); (try clear hi))); try go_wp2_with (first | (go_at_call 12; (with_reducible refine (tattlelaw13_awake.calls k  false _ A3.out).mono ?_); rintro e w63 ⟨rfl, hb⟩; have n0_ := Aside0.mk (below_step (by repeat (first | (with_reducible first | exact HB.out | apply below_alloc | apply pw_below_drewN | apply below_drew1) | exact HB.out)) hb); clear HB; have HB := n0_; clear n0_; (try clear hb); (try clear hb2); (try clear hk); (try clear hi))))
    go_ret
    exact ⟨by first | rfl | (simp [errW_none, errW_some] <;> rfl) | (simp [*, errW_none, errW_some] <;> rfl), by repeat (first | (with_reducible first | exact HB.out | apply below_alloc | apply pw_below_drewN | apply below_drew1) | exact HB.out)⟩

/-- THE ONE PURE STATEMENT of tattlelaw13_LexBack: yours. -/
def tattlelaw13_LexBack.Pure : Prop := ∀ (a0 : ByteArray) (a1 : Int), a0.size ≤ 140737488351232 → (Lit.int .i64 a1).wf = true → ∃ k, tattlelaw13_LexBack.f k a0 a1 = some true
theorem tattlelaw13_LexBack.walk (P : tattlelaw13_LexBack.Pure) (a0 : ByteArray) (a1 : Int) (w : World) (w0 : a0.size ≤ 140737488351232) (w1 : (Lit.int .i64 a1).wf = true) :
    Calls Tryd.prog 4 #[.string a0, .int .i64 a1] w fun e w' => e = .returned (.bool true) ∧ Below w.heap.size w w' := by
  obtain ⟨k, h⟩ := P a0 a1 w0 w1
  refine (tattlelaw13_LexBack.calls k a0 a1 true w h).mono ?_
  rintro e w' ⟨rfl, hd⟩
  exact ⟨rfl, hd⟩

-- NOT PRINTED: function 5 (tattlelaw13_LexForms)

end Go.Proofs.YtapbpmpeikobcaaDoor.Q
