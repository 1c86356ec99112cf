/- Walks of the functions that the law reaches, printed by a program out of the translation. Their conditions stand in each. -/
import Derived.Test.YtapbpmpeikobcaaDoorQ0
import Derived.Test.YtapbpmpeikobcaaDoorQ1
import Derived.Test.YtapbpmpeikobcaaDoorQ2
import Derived.Test.YtapbpmpeikobcaaDoorHLex
namespace Go.Proofs.YtapbpmpeikobcaaDoor.Q
open Go.RowKit Go.Proofs.YtapbpmpeikobcaaDoorW.PrintWords Go.Proofs.YtapbpmpeikobcaaDoorW.PrintLast Go.Proofs.YtapbpmpeikobcaaDoorW.PrintMore
attribute [local go_sem] max2_int min2_int max_two min_two max_three min_three max_four min_four   -- for this text's walks alone
set_option linter.unusedVariables false
set_option linter.unusedSimpArgs false

attribute [local go_sem high] eqA37
/-- A state of type 48 at block g of W; what its slices lead to came in by w0. -/
def IsS48 (w0 W : World) (g : Nat) (f0 : ByteArray) (f1 : Int) (f2 : Int) : Prop := W.heap[g]? = some (.cells #[.string f0, .int .i64 f1, .int .i64 f2] 48 (0, 0)) ∧ w0.heap.size ≤ g
theorem IsS48.grown {w0 W : World} {g : Nat} {f0 : ByteArray} {f1 : Int} {f2 : Int} {W1 : World} {row : Option Nat} (h : IsS48 w0 W g f0 f1 f2) (hw : W.grownBy W1 row) (hne : some g ≠ row) : IsS48 w0 W1 g f0 f1 f2 := by
  obtain ⟨hb, hg⟩ := h
  exact ⟨blk_grown hb hw hne, hg⟩
theorem IsS48.own_neN {w0 W : World} {g : Nat} {f0 : ByteArray} {f1 : Int} {f2 : Int} {α : Type} {d : Kd α} {e : Nat} {base : Nat} {ok : Nat → Prop} {v : Value} {xs : List α} (h : IsS48 w0 W g f0 f1 f2) (ho : Kd.N d e W base ok v xs) (ht : e ≠ 48) : some g ≠ v.ownBlock := by
  obtain ⟨hb, hg⟩ := h
  exact Kd.N_ne ho hb ht
theorem IsS48.fresh {w0 W : World} {g : Nat} {f0 : ByteArray} {f1 : Int} {f2 : Int} (h : IsS48 w0 W g f0 f1 f2) : ∀ k, W.heap.size ≤ k → k ≠ g := by
  obtain ⟨hb, hg⟩ := h
  exact Kd.freshB hb
theorem IsS48.kept {w0 W : World} {g : Nat} {f0 : ByteArray} {f1 : Int} {f2 : Int} {W1 : World} {S : Nat → Prop} (h : IsS48 w0 W g f0 f1 f2) (hk : Kept W W1 S) (hne : ¬ S g) : IsS48 w0 W1 g f0 f1 f2 := by
  obtain ⟨hb, hg⟩ := h
  exact ⟨blk_kept hb hk hne, hg⟩
theorem IsS48.below {w0 W : World} {g : Nat} {f0 : ByteArray} {f1 : Int} {f2 : Int} {W1 : World} (h : IsS48 w0 W g f0 f1 f2) (hw : Below W.heap.size W W1) : IsS48 w0 W1 g f0 f1 f2 := h.grown (grown_of_below hw none) (by simp)
theorem IsS48.alloc {w0 W : World} {g : Nat} {f0 : ByteArray} {f1 : Int} {f2 : Int} (h : IsS48 w0 W g f0 f1 f2) (o : Obj) : IsS48 w0 (W.alloc o) g f0 f1 f2 := h.below (below_alloc (Below.refl _ _) o)
theorem IsS48.drewN {w0 W : World} {g : Nat} {f0 : ByteArray} {f1 : Int} {f2 : Int} (h : IsS48 w0 W g f0 f1 f2) (m : Nat) : IsS48 w0 (W.drewN m) g f0 f1 f2 := h
theorem IsS48.drew {w0 W : World} {g : Nat} {f0 : ByteArray} {f1 : Int} {f2 : Int} (h : IsS48 w0 W g f0 f1 f2) : IsS48 w0 W.drew g f0 f1 f2 := h
theorem IsS48.at_ {w0 W : World} {g : Nat} {f0 : ByteArray} {f1 : Int} {f2 : Int} {w' : World} {m : Nat} (hq : W.drewN m = w') (h : IsS48 w0 W g f0 f1 f2) : IsS48 w0 w' g f0 f1 f2 := by subst hq; exact IsS48.drewN h m
theorem IsS48.apart {w0 W : World} {g : Nat} {f0 : ByteArray} {f1 : Int} {f2 : Int} {α : Type} {d : Kd α} {e : Nat} {base : Nat} {ok : Nat → Prop} {v : Value} {xs : List α} (h : IsS48 w0 W g f0 f1 f2) (ho : d.R e W base ok v xs) (ht : ∀ q, q ∈ e :: d.E → q ≠ 48) : d.R e W base (fun k => ok k ∧ k ≠ g) v xs := by
  obtain ⟨hb, hg⟩ := h
  exact Kd.R_types ho hb ht
theorem IsS48.own_ne {w0 W : World} {g : Nat} {f0 : ByteArray} {f1 : Int} {f2 : Int} {α : Type} {d : Kd α} {e : Nat} {base : Nat} {ok : Nat → Prop} {v : Value} {xs : List α} (h : IsS48 w0 W g f0 f1 f2) (ho : d.R e W base ok v xs) (ht : e ≠ 48) : some g ≠ v.ownBlock := by
  obtain ⟨hb, hg⟩ := h
  exact Kd.R_ne ho hb ht
theorem IsS48.apartQ {w0 W : World} {g : Nat} {f0 : ByteArray} {f1 : Int} {f2 : Int} {α : Type} {d : Kd α} {e : Nat} {base : Nat} {ok : Nat → Prop} {v : Value} {xs : List α} (h : IsS48 w0 W g f0 f1 f2) (ho : d.Q e W base ok v xs) (ht : ∀ q, q ∈ e :: d.E → q ≠ 48) : d.Q e W base (fun k => ok k ∧ k ≠ g) v xs := by
  obtain ⟨hb, hg⟩ := h
  exact Kd.Q_types ho hb ht
theorem IsS48.own_neQ {w0 W : World} {g : Nat} {f0 : ByteArray} {f1 : Int} {f2 : Int} {α : Type} {d : Kd α} {e : Nat} {base : Nat} {ok : Nat → Prop} {v : Value} {xs : List α} (h : IsS48 w0 W g f0 f1 f2) (ho : d.Q e W base ok v xs) (ht : e ≠ 48) : some g ≠ v.ownBlock := by
  obtain ⟨hb, hg⟩ := h
  exact Kd.Q_ne ho hb ht
theorem IsS48.apartS {w0 W : World} {g : Nat} {f0 : ByteArray} {f1 : Int} {f2 : Int} {α : Type} {d : Kd α} {e : Nat} {base : Nat} {ok : Nat → Prop} {v : Value} {xs : List α} (h : IsS48 w0 W g f0 f1 f2) (ho : d.S e W base ok v xs) (ht : ∀ q, q ∈ e :: d.E → q ≠ 48) : d.S e W base (fun k => ok k ∧ k ≠ g) v xs := by
  obtain ⟨hb, hg⟩ := h
  exact Kd.S_types ho hb ht
theorem IsS48.own_neS {w0 W : World} {g : Nat} {f0 : ByteArray} {f1 : Int} {f2 : Int} {α : Type} {d : Kd α} {e : Nat} {base : Nat} {ok : Nat → Prop} {v : Value} {xs : List α} (h : IsS48 w0 W g f0 f1 f2) (ho : d.S e W base ok v xs) (ht : e ≠ 48) : some g ≠ v.ownBlock := by
  obtain ⟨hb, hg⟩ := h
  exact Kd.S_ne ho hb ht
theorem IsS48.lt {w0 W : World} {g : Nat} {f0 : ByteArray} {f1 : Int} {f2 : Int} (h : IsS48 w0 W g f0 f1 f2) : g < W.heap.size := by
  obtain ⟨hb, hg⟩ := h
  exact blk_lt hb
theorem IsS48.ge {w0 W : World} {g : Nat} {f0 : ByteArray} {f1 : Int} {f2 : Int} (h : IsS48 w0 W g f0 f1 f2) : w0.heap.size ≤ g := by
  obtain ⟨hb, hg⟩ := h
  exact hg
theorem IsS48.ne_blk {w0 W : World} {g : Nat} {f0 : ByteArray} {f1 : Int} {f2 : Int} {a : Nat} {cs : Array Value} {t : TypeId} {fr : Nat × Nat} (h : IsS48 w0 W g f0 f1 f2) (hb2 : W.heap[a]? = some (.cells cs t fr)) (ht : t ≠ 48) : g ≠ a := by
  obtain ⟨hb, hg⟩ := h
  rintro rfl
  rw [hb] at hb2
  injection hb2 with hb2
  injection hb2 with _ ht2
  exact ht ht2.symm
theorem IsS48.far {w0 W : World} {g : Nat} {f0 : ByteArray} {f1 : Int} {f2 : Int} {p : Addr} (h : IsS48 w0 W g f0 f1 f2) (hne : g ≠ p.block) (u : Value) : IsS48 w0 (W.setCell p u) g f0 f1 f2 := by
  obtain ⟨hb, hg⟩ := h
  exact ⟨blk_far hb hne u, hg⟩
theorem cellS48_0 {W : World} {g : Nat} {f0 : ByteArray} {f1 : Int} {f2 : Int} (h : W.heap[g]? = some (.cells #[.string f0, .int .i64 f1, .int .i64 f2] 48 (0, 0))) : W.cell? ⟨g, 0, none⟩ = some (.string f0) := (blk_cell h 0).trans rfl
theorem IsS48.set_0 {w0 W : World} {g : Nat} {f0 : ByteArray} {f1 : Int} {f2 : Int} (h : IsS48 w0 W g f0 f1 f2) (x : ByteArray) : IsS48 w0 (W.setCell ⟨g, 0, none⟩ (.string x)) g x f1 f2 := by
  obtain ⟨hb, hg⟩ := h
  exact ⟨by simpa using blk_set hb 0 (.string x), hg⟩
theorem cellS48_1 {W : World} {g : Nat} {f0 : ByteArray} {f1 : Int} {f2 : Int} (h : W.heap[g]? = some (.cells #[.string f0, .int .i64 f1, .int .i64 f2] 48 (0, 0))) : W.cell? ⟨g, 1, none⟩ = some (.int .i64 f1) := (blk_cell h 1).trans rfl
theorem IsS48.set_1 {w0 W : World} {g : Nat} {f0 : ByteArray} {f1 : Int} {f2 : Int} (h : IsS48 w0 W g f0 f1 f2) (x : Int) : IsS48 w0 (W.setCell ⟨g, 1, none⟩ (.int .i64 x)) g f0 x f2 := by
  obtain ⟨hb, hg⟩ := h
  exact ⟨by simpa using blk_set hb 1 (.int .i64 x), hg⟩
theorem cellS48_2 {W : World} {g : Nat} {f0 : ByteArray} {f1 : Int} {f2 : Int} (h : W.heap[g]? = some (.cells #[.string f0, .int .i64 f1, .int .i64 f2] 48 (0, 0))) : W.cell? ⟨g, 2, none⟩ = some (.int .i64 f2) := (blk_cell h 2).trans rfl
theorem IsS48.set_2 {w0 W : World} {g : Nat} {f0 : ByteArray} {f1 : Int} {f2 : Int} (h : IsS48 w0 W g f0 f1 f2) (x : Int) : IsS48 w0 (W.setCell ⟨g, 2, none⟩ (.int .i64 x)) g f0 f1 x := by
  obtain ⟨hb, hg⟩ := h
  exact ⟨by simpa using blk_set hb 2 (.int .i64 x), hg⟩
theorem IsS48.new (w0 W : World) (f0 : ByteArray) (f1 : Int) (f2 : Int) (hB : Below w0.heap.size w0 W) : IsS48 w0 (W.alloc (.cells #[.string f0, .int .i64 f1, .int .i64 f2] 48)) W.heap.size f0 f1 f2 := ⟨by simpa using heap_alloc_new W _, hB.size⟩

/-! ### tattleref13_lexer_skip: function 15 -/
mutual
def tattleref13_lexer_skip.l0 : Nat → ByteArray → Int → Int → Option (ByteArray × Int × Int)
  | 0, _, _, _ => none
  | k + 1, x1000, x1001, x1002 => if x1001 < (x1000.size : Int) then (if 0 ≤ x1001 then (if (bt x1000 x1001) = 35 then (tattleref13_lexer_skip.l1 k x1000 x1001 x1002) else ((tattleref13_blank.f (bt x1000 x1001)).bind fun t111 => (if t111 = true then (tattleref13_lexer_skip.l0 k x1000 (wrap64 (x1001 + 1)) x1002) else (some (x1000, x1001, x1002))))) else (none)) else (some (x1000, x1001, x1002))
def tattleref13_lexer_skip.l1 : Nat → ByteArray → Int → Int → Option (ByteArray × Int × Int)
  | 0, _, _, _ => none
  | k + 1, x1000, x1001, x1002 => if x1001 < (x1000.size : Int) then (if 0 ≤ x1001 then (if (bt x1000 x1001) = 10 then (tattleref13_lexer_skip.l0 k x1000 x1001 x1002) else (tattleref13_lexer_skip.l1 k x1000 (wrap64 (x1001 + 1)) x1002)) else (none)) else (tattleref13_lexer_skip.l0 k x1000 x1001 x1002)
end
def tattleref13_lexer_skip.f (k : Nat) (s0_0 : ByteArray) (s0_1 : Int) (s0_2 : Int) : Option (ByteArray × Int × Int) := tattleref13_lexer_skip.l0 k s0_0 s0_1 s0_2
theorem tattleref13_lexer_skip.mono_l : ∀ k, (∀ y0 y1 y2, LeO (tattleref13_lexer_skip.l0 k y0 y1 y2) (tattleref13_lexer_skip.l0 (k + 1) y0 y1 y2)) ∧ (∀ y0 y1 y2, LeO (tattleref13_lexer_skip.l1 k y0 y1 y2) (tattleref13_lexer_skip.l1 (k + 1) y0 y1 y2))
  | 0 => ⟨fun _ _ _ r h => by simp [tattleref13_lexer_skip.l0] at h, fun _ _ _ r h => by simp [tattleref13_lexer_skip.l1] at h⟩
  | k + 1 => by
    obtain ⟨ih0, ih1⟩ := tattleref13_lexer_skip.mono_l k
    refine ⟨?_, ?_⟩
    · intro y0 y1 y2
      unfold tattleref13_lexer_skip.l0
      repeat' first
      | (with_reducible exact ih0 _ _ _)
      | (with_reducible exact ih1 _ _ _)
      | (with_reducible exact LeO.refl _)
      | (with_reducible exact LeO.none _)
      | (with_reducible refine LeO.ite ?_ ?_)
      | (with_reducible refine LeO.bind ?_ (fun _ => ?_))
      | exact ih0 _ _ _
      | exact ih1 _ _ _
      | exact LeO.none _
      | refine LeO.ite ?_ ?_
      | refine LeO.bind ?_ (fun _ => ?_)
    · intro y0 y1 y2
      unfold tattleref13_lexer_skip.l1
      repeat' first
      | (with_reducible exact ih0 _ _ _)
      | (with_reducible exact ih1 _ _ _)
      | (with_reducible exact LeO.refl _)
      | (with_reducible exact LeO.none _)
      | (with_reducible refine LeO.ite ?_ ?_)
      | (with_reducible refine LeO.bind ?_ (fun _ => ?_))
      | exact ih0 _ _ _
      | exact ih1 _ _ _
      | exact LeO.none _
      | refine LeO.ite ?_ ?_
      | refine LeO.bind ?_ (fun _ => ?_)
theorem tattleref13_lexer_skip.mono : ∀ a0 a1 a2 k, LeO (tattleref13_lexer_skip.f k a0 a1 a2) (tattleref13_lexer_skip.f (k + 1) a0 a1 a2) := by
  intro a0 a1 a2 k
  obtain ⟨ih0, ih1⟩ := tattleref13_lexer_skip.mono_l k
  unfold tattleref13_lexer_skip.f
  repeat' first
      | (with_reducible exact ih0 _ _ _)
      | (with_reducible exact ih1 _ _ _)
      | (with_reducible exact LeO.refl _)
      | (with_reducible exact LeO.none _)
      | (with_reducible refine LeO.ite ?_ ?_)
      | (with_reducible refine LeO.bind ?_ (fun _ => ?_))
      | exact ih0 _ _ _
      | exact ih1 _ _ _
      | exact LeO.none _
      | refine LeO.ite ?_ ?_
      | refine LeO.bind ?_ (fun _ => ?_)
set_option maxHeartbeats 8000000 in
set_option maxRecDepth 100000 in
theorem tattleref13_lexer_skip.calls (k : Nat) (g : Nat) (s0_0 : ByteArray) (s0_1 : Int) (s0_2 : Int) (r1 : ByteArray) (r2 : Int) (r3 : Int) (w0 w : World) (hI : IsS48 w0 w g s0_0 s0_1 s0_2) (hB : Below w0.heap.size w0 w) (h : tattleref13_lexer_skip.f k s0_0 s0_1 s0_2 = some (r1, r2, r3)) :
    Calls Tryd.prog 15 #[.pointer (some ⟨g, 0, none⟩)] w fun e w' => e = .returned (.tuple #[]) ∧ IsS48 w0 w' g r1 r2 r3 ∧ Below w0.heap.size w0 w' ∧ KeepBut w w' g none := by
  have HI0 := Aside0.mk hI
  have HK := Aside0.mk (KeepBut.refl w g none)
  have HL := Aside0.mk hB.size
  clear hI
  have HW0 := Aside0.mk hB.size
  have HB := Aside0.mk hB
  clear hB
  have H : (tattleref13_lexer_skip.l0 k s0_0 s0_1 s0_2) = some (r1, r2, r3) := h
  clear h
  have H' := Aside0.mk H
  clear H
  go_enter Tryd.func15, Tryd.ntmps15
  go_wp2
  repeat (go_quiet (fail); try go_wp2)
  go_loopg [] k (fun kq w' => ∃ (x1001_1 : Int), Aside0 (tattleref13_lexer_skip.l0 kq s0_0 x1001_1 s0_2 = some (r1, r2, r3)) ∧ Aside0 (kq ≤ k) ∧ Aside0 (IsS48 w0 w' g s0_0 x1001_1 s0_2) ∧ Aside0 (KeepBut w w' g none) ∧ Aside0 (Below w0.heap.size w0 w'))
  case atStart => exact ⟨(s0_1), H', ⟨Nat.le_refl _⟩, ⟨by repeat (first | (with_reducible first | exact HI0.out | apply IsS48.alloc | apply IsS48.drewN | apply IsS48.drew | apply IsS48.set_0 | apply IsS48.set_1 | apply IsS48.set_2) | exact HI0.out)⟩, ⟨by repeat (first | (with_reducible first | exact HK.out | apply KeepBut.set_ | apply keep_drewN | apply keep_drew | apply keep_alloc) | exact HK.out)⟩, ⟨by repeat (first | (with_reducible first | exact HB.out | apply below_alloc | apply pw_below_drewN | apply below_drew1 | refine below_set ?_ (IsS48.ge HI0.out)) | exact HB.out)⟩⟩
  case round =>
    clear H'
    try clear c1
    obtain ⟨x1001_1, HA, HK1, HI0, HK, HB⟩ := hrel
    cases gk with
    | zero => exact absurd HA.out (by simp [tattleref13_lexer_skip.l0])
    | succ k1 =>
      have H := HA.out
      clear HA
      simp only [tattleref13_lexer_skip.l0] at H
      by_cases c2 : x1001_1 < (s0_0.size : Int)
      · rw [if_pos c2] at H
        have c2b0 : decide (x1001_1 < (s0_0.size : Int)) = true := decide_eq_true c2
        clear c2
        by_cases c3 : 0 ≤ x1001_1
        · rw [if_pos c3] at H
          have c3b0 : decide (0 ≤ x1001_1) = true := decide_eq_true c3
          clear c3
          by_cases c5 : (bt s0_0 x1001_1) = 35
          · rw [if_pos c5] at H
            have c5b0 : ((bt s0_0 x1001_1) == 35) = true := beq_iff_eq.mpr c5
            have c5b1 : ((bt s0_0 x1001_1) != 35) = false := bne_eq_false_iff_eq.mpr c5
            clear c5
            have H' := Aside0.mk H
            clear H
            obtain ⟨HGz6, hgz6⟩ := HI0.out
            have hcz6_0 := cellS48_0 HGz6
            have hcz6_1 := cellS48_1 HGz6
            have hcz6_2 := cellS48_2 HGz6
            have hfz6_0 := blk_frozen HGz6 0
            have hfz6_1 := blk_frozen HGz6 1
            have hfz6_2 := blk_frozen HGz6 2
            clear HGz6 hgz6
            have p4 : 0 ≤ (x1001_1 : Int) := of_decide_eq_true (by first | (with_reducible assumption) | assumption)
            have q4 : x1001_1 < (s0_0.size : Int) := of_decide_eq_true (by first | (with_reducible assumption) | assumption)
            have hx4 := bt_at s0_0 x1001_1
            replace p4 := eq_true p4
            replace q4 := eq_true q4
            go_wp2
            repeat (go_quiet (fail); try go_wp2)
            go_loopg [] k1 (fun kq w' => ∃ (x1001_2 : Int), Aside0 (tattleref13_lexer_skip.l1 kq s0_0 x1001_2 s0_2 = some (r1, r2, r3)) ∧ Aside0 (kq ≤ k1) ∧ Aside0 (IsS48 w0 w' g s0_0 x1001_2 s0_2) ∧ Aside0 (KeepBut w w' g none) ∧ Aside0 (Below w0.heap.size w0 w'))
            case atStart => exact ⟨(x1001_1), H', ⟨Nat.le_refl _⟩, ⟨by repeat (first | (with_reducible first | exact HI0.out | apply IsS48.alloc | apply IsS48.drewN | apply IsS48.drew | apply IsS48.set_0 | apply IsS48.set_1 | apply IsS48.set_2) | exact HI0.out)⟩, ⟨by repeat (first | (with_reducible first | exact HK.out | apply KeepBut.set_ | apply keep_drewN | apply keep_drew | apply keep_alloc) | exact HK.out)⟩, ⟨by repeat (first | (with_reducible first | exact HB.out | apply below_alloc | apply pw_below_drewN | apply below_drew1 | refine below_set ?_ (IsS48.ge HI0.out)) | exact HB.out)⟩⟩
            case round =>
              clear H'
              try clear c1
              try clear c2
              try clear c2b0
              try clear p2
              try clear c3
              try clear c3b0
              try clear p4
              try clear q4
              try clear hx4
              try clear c5
              try clear c5b0
              try clear c5b1
              try clear hcz6_0
              try clear hcz6_1
              try clear hcz6_2
              try clear hfz6_0
              try clear hfz6_1
              try clear hfz6_2
              try clear p4
              try clear q4
              obtain ⟨x1001_2, HA, HK2, HI0, HK, HB⟩ := hrel
              cases gk with
              | zero => exact absurd HA.out (by simp [tattleref13_lexer_skip.l1])
              | succ k2 =>
                have H := HA.out
                clear HA
                simp only [tattleref13_lexer_skip.l1] at H
                by_cases c7 : x1001_2 < (s0_0.size : Int)
                · rw [if_pos c7] at H
                  have c7b0 : decide (x1001_2 < (s0_0.size : Int)) = true := decide_eq_true c7
                  clear c7
                  by_cases c8 : 0 ≤ x1001_2
                  · rw [if_pos c8] at H
                    have c8b0 : decide (0 ≤ x1001_2) = true := decide_eq_true c8
                    clear c8
                    by_cases c10 : (bt s0_0 x1001_2) = 10
                    · rw [if_pos c10] at H
                      have c10b0 : ((bt s0_0 x1001_2) == 10) = true := beq_iff_eq.mpr c10
                      have c10b1 : ((bt s0_0 x1001_2) != 10) = false := bne_eq_false_iff_eq.mpr c10
                      clear c10
                      have H' := Aside0.mk H
                      clear H
                      obtain ⟨HGz11, hgz11⟩ := HI0.out
                      have hcz11_0 := cellS48_0 HGz11
                      have hcz11_1 := cellS48_1 HGz11
                      have hcz11_2 := cellS48_2 HGz11
                      have hfz11_0 := blk_frozen HGz11 0
                      have hfz11_1 := blk_frozen HGz11 1
                      have hfz11_2 := blk_frozen HGz11 2
                      clear HGz11 hgz11
                      have p9 : 0 ≤ (x1001_2 : Int) := of_decide_eq_true (by first | (with_reducible assumption) | assumption)
                      have q9 : x1001_2 < (s0_0.size : Int) := of_decide_eq_true (by first | (with_reducible assumption) | assumption)
                      have hx9 := bt_at s0_0 x1001_2
                      replace p9 := eq_true p9
                      replace q9 := eq_true q9
                      go_wp2
                      repeat (go_quiet (fail); try go_wp2)
                      go_roundg k2
                      case measure => have := HK1.out; have := HK2.out; omega
                      case rel => exact ⟨(x1001_2), H', ⟨by have := HK1.out; have := HK2.out; omega⟩, ⟨by repeat (first | (with_reducible first | exact HI0.out | apply IsS48.alloc | apply IsS48.drewN | apply IsS48.drew | apply IsS48.set_0 | apply IsS48.set_1 | apply IsS48.set_2) | exact HI0.out)⟩, ⟨by repeat (first | (with_reducible first | exact HK.out | apply KeepBut.set_ | apply keep_drewN | apply keep_drew | apply keep_alloc) | exact HK.out)⟩, ⟨by repeat (first | (with_reducible first | exact HB.out | apply below_alloc | apply pw_below_drewN | apply below_drew1 | refine below_set ?_ (IsS48.ge HI0.out)) | exact HB.out)⟩⟩
                    · rw [if_neg c10] at H
                      have c10b0 : ((bt s0_0 x1001_2) == 10) = false := beq_eq_false_iff_ne.mpr c10
                      have c10b1 : ((bt s0_0 x1001_2) != 10) = true := bne_iff_ne.mpr c10
                      have H' := Aside0.mk H
                      clear H
                      obtain ⟨HGz12, hgz12⟩ := HI0.out
                      have hcz12_0 := cellS48_0 HGz12
                      have hcz12_1 := cellS48_1 HGz12
                      have hcz12_2 := cellS48_2 HGz12
                      have hfz12_0 := blk_frozen HGz12 0
                      have hfz12_1 := blk_frozen HGz12 1
                      have hfz12_2 := blk_frozen HGz12 2
                      clear HGz12 hgz12
                      have p9 : 0 ≤ (x1001_2 : Int) := of_decide_eq_true (by first | (with_reducible assumption) | assumption)
                      have q9 : x1001_2 < (s0_0.size : Int) := of_decide_eq_true (by first | (with_reducible assumption) | assumption)
                      have hx9 := bt_at s0_0 x1001_2
                      replace p9 := eq_true p9
                      replace q9 := eq_true q9
                      go_wp2
                      repeat (go_quiet (fail); try go_wp2)
                      go_roundg k2
                      case measure => have := HK1.out; have := HK2.out; omega
                      case rel => exact ⟨(wrap64 (x1001_2 + 1)), H', ⟨by have := HK1.out; have := HK2.out; omega⟩, ⟨by repeat (first | (with_reducible first | exact HI0.out | apply IsS48.alloc | apply IsS48.drewN | apply IsS48.drew | apply IsS48.set_0 | apply IsS48.set_1 | apply IsS48.set_2) | exact HI0.out)⟩, ⟨by repeat (first | (with_reducible first | exact HK.out | apply KeepBut.set_ | apply keep_drewN | apply keep_drew | apply keep_alloc) | exact HK.out)⟩, ⟨by repeat (first | (with_reducible first | exact HB.out | apply below_alloc | apply pw_below_drewN | apply below_drew1 | refine below_set ?_ (IsS48.ge HI0.out)) | exact HB.out)⟩⟩
                  · rw [if_neg c8] at H
                    exact absurd H (by simp)
                · rw [if_neg c7] at H
                  have c7b0 : decide (x1001_2 < (s0_0.size : Int)) = false := decide_eq_false c7
                  clear c7
                  have H' := Aside0.mk H
                  clear H
                  obtain ⟨HGz13, hgz13⟩ := HI0.out
                  have hcz13_0 := cellS48_0 HGz13
                  have hcz13_1 := cellS48_1 HGz13
                  have hcz13_2 := cellS48_2 HGz13
                  have hfz13_0 := blk_frozen HGz13 0
                  have hfz13_1 := blk_frozen HGz13 1
                  have hfz13_2 := blk_frozen HGz13 2
                  clear HGz13 hgz13
                  go_wp2
                  repeat (go_quiet (fail); try go_wp2)
                  go_roundg k2
                  case measure => have := HK1.out; have := HK2.out; omega
                  case rel => exact ⟨(x1001_2), H', ⟨by have := HK1.out; have := HK2.out; omega⟩, ⟨by repeat (first | (with_reducible first | exact HI0.out | apply IsS48.alloc | apply IsS48.drewN | apply IsS48.drew | apply IsS48.set_0 | apply IsS48.set_1 | apply IsS48.set_2) | exact HI0.out)⟩, ⟨by repeat (first | (with_reducible first | exact HK.out | apply KeepBut.set_ | apply keep_drewN | apply keep_drew | apply keep_alloc) | exact HK.out)⟩, ⟨by repeat (first | (with_reducible first | exact HB.out | apply below_alloc | apply pw_below_drewN | apply below_drew1 | refine below_set ?_ (IsS48.ge HI0.out)) | exact HB.out)⟩⟩
          · rw [if_neg c5] at H
            have c5b0 : ((bt s0_0 x1001_1) == 35) = false := beq_eq_false_iff_ne.mpr c5
            have c5b1 : ((bt s0_0 x1001_1) != 35) = true := bne_iff_ne.mpr c5
            replace H := Option.bind_eq_some_iff.mp H
            obtain ⟨t111, A150, H⟩ := H
            replace H : (if t111 = true then (tattleref13_lexer_skip.l0 k1 s0_0 (wrap64 (x1001_1 + 1)) s0_2) else (some (s0_0, x1001_1, s0_2))) = some (r1, r2, r3) := H
            have A15 := Aside0.mk A150
            clear A150
            by_cases c16 : t111 = true
            · subst c16
              have H1 : (tattleref13_lexer_skip.l0 k1 s0_0 (wrap64 (x1001_1 + 1)) s0_2) = some (r1, r2, r3) := by rw [if_pos rfl] at H; exact H
              clear H
              have H := H1
              clear H1
              have H' := Aside0.mk H
              clear H
              obtain ⟨HGz17, hgz17⟩ := HI0.out
              have hcz17_0 := cellS48_0 HGz17
              have hcz17_1 := cellS48_1 HGz17
              have hcz17_2 := cellS48_2 HGz17
              have hfz17_0 := blk_frozen HGz17 0
              have hfz17_1 := blk_frozen HGz17 1
              have hfz17_2 := blk_frozen HGz17 2
              clear HGz17 hgz17
              have p4 : 0 ≤ (x1001_1 : Int) := of_decide_eq_true (by first | (with_reducible assumption) | assumption)
              have q4 : x1001_1 < (s0_0.size : Int) := of_decide_eq_true (by first | (with_reducible assumption) | assumption)
              have hx4 := bt_at s0_0 x1001_1
              replace p4 := eq_true p4
              replace q4 := eq_true q4
              have p14 : 0 ≤ (x1001_1 : Int) := of_decide_eq_true (by first | (with_reducible assumption) | assumption)
              have q14 : x1001_1 < (s0_0.size : Int) := of_decide_eq_true (by first | (with_reducible assumption) | assumption)
              have hx14 := bt_at s0_0 x1001_1
              replace p14 := eq_true p14
              replace q14 := eq_true q14
              go_wp2_with (first | (go_at_call 25; (with_reducible refine (tattleref13_blank.calls (bt s0_0 x1001_1) true _ A15.out).mono ?_); rintro e w' ⟨rfl, ⟨nd, rfl⟩⟩; (try first | exact ⟨rfl, _, World.drewN_drewN _ _ _⟩ | exact ⟨rfl, _, Eq.trans (World.drewN_drewN _ _ _) (congrArg (World.drewN _) (Nat.add_assoc _ _ _))⟩)))
              repeat (go_quiet (first | (go_at_call 25; (with_reducible refine (tattleref13_blank.calls (bt s0_0 x1001_1) true _ A15.out).mono ?_); rintro e w' ⟨rfl, ⟨nd, rfl⟩⟩; (try first | exact ⟨rfl, _, World.drewN_drewN _ _ _⟩ | exact ⟨rfl, _, Eq.trans (World.drewN_drewN _ _ _) (congrArg (World.drewN _) (Nat.add_assoc _ _ _))⟩))); try go_wp2_with (first | (go_at_call 25; (with_reducible refine (tattleref13_blank.calls (bt s0_0 x1001_1) true _ A15.out).mono ?_); rintro e w' ⟨rfl, ⟨nd, rfl⟩⟩; (try first | exact ⟨rfl, _, World.drewN_drewN _ _ _⟩ | exact ⟨rfl, _, Eq.trans (World.drewN_drewN _ _ _) (congrArg (World.drewN _) (Nat.add_assoc _ _ _))⟩))))
              go_roundg k1
              case measure => have := HK1.out; omega
              case rel => exact ⟨(wrap64 (x1001_1 + 1)), H', ⟨by have := HK1.out; omega⟩, ⟨by repeat (first | (with_reducible first | exact HI0.out | apply IsS48.alloc | apply IsS48.drewN | apply IsS48.drew | apply IsS48.set_0 | apply IsS48.set_1 | apply IsS48.set_2) | exact HI0.out)⟩, ⟨by repeat (first | (with_reducible first | exact HK.out | apply KeepBut.set_ | apply keep_drewN | apply keep_drew | apply keep_alloc) | exact HK.out)⟩, ⟨by repeat (first | (with_reducible first | exact HB.out | apply below_alloc | apply pw_below_drewN | apply below_drew1 | refine below_set ?_ (IsS48.ge HI0.out)) | exact HB.out)⟩⟩
            · replace c16 := Bool.eq_false_iff.mpr c16
              subst c16
              have H1 : (some (s0_0, x1001_1, s0_2)) = some (r1, r2, r3) := by rw [if_neg (show ¬ (false = true) by decide)] at H; exact H
              clear H
              have H := H1
              clear H1
              simp only [Option.some.injEq, Prod.mk.injEq] at H
              obtain ⟨rfl, rfl, rfl⟩ := H
              obtain ⟨HGz18, hgz18⟩ := HI0.out
              have hcz18_0 := cellS48_0 HGz18
              have hcz18_1 := cellS48_1 HGz18
              have hcz18_2 := cellS48_2 HGz18
              have hfz18_0 := blk_frozen HGz18 0
              have hfz18_1 := blk_frozen HGz18 1
              have hfz18_2 := blk_frozen HGz18 2
              clear HGz18 hgz18
              have p4 : 0 ≤ (x1001_1 : Int) := of_decide_eq_true (by first | (with_reducible assumption) | assumption)
              have q4 : x1001_1 < (s0_0.size : Int) := of_decide_eq_true (by first | (with_reducible assumption) | assumption)
              have hx4 := bt_at s0_0 x1001_1
              replace p4 := eq_true p4
              replace q4 := eq_true q4
              have p14 : 0 ≤ (x1001_1 : Int) := of_decide_eq_true (by first | (with_reducible assumption) | assumption)
              have q14 : x1001_1 < (s0_0.size : Int) := of_decide_eq_true (by first | (with_reducible assumption) | assumption)
              have hx14 := bt_at s0_0 x1001_1
              replace p14 := eq_true p14
              replace q14 := eq_true q14
              go_wp2_with (first | (go_at_call 25; (with_reducible refine (tattleref13_blank.calls (bt s0_0 x1001_1) false _ A15.out).mono ?_); rintro e w' ⟨rfl, ⟨nd, rfl⟩⟩; (try first | exact ⟨rfl, _, World.drewN_drewN _ _ _⟩ | exact ⟨rfl, _, Eq.trans (World.drewN_drewN _ _ _) (congrArg (World.drewN _) (Nat.add_assoc _ _ _))⟩)))
              repeat (go_quiet (first | (go_at_call 25; (with_reducible refine (tattleref13_blank.calls (bt s0_0 x1001_1) false _ A15.out).mono ?_); rintro e w' ⟨rfl, ⟨nd, rfl⟩⟩; (try first | exact ⟨rfl, _, World.drewN_drewN _ _ _⟩ | exact ⟨rfl, _, Eq.trans (World.drewN_drewN _ _ _) (congrArg (World.drewN _) (Nat.add_assoc _ _ _))⟩))); try go_wp2_with (first | (go_at_call 25; (with_reducible refine (tattleref13_blank.calls (bt s0_0 x1001_1) false _ A15.out).mono ?_); rintro e w' ⟨rfl, ⟨nd, rfl⟩⟩; (try first | exact ⟨rfl, _, World.drewN_drewN _ _ _⟩ | exact ⟨rfl, _, Eq.trans (World.drewN_drewN _ _ _) (congrArg (World.drewN _) (Nat.add_assoc _ _ _))⟩))))
              first | go_end0 | ((try simp only [Exit.inBlock, Exit.then]); refine bodyPost_ret (results_none rfl _ _ _) rfl ?_)
              exact ⟨by first | rfl | (simp [errW_none, errW_some] <;> rfl) | (simp [*, errW_none, errW_some] <;> rfl), by repeat (first | (with_reducible first | exact HI0.out | apply IsS48.alloc | apply IsS48.drewN | apply IsS48.drew | apply IsS48.set_0 | apply IsS48.set_1 | apply IsS48.set_2) | exact HI0.out), by repeat (first | (with_reducible first | exact HB.out | apply below_alloc | apply pw_below_drewN | apply below_drew1 | refine below_set ?_ (IsS48.ge HI0.out)) | exact HB.out), by repeat (first | (with_reducible first | exact HK.out | apply KeepBut.set_ | apply keep_drewN | apply keep_drew | apply keep_alloc) | exact HK.out)⟩
        · rw [if_neg c3] at H
          exact absurd H (by simp)
      · rw [if_neg c2] at H
        have c2b0 : decide (x1001_1 < (s0_0.size : Int)) = false := decide_eq_false c2
        clear c2
        simp only [Option.some.injEq, Prod.mk.injEq] at H
        obtain ⟨rfl, rfl, rfl⟩ := H
        obtain ⟨HGz19, hgz19⟩ := HI0.out
        have hcz19_0 := cellS48_0 HGz19
        have hcz19_1 := cellS48_1 HGz19
        have hcz19_2 := cellS48_2 HGz19
        have hfz19_0 := blk_frozen HGz19 0
        have hfz19_1 := blk_frozen HGz19 1
        have hfz19_2 := blk_frozen HGz19 2
        clear HGz19 hgz19
        go_wp2
        repeat (go_quiet (fail); try go_wp2)
        first | go_end0 | ((try simp only [Exit.inBlock, Exit.then]); refine bodyPost_ret (results_none rfl _ _ _) rfl ?_)
        exact ⟨by first | rfl | (simp [errW_none, errW_some] <;> rfl) | (simp [*, errW_none, errW_some] <;> rfl), by repeat (first | (with_reducible first | exact HI0.out | apply IsS48.alloc | apply IsS48.drewN | apply IsS48.drew | apply IsS48.set_0 | apply IsS48.set_1 | apply IsS48.set_2) | exact HI0.out), by repeat (first | (with_reducible first | exact HB.out | apply below_alloc | apply pw_below_drewN | apply below_drew1 | refine below_set ?_ (IsS48.ge HI0.out)) | exact HB.out), by repeat (first | (with_reducible first | exact HK.out | apply KeepBut.set_ | apply keep_drewN | apply keep_drew | apply keep_alloc) | exact HK.out)⟩

/-! ### tattleref13_letter: function 16 -/
def tattleref13_letter.f (a0 : Int) : Option (Bool) := if a0 ≥ 65 then (if a0 ≤ 90 then (some true) else (if a0 ≥ 97 then (if a0 ≤ 122 then (some true) else (some (a0 == 95))) else (some (a0 == 95)))) else (if a0 ≥ 97 then (if a0 ≤ 122 then (some true) else (some (a0 == 95))) else (some (a0 == 95)))
set_option maxHeartbeats 8000000 in
set_option maxRecDepth 100000 in
theorem tattleref13_letter.calls (a0 : Int) (r : Bool) (w : World) (h : tattleref13_letter.f a0 = some r) :
    Calls Tryd.prog 16 #[.int .u8 a0] w fun e w' => e = .returned (.bool r) ∧ Drawn0 w w' := by
  have H : (if a0 ≥ 65 then (if a0 ≤ 90 then (some true) else (if a0 ≥ 97 then (if a0 ≤ 122 then (some true) else (some (a0 == 95))) else (some (a0 == 95)))) else (if a0 ≥ 97 then (if a0 ≤ 122 then (some true) else (some (a0 == 95))) else (some (a0 == 95)))) = some r := h
  clear h
  by_cases c2 : a0 ≥ 65
  · rw [if_pos c2] at H
    have c2b0 : decide (65 ≤ a0) = true := decide_eq_true c2
    clear c2
    by_cases c3 : a0 ≤ 90
    · rw [if_pos c3] at H
      have c3b0 : decide (a0 ≤ 90) = true := decide_eq_true c3
      clear c3
      obtain rfl := Option.some.inj H
      go_enter Tryd.func16, Tryd.ntmps16
      go_wp2
      go_ret
      exact ⟨by first | rfl | (simp; done) | (simp [*]; done), by repeat (first | exact Drawn0.refl _ | apply Drawn0.step)⟩
    · rw [if_neg c3] at H
      have c3b0 : decide (a0 ≤ 90) = false := decide_eq_false c3
      clear c3
      by_cases c4 : a0 ≥ 97
      · rw [if_pos c4] at H
        have c4b0 : decide (97 ≤ a0) = true := decide_eq_true c4
        clear c4
        by_cases c5 : a0 ≤ 122
        · rw [if_pos c5] at H
          have c5b0 : decide (a0 ≤ 122) = true := decide_eq_true c5
          clear c5
          obtain rfl := Option.some.inj H
          go_enter Tryd.func16, Tryd.ntmps16
          go_wp2
          go_ret
          exact ⟨by first | rfl | (simp; done) | (simp [*]; done), by repeat (first | exact Drawn0.refl _ | apply Drawn0.step)⟩
        · rw [if_neg c5] at H
          have c5b0 : decide (a0 ≤ 122) = false := decide_eq_false c5
          clear c5
          obtain rfl := Option.some.inj H
          go_enter Tryd.func16, Tryd.ntmps16
          go_wp2
          go_ret
          exact ⟨by first | rfl | (simp; done) | (simp [*]; done), by repeat (first | exact Drawn0.refl _ | apply Drawn0.step)⟩
      · rw [if_neg c4] at H
        have c4b0 : decide (97 ≤ a0) = false := decide_eq_false c4
        clear c4
        obtain rfl := Option.some.inj H
        go_enter Tryd.func16, Tryd.ntmps16
        go_wp2
        go_ret
        exact ⟨by first | rfl | (simp; done) | (simp [*]; done), by repeat (first | exact Drawn0.refl _ | apply Drawn0.step)⟩
  · rw [if_neg c2] at H
    have c2b0 : decide (65 ≤ a0) = false := decide_eq_false c2
    clear c2
    by_cases c6 : a0 ≥ 97
    · rw [if_pos c6] at H
      have c6b0 : decide (97 ≤ a0) = true := decide_eq_true c6
      clear c6
      by_cases c7 : a0 ≤ 122
      · rw [if_pos c7] at H
        have c7b0 : decide (a0 ≤ 122) = true := decide_eq_true c7
        clear c7
        obtain rfl := Option.some.inj H
        go_enter Tryd.func16, Tryd.ntmps16
        go_wp2
        go_ret
        exact ⟨by first | rfl | (simp; done) | (simp [*]; done), by repeat (first | exact Drawn0.refl _ | apply Drawn0.step)⟩
      · rw [if_neg c7] at H
        have c7b0 : decide (a0 ≤ 122) = false := decide_eq_false c7
        clear c7
        obtain rfl := Option.some.inj H
        go_enter Tryd.func16, Tryd.ntmps16
        go_wp2
        go_ret
        exact ⟨by first | rfl | (simp; done) | (simp [*]; done), by repeat (first | exact Drawn0.refl _ | apply Drawn0.step)⟩
    · rw [if_neg c6] at H
      have c6b0 : decide (97 ≤ a0) = false := decide_eq_false c6
      clear c6
      obtain rfl := Option.some.inj H
      go_enter Tryd.func16, Tryd.ntmps16
      go_wp2
      go_ret
      exact ⟨by first | rfl | (simp; done) | (simp [*]; done), by repeat (first | exact Drawn0.refl _ | apply Drawn0.step)⟩

/-! ### tattleref13_digit: function 18 -/
def tattleref13_digit.f (a0 : Int) : Option (Bool) := if a0 ≥ 48 then (some (decide (a0 ≤ 57))) else (some false)
set_option maxHeartbeats 8000000 in
set_option maxRecDepth 100000 in
theorem tattleref13_digit.calls (a0 : Int) (r : Bool) (w : World) (h : tattleref13_digit.f a0 = some r) :
    Calls Tryd.prog 18 #[.int .u8 a0] w fun e w' => e = .returned (.bool r) ∧ Drawn0 w w' := by
  have H : (if a0 ≥ 48 then (some (decide (a0 ≤ 57))) else (some false)) = some r := h
  clear h
  by_cases c2 : a0 ≥ 48
  · rw [if_pos c2] at H
    have c2b0 : decide (48 ≤ a0) = true := decide_eq_true c2
    clear c2
    obtain rfl := Option.some.inj H
    go_enter Tryd.func18, Tryd.ntmps18
    go_wp2
    go_ret
    exact ⟨by first | rfl | (simp; done) | (simp [*]; done), by repeat (first | exact Drawn0.refl _ | apply Drawn0.step)⟩
  · rw [if_neg c2] at H
    have c2b0 : decide (48 ≤ a0) = false := decide_eq_false c2
    clear c2
    obtain rfl := Option.some.inj H
    go_enter Tryd.func18, Tryd.ntmps18
    go_wp2
    go_ret
    exact ⟨by first | rfl | (simp; done) | (simp [*]; done), by repeat (first | exact Drawn0.refl _ | apply Drawn0.step)⟩

-- NOT PRINTED: function 17 (tattleref13_lexer_name)

-- NOT PRINTED: function 19 (tattleref13_lexer_int)

-- NOT PRINTED: function 20 (tattleref13_lexer_text)

-- NOT PRINTED: function 21 (tattleref13_lexer_mark)

-- NOT PRINTED: function 9 (tattleref13_Tokens)

/-! ### tattlelaw0_SameTokens: function 10 -/
def tattlelaw0_SameTokens.l0 : Nat → List (S37) → List (S37) → Int → Option (Bool)
  | 0, _, _, _ => none
  | k + 1, x0, x1, x5 => if x5 < (x0.length : Int) then (if 0 ≤ x5 then (if x5 < (x1.length : Int) then (if (!(((rd_T37 x0 x5).f0) == ((rd_T37 x1 x5).f0)) || (!((((rd_T37 x0 x5).f1).toList) == (((rd_T37 x1 x5).f1).toList)) || (!(((rd_T37 x0 x5).f2) == ((rd_T37 x1 x5).f2)) || (!(((rd_T37 x0 x5).f3) == ((rd_T37 x1 x5).f3)))))) = true then (some false) else (tattlelaw0_SameTokens.l0 k x0 x1 (wrap64 (x5 + 1)))) else (none)) else (none)) else (some true)
def tattlelaw0_SameTokens.f (k : Nat) (l0 : List (S37)) (l1 : List (S37)) : Option (Bool) := if (l0.length : Int) = (l1.length : Int) then (tattlelaw0_SameTokens.l0 k l0 l1 0) else (some false)
theorem tattlelaw0_SameTokens.mono_l : ∀ k, (∀ y0 y1 y2, LeO (tattlelaw0_SameTokens.l0 k y0 y1 y2) (tattlelaw0_SameTokens.l0 (k + 1) y0 y1 y2))
  | 0 => fun _ _ _ r h => by simp [tattlelaw0_SameTokens.l0] at h
  | k + 1 => by
    have ih0 := tattlelaw0_SameTokens.mono_l k
    · intro y0 y1 y2
      unfold tattlelaw0_SameTokens.l0
      repeat' first
      | (with_reducible exact ih0 _ _ _)
      | (with_reducible exact LeO.refl _)
      | (with_reducible exact LeO.none _)
      | (with_reducible refine LeO.ite ?_ ?_)
      | (with_reducible refine LeO.bind ?_ (fun _ => ?_))
      | exact ih0 _ _ _
      | exact LeO.none _
      | refine LeO.ite ?_ ?_
      | refine LeO.bind ?_ (fun _ => ?_)
theorem tattlelaw0_SameTokens.mono : ∀ a0 a1 k, LeO (tattlelaw0_SameTokens.f k a0 a1) (tattlelaw0_SameTokens.f (k + 1) a0 a1) := by
  intro a0 a1 k
  have ih0 := tattlelaw0_SameTokens.mono_l k
  unfold tattlelaw0_SameTokens.f
  repeat' first
      | (with_reducible exact ih0 _ _ _)
      | (with_reducible exact LeO.refl _)
      | (with_reducible exact LeO.none _)
      | (with_reducible refine LeO.ite ?_ ?_)
      | (with_reducible refine LeO.bind ?_ (fun _ => ?_))
      | exact ih0 _ _ _
      | exact LeO.none _
      | refine LeO.ite ?_ ?_
      | refine LeO.bind ?_ (fun _ => ?_)
set_option maxHeartbeats 8000000 in
set_option maxRecDepth 100000 in
theorem tattlelaw0_SameTokens.calls (k : Nat) (A0 : Option Addr) (c0 : Nat) (l0 : List (S37)) (A1 : Option Addr) (c1 : Nat) (l1 : List (S37)) (r : Bool) (w : World) (hr0 : Kd.C k37 w A0 l0.length l0) (hc0 : l0.length ≤ c0) (hr1 : Kd.C k37 w A1 l1.length l1) (hc1 : l1.length ≤ c1) (h : tattlelaw0_SameTokens.f k l0 l1 = some r) :
    Calls Tryd.prog 10 #[.slice A0 l0.length c0, .slice A1 l1.length c1] w fun e w' => e = .returned (.bool r) ∧ Drawn0 w w' := by
  have hu37 := Tryd.underlying37
  have HR0 := Aside0.mk hr0
  have HC0 := Aside0.mk hc0
  clear hr0 hc0
  have HR1 := Aside0.mk hr1
  have HC1 := Aside0.mk hc1
  clear hr1 hc1
  have H : (if (l0.length : Int) = (l1.length : Int) then (tattlelaw0_SameTokens.l0 k l0 l1 0) else (some false)) = some r := h
  clear h
  by_cases c3 : (l0.length : Int) = (l1.length : Int)
  · rw [if_pos c3] at H
    have c3b0 : ((l0.length : Int) == (l1.length : Int)) = true := beq_iff_eq.mpr c3
    have c3b1 : ((l0.length : Int) != (l1.length : Int)) = false := bne_eq_false_iff_eq.mpr c3
    have c3b2 : (l0.length == l1.length) = true := by first | simpa using c3 | (simp at c3 ⊢; omega)
    clear c3
    have H' := Aside0.mk H
    clear H
    go_enter Tryd.func10, Tryd.ntmps10
    go_wp2
    repeat (go_quiet (fail); try go_wp2)
    go_loopg [5] k (fun kq v5 w' => ∃ (x5_1 : Int), v5 = .int .i64 x5_1 ∧ Aside0 (tattlelaw0_SameTokens.l0 kq l0 l1 x5_1 = some r) ∧ Aside0 (kq ≤ k) ∧ Drawn0 w w')
    case atStart => exact ⟨(0), (by first | rfl | (simp; done) | (simp [*]; done)), H', ⟨Nat.le_refl _⟩, by repeat (first | exact Drawn0.refl _ | apply Drawn0.step)⟩
    case round =>
      clear H'
      try clear c1
      try clear p2
      try clear c3
      try clear c3b0
      try clear c3b1
      try clear c3b2
      obtain ⟨x5_1, rfl, HA, HK1, ⟨m1, rfl⟩⟩ := hrel
      cases gk with
      | zero => exact absurd HA.out (by simp [tattlelaw0_SameTokens.l0])
      | succ k1 =>
        have H := HA.out
        clear HA
        simp only [tattlelaw0_SameTokens.l0] at H
        by_cases c4 : x5_1 < (l0.length : Int)
        · rw [if_pos c4] at H
          have c4b0 : decide (x5_1 < (l0.length : Int)) = true := decide_eq_true c4
          clear c4
          by_cases c5 : 0 ≤ x5_1
          · rw [if_pos c5] at H
            have c5b0 : decide (0 ≤ x5_1) = true := decide_eq_true c5
            clear c5
            by_cases c6 : x5_1 < (l1.length : Int)
            · rw [if_pos c6] at H
              have c6b0 : decide (x5_1 < (l1.length : Int)) = true := decide_eq_true c6
              clear c6
              by_cases c7 : (!(((rd_T37 l0 x5_1).f0) == ((rd_T37 l1 x5_1).f0)) || (!((((rd_T37 l0 x5_1).f1).toList) == (((rd_T37 l1 x5_1).f1).toList)) || (!(((rd_T37 l0 x5_1).f2) == ((rd_T37 l1 x5_1).f2)) || (!(((rd_T37 l0 x5_1).f3) == ((rd_T37 l1 x5_1).f3)))))) = true
              · rw [if_pos c7] at H
                have c7b0 : (!(((rd_T37 l0 x5_1).f0) == ((rd_T37 l1 x5_1).f0)) || (!((((rd_T37 l0 x5_1).f1).toList) == (((rd_T37 l1 x5_1).f1).toList)) || (!(((rd_T37 l0 x5_1).f2) == ((rd_T37 l1 x5_1).f2)) || (!(((rd_T37 l0 x5_1).f3) == ((rd_T37 l1 x5_1).f3)))))) = true := c7
                clear c7
                obtain rfl := Option.some.inj H
                have p138 : 0 ≤ (x5_1 : Int) := of_decide_eq_true (by first | (with_reducible assumption) | assumption)
                have q138 : x5_1 < (l0.length : Int) := of_decide_eq_true (by first | (with_reducible assumption) | assumption)
                obtain ⟨ad138, e138, hx138_0, hx138_1, hx138_2, hx138_3⟩ := at_T37 HR0.out x5_1 p138 q138
                cases e138
                replace p138 := eq_true p138
                replace q138 := eq_true q138
                have p139 : 0 ≤ (x5_1 : Int) := of_decide_eq_true (by first | (with_reducible assumption) | assumption)
                have q139 : x5_1 < (l1.length : Int) := of_decide_eq_true (by first | (with_reducible assumption) | assumption)
                obtain ⟨ad139, e139, hx139_0, hx139_1, hx139_2, hx139_3⟩ := at_T37 HR1.out x5_1 p139 q139
                cases e139
                replace p139 := eq_true p139
                replace q139 := eq_true q139
                go_wp2
                repeat (go_quiet (fail); try go_wp2)
                go_ret
                exact ⟨by first | rfl | (simp; done) | (simp [*]; done), by repeat (first | exact Drawn0.refl _ | apply Drawn0.step)⟩
              · rw [if_neg c7] at H
                have c7b0 : (!(((rd_T37 l0 x5_1).f0) == ((rd_T37 l1 x5_1).f0)) || (!((((rd_T37 l0 x5_1).f1).toList) == (((rd_T37 l1 x5_1).f1).toList)) || (!(((rd_T37 l0 x5_1).f2) == ((rd_T37 l1 x5_1).f2)) || (!(((rd_T37 l0 x5_1).f3) == ((rd_T37 l1 x5_1).f3)))))) = false := by simpa using c7
                clear c7
                have H' := Aside0.mk H
                clear H
                have p138 : 0 ≤ (x5_1 : Int) := of_decide_eq_true (by first | (with_reducible assumption) | assumption)
                have q138 : x5_1 < (l0.length : Int) := of_decide_eq_true (by first | (with_reducible assumption) | assumption)
                obtain ⟨ad138, e138, hx138_0, hx138_1, hx138_2, hx138_3⟩ := at_T37 HR0.out x5_1 p138 q138
                cases e138
                replace p138 := eq_true p138
                replace q138 := eq_true q138
                have p139 : 0 ≤ (x5_1 : Int) := of_decide_eq_true (by first | (with_reducible assumption) | assumption)
                have q139 : x5_1 < (l1.length : Int) := of_decide_eq_true (by first | (with_reducible assumption) | assumption)
                obtain ⟨ad139, e139, hx139_0, hx139_1, hx139_2, hx139_3⟩ := at_T37 HR1.out x5_1 p139 q139
                cases e139
                replace p139 := eq_true p139
                replace q139 := eq_true q139
                go_wp2
                repeat (go_quiet (fail); try go_wp2)
                go_roundg k1
                case measure => have := HK1.out; omega
                case rel => exact ⟨(wrap64 (x5_1 + 1)), (by first | rfl | (simp; done) | (simp [*]; done)), H', ⟨by have := HK1.out; omega⟩, by repeat (first | exact Drawn0.refl _ | apply Drawn0.step)⟩
            · rw [if_neg c6] at H
              exact absurd H (by simp)
          · rw [if_neg c5] at H
            exact absurd H (by simp)
        · rw [if_neg c4] at H
          have c4b0 : decide (x5_1 < (l0.length : Int)) = false := decide_eq_false c4
          clear c4
          obtain rfl := Option.some.inj H
          go_wp2
          repeat (go_quiet (fail); try go_wp2)
          go_ret
          exact ⟨by first | rfl | (simp; done) | (simp [*]; done), by repeat (first | exact Drawn0.refl _ | apply Drawn0.step)⟩
  · rw [if_neg c3] at H
    have c3b0 : ((l0.length : Int) == (l1.length : Int)) = false := beq_eq_false_iff_ne.mpr c3
    have c3b1 : ((l0.length : Int) != (l1.length : Int)) = true := bne_iff_ne.mpr c3
    have c3b2 : (l0.length == l1.length) = false := by first | simpa using c3 | (simp at c3 ⊢; omega)
    obtain rfl := Option.some.inj H
    go_enter Tryd.func10, Tryd.ntmps10
    go_wp2
    repeat (go_quiet (fail); try go_wp2)
    go_ret
    exact ⟨by first | rfl | (simp; done) | (simp [*]; done), by repeat (first | exact Drawn0.refl _ | apply Drawn0.step)⟩

/-! ### tattlelaw0_Num: function 11 -/
def tattlelaw0_Num.f (a0 : Int) : Option (Int) := some a0
set_option maxHeartbeats 8000000 in
set_option maxRecDepth 100000 in
theorem tattlelaw0_Num.calls (a0 : Int) (r : Int) (w : World) (h : tattlelaw0_Num.f a0 = some r) :
    Calls Tryd.prog 11 #[.int .i64 a0] w fun e w' => e = .returned (.int .i64 r) ∧ Drawn0 w w' := by
  have H : (some a0) = some r := h
  clear h
  obtain rfl := Option.some.inj H
  go_enter Tryd.func11, Tryd.ntmps11
  go_wp2
  go_ret
  exact ⟨by first | rfl | (simp; done) | (simp [*]; done), by repeat (first | exact Drawn0.refl _ | apply Drawn0.step)⟩

/-! ### tattlelaw13_awake: function 12 -/
def tattlelaw13_awake.f (k : Nat)  : Option (Bool) := (lex_Tokens.f (⟨#[123, 97, 40, 98, 58, 45, 49, 50, 44, 99, 58, 34, 120, 92, 34, 92, 110, 34, 41, 46, 46, 46, 35, 113, 10, 36, 95, 49, 125]⟩ : ByteArray)).bind fun bt140 => ((lex_Tokens.f (⟨#[97, 37]⟩ : ByteArray)).bind fun bt144 => ((lex_Tokens.f (⟨#[34, 97]⟩ : ByteArray)).bind fun bt148 => ((lex_Tokens.f (⟨#[49, 50, 97]⟩ : ByteArray)).bind fun bt152 => ((tattlelaw0_SameTokens.f k bt140.1 (([(⟨3, (⟨#[123]⟩ : ByteArray), 0, 0⟩ : S37), (⟨0, (⟨#[97]⟩ : ByteArray), 0, 1⟩ : S37), (⟨3, (⟨#[40]⟩ : ByteArray), 0, 2⟩ : S37), (⟨0, (⟨#[98]⟩ : ByteArray), 0, 3⟩ : S37), (⟨3, (⟨#[58]⟩ : ByteArray), 0, 4⟩ : S37), (⟨1, (⟨#[]⟩ : ByteArray), (-12), 5⟩ : S37), (⟨0, (⟨#[99]⟩ : ByteArray), 0, 9⟩ : S37), (⟨3, (⟨#[58]⟩ : ByteArray), 0, 10⟩ : S37), (⟨2, (⟨#[120, 34, 10]⟩ : ByteArray), 0, 11⟩ : S37), (⟨3, (⟨#[41]⟩ : ByteArray), 0, 18⟩ : S37), (⟨3, (⟨#[46, 46, 46]⟩ : ByteArray), 0, 19⟩ : S37), (⟨3, (⟨#[36]⟩ : ByteArray), 0, 25⟩ : S37), (⟨0, (⟨#[95, 49]⟩ : ByteArray), 0, 26⟩ : S37), (⟨3, (⟨#[125]⟩ : ByteArray), 0, 28⟩ : S37)] : List (S37)))).bind fun t159 => (if t159 = true then ((tattlelaw0_Num.f bt140.2).bind fun t160 => (if t160 = 0 then ((tattlelaw0_Num.f bt144.2).bind fun t161 => (if t161 = 1300 then ((tattlelaw0_Num.f bt148.2).bind fun t162 => (if t162 = 1301 then ((tattlelaw0_Num.f bt152.2).bind fun t163 => (some (t163 == 1300))) else (some false))) else (some false))) else (some false))) else (some false))))))
theorem tattlelaw13_awake.mono : ∀ k, LeO (tattlelaw13_awake.f k ) (tattlelaw13_awake.f (k + 1) ) := by
  intro  k
  unfold tattlelaw13_awake.f
  repeat' first
      | (with_reducible exact tattlelaw0_SameTokens.mono _ _ _)
      | (with_reducible exact LeO.refl _)
      | (with_reducible exact LeO.none _)
      | (with_reducible refine LeO.ite ?_ ?_)
      | (with_reducible refine LeO.bind ?_ (fun _ => ?_))
      | exact tattlelaw0_SameTokens.mono _ _ _
      | exact LeO.none _
      | refine LeO.ite ?_ ?_
      | refine LeO.bind ?_ (fun _ => ?_)
set_option maxHeartbeats 8000000 in
set_option maxRecDepth 100000 in
theorem tattlelaw13_awake.calls (k : Nat)  (r : Bool) (w : World) (h : tattlelaw13_awake.f k  = some r) :
    Calls Tryd.prog 12 #[] w fun e w' => e = .returned (.bool r) ∧ Below w.heap.size w w' := by
  have hu37 := Tryd.underlying37
  have HB := Aside0.mk (Below.refl w.heap.size w)
  have H : ((lex_Tokens.f (⟨#[123, 97, 40, 98, 58, 45, 49, 50, 44, 99, 58, 34, 120, 92, 34, 92, 110, 34, 41, 46, 46, 46, 35, 113, 10, 36, 95, 49, 125]⟩ : ByteArray)).bind fun bt140 => ((lex_Tokens.f (⟨#[97, 37]⟩ : ByteArray)).bind fun bt144 => ((lex_Tokens.f (⟨#[34, 97]⟩ : ByteArray)).bind fun bt148 => ((lex_Tokens.f (⟨#[49, 50, 97]⟩ : ByteArray)).bind fun bt152 => ((tattlelaw0_SameTokens.f k bt140.1 (([(⟨3, (⟨#[123]⟩ : ByteArray), 0, 0⟩ : S37), (⟨0, (⟨#[97]⟩ : ByteArray), 0, 1⟩ : S37), (⟨3, (⟨#[40]⟩ : ByteArray), 0, 2⟩ : S37), (⟨0, (⟨#[98]⟩ : ByteArray), 0, 3⟩ : S37), (⟨3, (⟨#[58]⟩ : ByteArray), 0, 4⟩ : S37), (⟨1, (⟨#[]⟩ : ByteArray), (-12), 5⟩ : S37), (⟨0, (⟨#[99]⟩ : ByteArray), 0, 9⟩ : S37), (⟨3, (⟨#[58]⟩ : ByteArray), 0, 10⟩ : S37), (⟨2, (⟨#[120, 34, 10]⟩ : ByteArray), 0, 11⟩ : S37), (⟨3, (⟨#[41]⟩ : ByteArray), 0, 18⟩ : S37), (⟨3, (⟨#[46, 46, 46]⟩ : ByteArray), 0, 19⟩ : S37), (⟨3, (⟨#[36]⟩ : ByteArray), 0, 25⟩ : S37), (⟨0, (⟨#[95, 49]⟩ : ByteArray), 0, 26⟩ : S37), (⟨3, (⟨#[125]⟩ : ByteArray), 0, 28⟩ : S37)] : List (S37)))).bind fun t159 => (if t159 = true then ((tattlelaw0_Num.f bt140.2).bind fun t160 => (if t160 = 0 then ((tattlelaw0_Num.f bt144.2).bind fun t161 => (if t161 = 1300 then ((tattlelaw0_Num.f bt148.2).bind fun t162 => (if t162 = 1301 then ((tattlelaw0_Num.f bt152.2).bind fun t163 => (some (t163 == 1300))) else (some false))) else (some false))) else (some false))) else (some false))))))) = some r := h
  clear h
  replace H := Option.bind_eq_some_iff.mp H
  obtain ⟨⟨t140, t141⟩, A10, H⟩ := H
  replace H : ((lex_Tokens.f (⟨#[97, 37]⟩ : ByteArray)).bind fun bt144 => ((lex_Tokens.f (⟨#[34, 97]⟩ : ByteArray)).bind fun bt148 => ((lex_Tokens.f (⟨#[49, 50, 97]⟩ : ByteArray)).bind fun bt152 => ((tattlelaw0_SameTokens.f k t140 (([(⟨3, (⟨#[123]⟩ : ByteArray), 0, 0⟩ : S37), (⟨0, (⟨#[97]⟩ : ByteArray), 0, 1⟩ : S37), (⟨3, (⟨#[40]⟩ : ByteArray), 0, 2⟩ : S37), (⟨0, (⟨#[98]⟩ : ByteArray), 0, 3⟩ : S37), (⟨3, (⟨#[58]⟩ : ByteArray), 0, 4⟩ : S37), (⟨1, (⟨#[]⟩ : ByteArray), (-12), 5⟩ : S37), (⟨0, (⟨#[99]⟩ : ByteArray), 0, 9⟩ : S37), (⟨3, (⟨#[58]⟩ : ByteArray), 0, 10⟩ : S37), (⟨2, (⟨#[120, 34, 10]⟩ : ByteArray), 0, 11⟩ : S37), (⟨3, (⟨#[41]⟩ : ByteArray), 0, 18⟩ : S37), (⟨3, (⟨#[46, 46, 46]⟩ : ByteArray), 0, 19⟩ : S37), (⟨3, (⟨#[36]⟩ : ByteArray), 0, 25⟩ : S37), (⟨0, (⟨#[95, 49]⟩ : ByteArray), 0, 26⟩ : S37), (⟨3, (⟨#[125]⟩ : ByteArray), 0, 28⟩ : S37)] : List (S37)))).bind fun t159 => (if t159 = true then ((tattlelaw0_Num.f t141).bind fun t160 => (if t160 = 0 then ((tattlelaw0_Num.f bt144.2).bind fun t161 => (if t161 = 1300 then ((tattlelaw0_Num.f bt148.2).bind fun t162 => (if t162 = 1301 then ((tattlelaw0_Num.f bt152.2).bind fun t163 => (some (t163 == 1300))) else (some false))) else (some false))) else (some false))) else (some false)))))) = some r := H
  have A1 := Aside0.mk A10
  clear A10
  replace H := Option.bind_eq_some_iff.mp H
  obtain ⟨⟨t144, t145⟩, A20, H⟩ := H
  replace H : ((lex_Tokens.f (⟨#[34, 97]⟩ : ByteArray)).bind fun bt148 => ((lex_Tokens.f (⟨#[49, 50, 97]⟩ : ByteArray)).bind fun bt152 => ((tattlelaw0_SameTokens.f k t140 (([(⟨3, (⟨#[123]⟩ : ByteArray), 0, 0⟩ : S37), (⟨0, (⟨#[97]⟩ : ByteArray), 0, 1⟩ : S37), (⟨3, (⟨#[40]⟩ : ByteArray), 0, 2⟩ : S37), (⟨0, (⟨#[98]⟩ : ByteArray), 0, 3⟩ : S37), (⟨3, (⟨#[58]⟩ : ByteArray), 0, 4⟩ : S37), (⟨1, (⟨#[]⟩ : ByteArray), (-12), 5⟩ : S37), (⟨0, (⟨#[99]⟩ : ByteArray), 0, 9⟩ : S37), (⟨3, (⟨#[58]⟩ : ByteArray), 0, 10⟩ : S37), (⟨2, (⟨#[120, 34, 10]⟩ : ByteArray), 0, 11⟩ : S37), (⟨3, (⟨#[41]⟩ : ByteArray), 0, 18⟩ : S37), (⟨3, (⟨#[46, 46, 46]⟩ : ByteArray), 0, 19⟩ : S37), (⟨3, (⟨#[36]⟩ : ByteArray), 0, 25⟩ : S37), (⟨0, (⟨#[95, 49]⟩ : ByteArray), 0, 26⟩ : S37), (⟨3, (⟨#[125]⟩ : ByteArray), 0, 28⟩ : S37)] : List (S37)))).bind fun t159 => (if t159 = true then ((tattlelaw0_Num.f t141).bind fun t160 => (if t160 = 0 then ((tattlelaw0_Num.f t145).bind fun t161 => (if t161 = 1300 then ((tattlelaw0_Num.f bt148.2).bind fun t162 => (if t162 = 1301 then ((tattlelaw0_Num.f bt152.2).bind fun t163 => (some (t163 == 1300))) else (some false))) else (some false))) else (some false))) else (some false))))) = some r := H
  have A2 := Aside0.mk A20
  clear A20
  replace H := Option.bind_eq_some_iff.mp H
  obtain ⟨⟨t148, t149⟩, A30, H⟩ := H
  replace H : ((lex_Tokens.f (⟨#[49, 50, 97]⟩ : ByteArray)).bind fun bt152 => ((tattlelaw0_SameTokens.f k t140 (([(⟨3, (⟨#[123]⟩ : ByteArray), 0, 0⟩ : S37), (⟨0, (⟨#[97]⟩ : ByteArray), 0, 1⟩ : S37), (⟨3, (⟨#[40]⟩ : ByteArray), 0, 2⟩ : S37), (⟨0, (⟨#[98]⟩ : ByteArray), 0, 3⟩ : S37), (⟨3, (⟨#[58]⟩ : ByteArray), 0, 4⟩ : S37), (⟨1, (⟨#[]⟩ : ByteArray), (-12), 5⟩ : S37), (⟨0, (⟨#[99]⟩ : ByteArray), 0, 9⟩ : S37), (⟨3, (⟨#[58]⟩ : ByteArray), 0, 10⟩ : S37), (⟨2, (⟨#[120, 34, 10]⟩ : ByteArray), 0, 11⟩ : S37), (⟨3, (⟨#[41]⟩ : ByteArray), 0, 18⟩ : S37), (⟨3, (⟨#[46, 46, 46]⟩ : ByteArray), 0, 19⟩ : S37), (⟨3, (⟨#[36]⟩ : ByteArray), 0, 25⟩ : S37), (⟨0, (⟨#[95, 49]⟩ : ByteArray), 0, 26⟩ : S37), (⟨3, (⟨#[125]⟩ : ByteArray), 0, 28⟩ : S37)] : List (S37)))).bind fun t159 => (if t159 = true then ((tattlelaw0_Num.f t141).bind fun t160 => (if t160 = 0 then ((tattlelaw0_Num.f t145).bind fun t161 => (if t161 = 1300 then ((tattlelaw0_Num.f t149).bind fun t162 => (if t162 = 1301 then ((tattlelaw0_Num.f bt152.2).bind fun t163 => (some (t163 == 1300))) else (some false))) else (some false))) else (some false))) else (some false)))) = some r := H
  have A3 := Aside0.mk A30
  clear A30
  replace H := Option.bind_eq_some_iff.mp H
  obtain ⟨⟨t152, t153⟩, A40, H⟩ := H
  replace H : ((tattlelaw0_SameTokens.f k t140 (([(⟨3, (⟨#[123]⟩ : ByteArray), 0, 0⟩ : S37), (⟨0, (⟨#[97]⟩ : ByteArray), 0, 1⟩ : S37), (⟨3, (⟨#[40]⟩ : ByteArray), 0, 2⟩ : S37), (⟨0, (⟨#[98]⟩ : ByteArray), 0, 3⟩ : S37), (⟨3, (⟨#[58]⟩ : ByteArray), 0, 4⟩ : S37), (⟨1, (⟨#[]⟩ : ByteArray), (-12), 5⟩ : S37), (⟨0, (⟨#[99]⟩ : ByteArray), 0, 9⟩ : S37), (⟨3, (⟨#[58]⟩ : ByteArray), 0, 10⟩ : S37), (⟨2, (⟨#[120, 34, 10]⟩ : ByteArray), 0, 11⟩ : S37), (⟨3, (⟨#[41]⟩ : ByteArray), 0, 18⟩ : S37), (⟨3, (⟨#[46, 46, 46]⟩ : ByteArray), 0, 19⟩ : S37), (⟨3, (⟨#[36]⟩ : ByteArray), 0, 25⟩ : S37), (⟨0, (⟨#[95, 49]⟩ : ByteArray), 0, 26⟩ : S37), (⟨3, (⟨#[125]⟩ : ByteArray), 0, 28⟩ : S37)] : List (S37)))).bind fun t159 => (if t159 = true then ((tattlelaw0_Num.f t141).bind fun t160 => (if t160 = 0 then ((tattlelaw0_Num.f t145).bind fun t161 => (if t161 = 1300 then ((tattlelaw0_Num.f t149).bind fun t162 => (if t162 = 1301 then ((tattlelaw0_Num.f t153).bind fun t163 => (some (t163 == 1300))) else (some false))) else (some false))) else (some false))) else (some false))) = some r := H
  have A4 := Aside0.mk A40
  clear A40
  obtain ⟨y156, hy156⟩ : ∃ y_ : List (S37), y_ = (([(⟨3, (⟨#[123]⟩ : ByteArray), 0, 0⟩ : S37), (⟨0, (⟨#[97]⟩ : ByteArray), 0, 1⟩ : S37), (⟨3, (⟨#[40]⟩ : ByteArray), 0, 2⟩ : S37), (⟨0, (⟨#[98]⟩ : ByteArray), 0, 3⟩ : S37), (⟨3, (⟨#[58]⟩ : ByteArray), 0, 4⟩ : S37), (⟨1, (⟨#[]⟩ : ByteArray), (-12), 5⟩ : S37), (⟨0, (⟨#[99]⟩ : ByteArray), 0, 9⟩ : S37), (⟨3, (⟨#[58]⟩ : ByteArray), 0, 10⟩ : S37), (⟨2, (⟨#[120, 34, 10]⟩ : ByteArray), 0, 11⟩ : S37), (⟨3, (⟨#[41]⟩ : ByteArray), 0, 18⟩ : S37), (⟨3, (⟨#[46, 46, 46]⟩ : ByteArray), 0, 19⟩ : S37), (⟨3, (⟨#[36]⟩ : ByteArray), 0, 25⟩ : S37), (⟨0, (⟨#[95, 49]⟩ : ByteArray), 0, 26⟩ : S37), (⟨3, (⟨#[125]⟩ : ByteArray), 0, 28⟩ : S37)] : List (S37))) := ⟨_, rfl⟩
  replace H : ((tattlelaw0_SameTokens.f k t140 y156).bind fun t159 => (if t159 = true then ((tattlelaw0_Num.f t141).bind fun t160 => (if t160 = 0 then ((tattlelaw0_Num.f t145).bind fun t161 => (if t161 = 1300 then ((tattlelaw0_Num.f t149).bind fun t162 => (if t162 = 1301 then ((tattlelaw0_Num.f t153).bind fun t163 => (some (t163 == 1300))) else (some false))) else (some false))) else (some false))) else (some false))) = some r := by first | (rw [hy156]; with_reducible exact H) | (have H2_ := (Option.bind_some _ _).symm.trans H; rw [hy156]; with_reducible exact H2_) | (have H2_ := (Option.bind_some _ _).symm.trans H; with_reducible exact H2_) | with_reducible exact H | (rw [hy156]; exact H) | exact H
  have Ny156 := Aside0.mk hy156
  clear hy156
  replace H := Option.bind_eq_some_iff.mp H
  obtain ⟨t159, A50, H⟩ := H
  replace H : (if t159 = true then ((tattlelaw0_Num.f t141).bind fun t160 => (if t160 = 0 then ((tattlelaw0_Num.f t145).bind fun t161 => (if t161 = 1300 then ((tattlelaw0_Num.f t149).bind fun t162 => (if t162 = 1301 then ((tattlelaw0_Num.f t153).bind fun t163 => (some (t163 == 1300))) else (some false))) else (some false))) else (some false))) else (some false)) = some r := H
  have A5 := Aside0.mk A50
  clear A50
  by_cases c6 : t159 = true
  · subst c6
    have H1 : ((tattlelaw0_Num.f t141).bind fun t160 => (if t160 = 0 then ((tattlelaw0_Num.f t145).bind fun t161 => (if t161 = 1300 then ((tattlelaw0_Num.f t149).bind fun t162 => (if t162 = 1301 then ((tattlelaw0_Num.f t153).bind fun t163 => (some (t163 == 1300))) else (some false))) else (some false))) else (some false))) = some r := by rw [if_pos rfl] at H; exact H
    clear H
    have H := H1
    clear H1
    replace H := Option.bind_eq_some_iff.mp H
    obtain ⟨t160, A70, H⟩ := H
    replace H : (if t160 = 0 then ((tattlelaw0_Num.f t145).bind fun t161 => (if t161 = 1300 then ((tattlelaw0_Num.f t149).bind fun t162 => (if t162 = 1301 then ((tattlelaw0_Num.f t153).bind fun t163 => (some (t163 == 1300))) else (some false))) else (some false))) else (some false)) = some r := H
    have A7 := Aside0.mk A70
    clear A70
    by_cases c8 : t160 = 0
    · rw [if_pos c8] at H
      have c8b0 : (t160 == 0) = true := beq_iff_eq.mpr c8
      have c8b1 : (t160 != 0) = false := bne_eq_false_iff_eq.mpr c8
      clear c8
      replace H := Option.bind_eq_some_iff.mp H
      obtain ⟨t161, A90, H⟩ := H
      replace H : (if t161 = 1300 then ((tattlelaw0_Num.f t149).bind fun t162 => (if t162 = 1301 then ((tattlelaw0_Num.f t153).bind fun t163 => (some (t163 == 1300))) else (some false))) else (some false)) = some r := H
      have A9 := Aside0.mk A90
      clear A90
      by_cases c10 : t161 = 1300
      · rw [if_pos c10] at H
        have c10b0 : (t161 == 1300) = true := beq_iff_eq.mpr c10
        have c10b1 : (t161 != 1300) = false := bne_eq_false_iff_eq.mpr c10
        clear c10
        replace H := Option.bind_eq_some_iff.mp H
        obtain ⟨t162, A110, H⟩ := H
        replace H : (if t162 = 1301 then ((tattlelaw0_Num.f t153).bind fun t163 => (some (t163 == 1300))) else (some false)) = some r := H
        have A11 := Aside0.mk A110
        clear A110
        by_cases c12 : t162 = 1301
        · rw [if_pos c12] at H
          have c12b0 : (t162 == 1301) = true := beq_iff_eq.mpr c12
          have c12b1 : (t162 != 1301) = false := bne_eq_false_iff_eq.mpr c12
          clear c12
          replace H := Option.bind_eq_some_iff.mp H
          obtain ⟨t163, A130, H⟩ := H
          replace H : (some (t163 == 1300)) = some r := H
          have A13 := Aside0.mk A130
          clear A130
          obtain rfl := Option.some.inj H
          go_enter Tryd.func12, Tryd.ntmps12
          go_wp2_with (first | ((with_reducible refine gate_callee (f := 8) rfl ?_); refine goesL_ (some 11) rfl rfl Tryd.func8 (by kernel_rfl) rfl #[.string (⟨#[123, 97, 40, 98, 58, 45, 49, 50, 44, 99, 58, 34, 120, 92, 34, 92, 110, 34, 41, 46, 46, 46, 35, 113, 10, 36, 95, 49, 125]⟩ : ByteArray)] rfl (by (try simp only [List.map_toArray, List.map_cons, List.map_nil]); first | done | rfl | (simp only [List.length_drop, List.length_take]; rfl)) ?_; (with_reducible refine (lex_Tokens.calls (⟨#[123, 97, 40, 98, 58, 45, 49, 50, 44, 99, 58, 34, 120, 92, 34, 92, 110, 34, 41, 46, 46, 46, 35, 113, 10, 36, 95, 49, 125]⟩ : ByteArray) t140 t141 _ A1.out).mono ?_); rintro e w14 ⟨v142, rfl, ho0, hb⟩; refine ⟨_, rfl, ?_⟩; have n0_ := Aside0.mk (Kd.R_lower ho0 (below_size (by repeat (first | (with_reducible first | exact HB.out | apply below_alloc | apply pw_below_drewN | apply below_drew1) | exact HB.out)))); have n1_ := Aside0.mk (below_step (by repeat (first | (with_reducible first | exact HB.out | apply below_alloc | apply pw_below_drewN | apply below_drew1) | exact HB.out)) hb); clear HB; have HO143 := n0_; have HB := n1_; clear n0_ n1_; (try clear hb); (try clear hb2); (try clear hk); (try clear hi); (try clear ho0)) | ((with_reducible refine gate_callee (f := 8) rfl ?_); refine goesL_ (some 15) rfl rfl Tryd.func8 (by kernel_rfl) rfl #[.string (⟨#[97, 37]⟩ : ByteArray)] rfl (by (try simp only [List.map_toArray, List.map_cons, List.map_nil]); first | done | rfl | (simp only [List.length_drop, List.length_take]; rfl)) ?_; (with_reducible refine (lex_Tokens.calls (⟨#[97, 37]⟩ : ByteArray) t144 t145 _ A2.out).mono ?_); rintro e w15 ⟨v146, rfl, ho0, hb⟩; refine ⟨_, rfl, ?_⟩; have n0_ := Aside0.mk (Kd.R_elder' (by (with_reducible repeat (first | apply Kd.R_alloc | apply Kd.R_drewN | apply Kd.R_drew)); exact HO143.out) (Kd.R_base ho0) hb); have n1_ := Aside0.mk (Kd.R_lower (Kd.R_new' ho0 (Kd.R_lt (by (with_reducible repeat (first | apply Kd.R_alloc | apply Kd.R_drewN | apply Kd.R_drew)); exact HO143.out))) (below_size (by repeat (first | (with_reducible first | exact HB.out | apply below_alloc | apply pw_below_drewN | apply below_drew1) | exact HB.out)))); have n2_ := Aside0.mk (below_step (by repeat (first | (with_reducible first | exact HB.out | apply below_alloc | apply pw_below_drewN | apply below_drew1) | exact HB.out)) hb); clear HO143; clear HB; have HO143 := n0_; have HO147 := n1_; have HB := n2_; clear n0_ n1_ n2_; (try clear hb); (try clear hb2); (try clear hk); (try clear hi); (try clear ho0)) | ((with_reducible refine gate_callee (f := 8) rfl ?_); refine goesL_ (some 19) rfl rfl Tryd.func8 (by kernel_rfl) rfl #[.string (⟨#[34, 97]⟩ : ByteArray)] rfl (by (try simp only [List.map_toArray, List.map_cons, List.map_nil]); first | done | rfl | (simp only [List.length_drop, List.length_take]; rfl)) ?_; (with_reducible refine (lex_Tokens.calls (⟨#[34, 97]⟩ : ByteArray) t148 t149 _ A3.out).mono ?_); rintro e w16 ⟨v150, rfl, ho0, hb⟩; refine ⟨_, rfl, ?_⟩; have n0_ := Aside0.mk (Kd.R_elder' (by (with_reducible repeat (first | apply Kd.R_alloc | apply Kd.R_drewN | apply Kd.R_drew)); exact HO143.out) (Kd.R_base ho0) hb); have n1_ := Aside0.mk (Kd.R_elder' (by (with_reducible repeat (first | apply Kd.R_alloc | apply Kd.R_drewN | apply Kd.R_drew)); exact HO147.out) (Kd.R_base ho0) hb); have n2_ := Aside0.mk (Kd.R_lower (Kd.R_new' (Kd.R_new' ho0 (Kd.R_lt (by (with_reducible repeat (first | apply Kd.R_alloc | apply Kd.R_drewN | apply Kd.R_drew)); exact HO143.out))) (Kd.R_lt (by (with_reducible repeat (first | apply Kd.R_alloc | apply Kd.R_drewN | apply Kd.R_drew)); exact HO147.out))) (below_size (by repeat (first | (with_reducible first | exact HB.out | apply below_alloc | apply pw_below_drewN | apply below_drew1) | exact HB.out)))); have n3_ := Aside0.mk (below_step (by repeat (first | (with_reducible first | exact HB.out | apply below_alloc | apply pw_below_drewN | apply below_drew1) | exact HB.out)) hb); clear HO143; clear HO147; clear HB; have HO143 := n0_; have HO147 := n1_; have HO151 := n2_; have HB := n3_; clear n0_ n1_ n2_ n3_; (try clear hb); (try clear hb2); (try clear hk); (try clear hi); (try clear ho0)) | ((with_reducible refine gate_callee (f := 8) rfl ?_); refine goesL_ (some 23) rfl rfl Tryd.func8 (by kernel_rfl) rfl #[.string (⟨#[49, 50, 97]⟩ : ByteArray)] rfl (by (try simp only [List.map_toArray, List.map_cons, List.map_nil]); first | done | rfl | (simp only [List.length_drop, List.length_take]; rfl)) ?_; (with_reducible refine (lex_Tokens.calls (⟨#[49, 50, 97]⟩ : ByteArray) t152 t153 _ A4.out).mono ?_); rintro e w17 ⟨v154, rfl, ho0, hb⟩; refine ⟨_, rfl, ?_⟩; have n0_ := Aside0.mk (Kd.R_elder' (by (with_reducible repeat (first | apply Kd.R_alloc | apply Kd.R_drewN | apply Kd.R_drew)); exact HO143.out) (Kd.R_base ho0) hb); have n1_ := Aside0.mk (Kd.R_elder' (by (with_reducible repeat (first | apply Kd.R_alloc | apply Kd.R_drewN | apply Kd.R_drew)); exact HO147.out) (Kd.R_base ho0) hb); have n2_ := Aside0.mk (Kd.R_elder' (by (with_reducible repeat (first | apply Kd.R_alloc | apply Kd.R_drewN | apply Kd.R_drew)); exact HO151.out) (Kd.R_base ho0) hb); have n3_ := Aside0.mk (Kd.R_lower (Kd.R_new' (Kd.R_new' (Kd.R_new' ho0 (Kd.R_lt (by (with_reducible repeat (first | apply Kd.R_alloc | apply Kd.R_drewN | apply Kd.R_drew)); exact HO143.out))) (Kd.R_lt (by (with_reducible repeat (first | apply Kd.R_alloc | apply Kd.R_drewN | apply Kd.R_drew)); exact HO147.out))) (Kd.R_lt (by (with_reducible repeat (first | apply Kd.R_alloc | apply Kd.R_drewN | apply Kd.R_drew)); exact HO151.out))) (below_size (by repeat (first | (with_reducible first | exact HB.out | apply below_alloc | apply pw_below_drewN | apply below_drew1) | exact HB.out)))); have n4_ := Aside0.mk (below_step (by repeat (first | (with_reducible first | exact HB.out | apply below_alloc | apply pw_below_drewN | apply below_drew1) | exact HB.out)) hb); clear HO143; clear HO147; clear HO151; clear HB; have HO143 := n0_; have HO147 := n1_; have HO151 := n2_; have HO155 := n3_; have HB := n4_; clear n0_ n1_ n2_ n3_ n4_; (try clear hb); (try clear hb2); (try clear hk); (try clear hi); (try clear ho0)) | ((with_reducible refine gate_dst (N := 40) rfl ?_); refine Kd.R_lit k37 _ 37 ?hg (N := 40) ?hd (xs := ([(⟨3, (⟨#[123]⟩ : ByteArray), 0, 0⟩ : S37), (⟨0, (⟨#[97]⟩ : ByteArray), 0, 1⟩ : S37), (⟨3, (⟨#[40]⟩ : ByteArray), 0, 2⟩ : S37), (⟨0, (⟨#[98]⟩ : ByteArray), 0, 3⟩ : S37), (⟨3, (⟨#[58]⟩ : ByteArray), 0, 4⟩ : S37), (⟨1, (⟨#[]⟩ : ByteArray), (-12), 5⟩ : S37), (⟨0, (⟨#[99]⟩ : ByteArray), 0, 9⟩ : S37), (⟨3, (⟨#[58]⟩ : ByteArray), 0, 10⟩ : S37), (⟨2, (⟨#[120, 34, 10]⟩ : ByteArray), 0, 11⟩ : S37), (⟨3, (⟨#[41]⟩ : ByteArray), 0, 18⟩ : S37), (⟨3, (⟨#[46, 46, 46]⟩ : ByteArray), 0, 19⟩ : S37), (⟨3, (⟨#[36]⟩ : ByteArray), 0, 25⟩ : S37), (⟨0, (⟨#[95, 49]⟩ : ByteArray), 0, 26⟩ : S37), (⟨3, (⟨#[125]⟩ : ByteArray), 0, 28⟩ : S37)] : List (S37))) (inner := [.int .i64 3, .string (⟨#[123]⟩ : ByteArray), .int .i64 0, .int .i64 0, .int .i64 0, .string (⟨#[97]⟩ : ByteArray), .int .i64 0, .int .i64 1, .int .i64 3, .string (⟨#[40]⟩ : ByteArray), .int .i64 0, .int .i64 2, .int .i64 0, .string (⟨#[98]⟩ : ByteArray), .int .i64 0, .int .i64 3, .int .i64 3, .string (⟨#[58]⟩ : ByteArray), .int .i64 0, .int .i64 4, .int .i64 1, .string (⟨#[]⟩ : ByteArray), .int .i64 (-12), .int .i64 5, .int .i64 0, .string (⟨#[99]⟩ : ByteArray), .int .i64 0, .int .i64 9, .int .i64 3, .string (⟨#[58]⟩ : ByteArray), .int .i64 0, .int .i64 10, .int .i64 2, .string (⟨#[120, 34, 10]⟩ : ByteArray), .int .i64 0, .int .i64 11, .int .i64 3, .string (⟨#[41]⟩ : ByteArray), .int .i64 0, .int .i64 18, .int .i64 3, .string (⟨#[46, 46, 46]⟩ : ByteArray), .int .i64 0, .int .i64 19, .int .i64 3, .string (⟨#[36]⟩ : ByteArray), .int .i64 0, .int .i64 25, .int .i64 0, .string (⟨#[95, 49]⟩ : ByteArray), .int .i64 0, .int .i64 26, .int .i64 3, .string (⟨#[125]⟩ : ByteArray), .int .i64 0, .int .i64 28]) (ok := fun _ => True) (okp := fun _ => True) ?hr ?hp (fun _ hk => hk) trivial (Below.refl _ _) (Nat.le_refl _) (by simp) ?_; (case hd => rfl); (case hg => rfl); (case hr => first | (go_simp; done) | (go_simp; rfl)); (case hp => exact (Reps.c4 (show Kd.M k37 _ _ _ (⟨3, (⟨#[123]⟩ : ByteArray), 0, 0⟩ : S37) [.int .i64 3, .string (⟨#[123]⟩ : ByteArray), .int .i64 0, .int .i64 0] from (k37_mkM _ _ _ (⟨3, (⟨#[123]⟩ : ByteArray), 0, 0⟩ : S37) )) (Reps.c4 (show Kd.M k37 _ _ _ (⟨0, (⟨#[97]⟩ : ByteArray), 0, 1⟩ : S37) [.int .i64 0, .string (⟨#[97]⟩ : ByteArray), .int .i64 0, .int .i64 1] from (k37_mkM _ _ _ (⟨0, (⟨#[97]⟩ : ByteArray), 0, 1⟩ : S37) )) (Reps.c4 (show Kd.M k37 _ _ _ (⟨3, (⟨#[40]⟩ : ByteArray), 0, 2⟩ : S37) [.int .i64 3, .string (⟨#[40]⟩ : ByteArray), .int .i64 0, .int .i64 2] from (k37_mkM _ _ _ (⟨3, (⟨#[40]⟩ : ByteArray), 0, 2⟩ : S37) )) (Reps.c4 (show Kd.M k37 _ _ _ (⟨0, (⟨#[98]⟩ : ByteArray), 0, 3⟩ : S37) [.int .i64 0, .string (⟨#[98]⟩ : ByteArray), .int .i64 0, .int .i64 3] from (k37_mkM _ _ _ (⟨0, (⟨#[98]⟩ : ByteArray), 0, 3⟩ : S37) )) (Reps.c4 (show Kd.M k37 _ _ _ (⟨3, (⟨#[58]⟩ : ByteArray), 0, 4⟩ : S37) [.int .i64 3, .string (⟨#[58]⟩ : ByteArray), .int .i64 0, .int .i64 4] from (k37_mkM _ _ _ (⟨3, (⟨#[58]⟩ : ByteArray), 0, 4⟩ : S37) )) (Reps.c4 (show Kd.M k37 _ _ _ (⟨1, (⟨#[]⟩ : ByteArray), (-12), 5⟩ : S37) [.int .i64 1, .string (⟨#[]⟩ : ByteArray), .int .i64 (-12), .int .i64 5] from (k37_mkM _ _ _ (⟨1, (⟨#[]⟩ : ByteArray), (-12), 5⟩ : S37) )) (Reps.c4 (show Kd.M k37 _ _ _ (⟨0, (⟨#[99]⟩ : ByteArray), 0, 9⟩ : S37) [.int .i64 0, .string (⟨#[99]⟩ : ByteArray), .int .i64 0, .int .i64 9] from (k37_mkM _ _ _ (⟨0, (⟨#[99]⟩ : ByteArray), 0, 9⟩ : S37) )) (Reps.c4 (show Kd.M k37 _ _ _ (⟨3, (⟨#[58]⟩ : ByteArray), 0, 10⟩ : S37) [.int .i64 3, .string (⟨#[58]⟩ : ByteArray), .int .i64 0, .int .i64 10] from (k37_mkM _ _ _ (⟨3, (⟨#[58]⟩ : ByteArray), 0, 10⟩ : S37) )) (Reps.c4 (show Kd.M k37 _ _ _ (⟨2, (⟨#[120, 34, 10]⟩ : ByteArray), 0, 11⟩ : S37) [.int .i64 2, .string (⟨#[120, 34, 10]⟩ : ByteArray), .int .i64 0, .int .i64 11] from (k37_mkM _ _ _ (⟨2, (⟨#[120, 34, 10]⟩ : ByteArray), 0, 11⟩ : S37) )) (Reps.c4 (show Kd.M k37 _ _ _ (⟨3, (⟨#[41]⟩ : ByteArray), 0, 18⟩ : S37) [.int .i64 3, .string (⟨#[41]⟩ : ByteArray), .int .i64 0, .int .i64 18] from (k37_mkM _ _ _ (⟨3, (⟨#[41]⟩ : ByteArray), 0, 18⟩ : S37) )) (Reps.c4 (show Kd.M k37 _ _ _ (⟨3, (⟨#[46, 46, 46]⟩ : ByteArray), 0, 19⟩ : S37) [.int .i64 3, .string (⟨#[46, 46, 46]⟩ : ByteArray), .int .i64 0, .int .i64 19] from (k37_mkM _ _ _ (⟨3, (⟨#[46, 46, 46]⟩ : ByteArray), 0, 19⟩ : S37) )) (Reps.c4 (show Kd.M k37 _ _ _ (⟨3, (⟨#[36]⟩ : ByteArray), 0, 25⟩ : S37) [.int .i64 3, .string (⟨#[36]⟩ : ByteArray), .int .i64 0, .int .i64 25] from (k37_mkM _ _ _ (⟨3, (⟨#[36]⟩ : ByteArray), 0, 25⟩ : S37) )) (Reps.c4 (show Kd.M k37 _ _ _ (⟨0, (⟨#[95, 49]⟩ : ByteArray), 0, 26⟩ : S37) [.int .i64 0, .string (⟨#[95, 49]⟩ : ByteArray), .int .i64 0, .int .i64 26] from (k37_mkM _ _ _ (⟨0, (⟨#[95, 49]⟩ : ByteArray), 0, 26⟩ : S37) )) (Reps.c4 (show Kd.M k37 _ _ _ (⟨3, (⟨#[125]⟩ : ByteArray), 0, 28⟩ : S37) [.int .i64 3, .string (⟨#[125]⟩ : ByteArray), .int .i64 0, .int .i64 28] from (k37_mkM _ _ _ (⟨3, (⟨#[125]⟩ : ByteArray), 0, 28⟩ : S37) )) (Reps.none _ _)))))))))))))))); intro v157 w18 ho19 hb hg_ hnew_; clear hg_ hnew_; (first | rw [← Ny156.out] at ho19 | (simp only [Int.reduceToNat] at ho19; rw [← Ny156.out] at ho19)); have n0_ := Aside0.mk (Kd.R_elder' (by (with_reducible repeat (first | apply Kd.R_alloc | apply Kd.R_drewN | apply Kd.R_drew)); exact HO143.out) (Kd.R_base ho19) hb); have n1_ := Aside0.mk (Kd.R_elder' (by (with_reducible repeat (first | apply Kd.R_alloc | apply Kd.R_drewN | apply Kd.R_drew)); exact HO147.out) (Kd.R_base ho19) hb); have n2_ := Aside0.mk (Kd.R_elder' (by (with_reducible repeat (first | apply Kd.R_alloc | apply Kd.R_drewN | apply Kd.R_drew)); exact HO151.out) (Kd.R_base ho19) hb); have n3_ := Aside0.mk (Kd.R_elder' (by (with_reducible repeat (first | apply Kd.R_alloc | apply Kd.R_drewN | apply Kd.R_drew)); exact HO155.out) (Kd.R_base ho19) hb); have n4_ := Aside0.mk (Kd.R_lower (Kd.R_new' (Kd.R_new' (Kd.R_new' (Kd.R_new' ho19 (Kd.R_lt (by (with_reducible repeat (first | apply Kd.R_alloc | apply Kd.R_drewN | apply Kd.R_drew)); exact HO143.out))) (Kd.R_lt (by (with_reducible repeat (first | apply Kd.R_alloc | apply Kd.R_drewN | apply Kd.R_drew)); exact HO147.out))) (Kd.R_lt (by (with_reducible repeat (first | apply Kd.R_alloc | apply Kd.R_drewN | apply Kd.R_drew)); exact HO151.out))) (Kd.R_lt (by (with_reducible repeat (first | apply Kd.R_alloc | apply Kd.R_drewN | apply Kd.R_drew)); exact HO155.out))) (below_size (by repeat (first | (with_reducible first | exact HB.out | apply below_alloc | apply pw_below_drewN | apply below_drew1) | exact HB.out)))); have n5_ := Aside0.mk (below_step (by repeat (first | (with_reducible first | exact HB.out | apply below_alloc | apply pw_below_drewN | apply below_drew1) | exact HB.out)) hb); clear HO143; clear HO147; clear HO151; clear HO155; clear HB; have HO143 := n0_; have HO147 := n1_; have HO151 := n2_; have HO155 := n3_; have HO158 := n4_; have HB := n5_; clear n0_ n1_ n2_ n3_ n4_ n5_; clear hb ho19; obtain ⟨Ao20, co20, eo20⟩ := Kd.R_slice HO143.out; subst eo20; obtain ⟨Ao21, co21, eo21⟩ := Kd.R_slice HO158.out; subst eo21) | ((with_reducible refine gate_callee (f := 10) rfl ?_); refine goesL_ (some 43) rfl rfl Tryd.func10 (by kernel_rfl) rfl #[.slice Ao20 t140.length co20, .slice Ao21 y156.length co21] rfl (by (try simp only [List.map_toArray, List.map_cons, List.map_nil]); first | done | rfl | (simp only [List.length_drop, List.length_take]; rfl)) ?_; (with_reducible refine (tattlelaw0_SameTokens.calls k _ _ t140 _ _ y156 true _ ?side1 ?side2 ?side3 ?side4 A5.out).mono ?_); (case side1 => repeat (first | exact (Kd.R_reads' HO143.out).2.2 | (with_reducible refine Kd.C_alloc ?_ _) | (with_reducible refine Kd.C_drewN ?_ _) | (with_reducible refine Kd.C_drew ?_))); (case side2 => exact (Kd.R_reads' HO143.out).2.1); (case side3 => repeat (first | exact (Kd.R_reads' HO158.out).2.2 | (with_reducible refine Kd.C_alloc ?_ _) | (with_reducible refine Kd.C_drewN ?_ _) | (with_reducible refine Kd.C_drew ?_))); (case side4 => exact (Kd.R_reads' HO158.out).2.1); rintro e w' ⟨rfl, ⟨nd, rfl⟩⟩; refine ⟨_, rfl, ?_⟩) | (go_at_call 11; (with_reducible refine (tattlelaw0_Num.calls t141 t160 _ A7.out).mono ?_); rintro e w' ⟨rfl, ⟨nd, rfl⟩⟩) | (go_at_call 11; (with_reducible refine (tattlelaw0_Num.calls t145 t161 _ A9.out).mono ?_); rintro e w' ⟨rfl, ⟨nd, rfl⟩⟩) | (go_at_call 11; (with_reducible refine (tattlelaw0_Num.calls t149 t162 _ A11.out).mono ?_); rintro e w' ⟨rfl, ⟨nd, rfl⟩⟩) | (go_at_call 11; (with_reducible refine (tattlelaw0_Num.calls t153 t163 _ A13.out).mono ?_); rintro e w' ⟨rfl, ⟨nd, rfl⟩⟩))
          go_ret
          exact ⟨by first | rfl | (simp [errW_none, errW_some] <;> rfl) | (simp [*, errW_none, errW_some] <;> rfl), by repeat (first | (with_reducible first | exact HB.out | apply below_alloc | apply pw_below_drewN | apply below_drew1) | exact HB.out)⟩
        · rw [if_neg c12] at H
          have c12b0 : (t162 == 1301) = false := beq_eq_false_iff_ne.mpr c12
          have c12b1 : (t162 != 1301) = true := bne_iff_ne.mpr c12
          obtain rfl := Option.some.inj H
          go_enter Tryd.func12, Tryd.ntmps12
          go_wp2_with (first | ((with_reducible refine gate_callee (f := 8) rfl ?_); refine goesL_ (some 11) rfl rfl Tryd.func8 (by kernel_rfl) rfl #[.string (⟨#[123, 97, 40, 98, 58, 45, 49, 50, 44, 99, 58, 34, 120, 92, 34, 92, 110, 34, 41, 46, 46, 46, 35, 113, 10, 36, 95, 49, 125]⟩ : ByteArray)] rfl (by (try simp only [List.map_toArray, List.map_cons, List.map_nil]); first | done | rfl | (simp only [List.length_drop, List.length_take]; rfl)) ?_; (with_reducible refine (lex_Tokens.calls (⟨#[123, 97, 40, 98, 58, 45, 49, 50, 44, 99, 58, 34, 120, 92, 34, 92, 110, 34, 41, 46, 46, 46, 35, 113, 10, 36, 95, 49, 125]⟩ : ByteArray) t140 t141 _ A1.out).mono ?_); rintro e w22 ⟨v142, rfl, ho0, hb⟩; refine ⟨_, rfl, ?_⟩; have n0_ := Aside0.mk (Kd.R_lower ho0 (below_size (by repeat (first | (with_reducible first | exact HB.out | apply below_alloc | apply pw_below_drewN | apply below_drew1) | exact HB.out)))); have n1_ := Aside0.mk (below_step (by repeat (first | (with_reducible first | exact HB.out | apply below_alloc | apply pw_below_drewN | apply below_drew1) | exact HB.out)) hb); clear HB; have HO143 := n0_; have HB := n1_; clear n0_ n1_; (try clear hb); (try clear hb2); (try clear hk); (try clear hi); (try clear ho0)) | ((with_reducible refine gate_callee (f := 8) rfl ?_); refine goesL_ (some 15) rfl rfl Tryd.func8 (by kernel_rfl) rfl #[.string (⟨#[97, 37]⟩ : ByteArray)] rfl (by (try simp only [List.map_toArray, List.map_cons, List.map_nil]); first | done | rfl | (simp only [List.length_drop, List.length_take]; rfl)) ?_; (with_reducible refine (lex_Tokens.calls (⟨#[97, 37]⟩ : ByteArray) t144 t145 _ A2.out).mono ?_); rintro e w23 ⟨v146, rfl, ho0, hb⟩; refine ⟨_, rfl, ?_⟩; have n0_ := Aside0.mk (Kd.R_elder' (by (with_reducible repeat (first | apply Kd.R_alloc | apply Kd.R_drewN | apply Kd.R_drew)); exact HO143.out) (Kd.R_base ho0) hb); have n1_ := Aside0.mk (Kd.R_lower (Kd.R_new' ho0 (Kd.R_lt (by (with_reducible repeat (first | apply Kd.R_alloc | apply Kd.R_drewN | apply Kd.R_drew)); exact HO143.out))) (below_size (by repeat (first | (with_reducible first | exact HB.out | apply below_alloc | apply pw_below_drewN | apply below_drew1) | exact HB.out)))); have n2_ := Aside0.mk (below_step (by repeat (first | (with_reducible first | exact HB.out | apply below_alloc | apply pw_below_drewN | apply below_drew1) | exact HB.out)) hb); clear HO143; clear HB; have HO143 := n0_; have HO147 := n1_; have HB := n2_; clear n0_ n1_ n2_; (try clear hb); (try clear hb2); (try clear hk); (try clear hi); (try clear ho0)) | ((with_reducible refine gate_callee (f := 8) rfl ?_); refine goesL_ (some 19) rfl rfl Tryd.func8 (by kernel_rfl) rfl #[.string (⟨#[34, 97]⟩ : ByteArray)] rfl (by (try simp only [List.map_toArray, List.map_cons, List.map_nil]); first | done | rfl | (simp only [List.length_drop, List.length_take]; rfl)) ?_; (with_reducible refine (lex_Tokens.calls (⟨#[34, 97]⟩ : ByteArray) t148 t149 _ A3.out).mono ?_); rintro e w24 ⟨v150, rfl, ho0, hb⟩; refine ⟨_, rfl, ?_⟩; have n0_ := Aside0.mk (Kd.R_elder' (by (with_reducible repeat (first | apply Kd.R_alloc | apply Kd.R_drewN | apply Kd.R_drew)); exact HO143.out) (Kd.R_base ho0) hb); have n1_ := Aside0.mk (Kd.R_elder' (by (with_reducible repeat (first | apply Kd.R_alloc | apply Kd.R_drewN | apply Kd.R_drew)); exact HO147.out) (Kd.R_base ho0) hb); have n2_ := Aside0.mk (Kd.R_lower (Kd.R_new' (Kd.R_new' ho0 (Kd.R_lt (by (with_reducible repeat (first | apply Kd.R_alloc | apply Kd.R_drewN | apply Kd.R_drew)); exact HO143.out))) (Kd.R_lt (by (with_reducible repeat (first | apply Kd.R_alloc | apply Kd.R_drewN | apply Kd.R_drew)); exact HO147.out))) (below_size (by repeat (first | (with_reducible first | exact HB.out | apply below_alloc | apply pw_below_drewN | apply below_drew1) | exact HB.out)))); have n3_ := Aside0.mk (below_step (by repeat (first | (with_reducible first | exact HB.out | apply below_alloc | apply pw_below_drewN | apply below_drew1) | exact HB.out)) hb); clear HO143; clear HO147; clear HB; have HO143 := n0_; have HO147 := n1_; have HO151 := n2_; have HB := n3_; clear n0_ n1_ n2_ n3_; (try clear hb); (try clear hb2); (try clear hk); (try clear hi); (try clear ho0)) | ((with_reducible refine gate_callee (f := 8) rfl ?_); refine goesL_ (some 23) rfl rfl Tryd.func8 (by kernel_rfl) rfl #[.string (⟨#[49, 50, 97]⟩ : ByteArray)] rfl (by (try simp only [List.map_toArray, List.map_cons, List.map_nil]); first | done | rfl | (simp only [List.length_drop, List.length_take]; rfl)) ?_; (with_reducible refine (lex_Tokens.calls (⟨#[49, 50, 97]⟩ : ByteArray) t152 t153 _ A4.out).mono ?_); rintro e w25 ⟨v154, rfl, ho0, hb⟩; refine ⟨_, rfl, ?_⟩; have n0_ := Aside0.mk (Kd.R_elder' (by (with_reducible repeat (first | apply Kd.R_alloc | apply Kd.R_drewN | apply Kd.R_drew)); exact HO143.out) (Kd.R_base ho0) hb); have n1_ := Aside0.mk (Kd.R_elder' (by (with_reducible repeat (first | apply Kd.R_alloc | apply Kd.R_drewN | apply Kd.R_drew)); exact HO147.out) (Kd.R_base ho0) hb); have n2_ := Aside0.mk (Kd.R_elder' (by (with_reducible repeat (first | apply Kd.R_alloc | apply Kd.R_drewN | apply Kd.R_drew)); exact HO151.out) (Kd.R_base ho0) hb); have n3_ := Aside0.mk (Kd.R_lower (Kd.R_new' (Kd.R_new' (Kd.R_new' ho0 (Kd.R_lt (by (with_reducible repeat (first | apply Kd.R_alloc | apply Kd.R_drewN | apply Kd.R_drew)); exact HO143.out))) (Kd.R_lt (by (with_reducible repeat (first | apply Kd.R_alloc | apply Kd.R_drewN | apply Kd.R_drew)); exact HO147.out))) (Kd.R_lt (by (with_reducible repeat (first | apply Kd.R_alloc | apply Kd.R_drewN | apply Kd.R_drew)); exact HO151.out))) (below_size (by repeat (first | (with_reducible first | exact HB.out | apply below_alloc | apply pw_below_drewN | apply below_drew1) | exact HB.out)))); have n4_ := Aside0.mk (below_step (by repeat (first | (with_reducible first | exact HB.out | apply below_alloc | apply pw_below_drewN | apply below_drew1) | exact HB.out)) hb); clear HO143; clear HO147; clear HO151; clear HB; have HO143 := n0_; have HO147 := n1_; have HO151 := n2_; have HO155 := n3_; have HB := n4_; clear n0_ n1_ n2_ n3_ n4_; (try clear hb); (try clear hb2); (try clear hk); (try clear hi); (try clear ho0)) | ((with_reducible refine gate_dst (N := 40) rfl ?_); refine Kd.R_lit k37 _ 37 ?hg (N := 40) ?hd (xs := ([(⟨3, (⟨#[123]⟩ : ByteArray), 0, 0⟩ : S37), (⟨0, (⟨#[97]⟩ : ByteArray), 0, 1⟩ : S37), (⟨3, (⟨#[40]⟩ : ByteArray), 0, 2⟩ : S37), (⟨0, (⟨#[98]⟩ : ByteArray), 0, 3⟩ : S37), (⟨3, (⟨#[58]⟩ : ByteArray), 0, 4⟩ : S37), (⟨1, (⟨#[]⟩ : ByteArray), (-12), 5⟩ : S37), (⟨0, (⟨#[99]⟩ : ByteArray), 0, 9⟩ : S37), (⟨3, (⟨#[58]⟩ : ByteArray), 0, 10⟩ : S37), (⟨2, (⟨#[120, 34, 10]⟩ : ByteArray), 0, 11⟩ : S37), (⟨3, (⟨#[41]⟩ : ByteArray), 0, 18⟩ : S37), (⟨3, (⟨#[46, 46, 46]⟩ : ByteArray), 0, 19⟩ : S37), (⟨3, (⟨#[36]⟩ : ByteArray), 0, 25⟩ : S37), (⟨0, (⟨#[95, 49]⟩ : ByteArray), 0, 26⟩ : S37), (⟨3, (⟨#[125]⟩ : ByteArray), 0, 28⟩ : S37)] : List (S37))) (inner := [.int .i64 3, .string (⟨#[123]⟩ : ByteArray), .int .i64 0, .int .i64 0, .int .i64 0, .string (⟨#[97]⟩ : ByteArray), .int .i64 0, .int .i64 1, .int .i64 3, .string (⟨#[40]⟩ : ByteArray), .int .i64 0, .int .i64 2, .int .i64 0, .string (⟨#[98]⟩ : ByteArray), .int .i64 0, .int .i64 3, .int .i64 3, .string (⟨#[58]⟩ : ByteArray), .int .i64 0, .int .i64 4, .int .i64 1, .string (⟨#[]⟩ : ByteArray), .int .i64 (-12), .int .i64 5, .int .i64 0, .string (⟨#[99]⟩ : ByteArray), .int .i64 0, .int .i64 9, .int .i64 3, .string (⟨#[58]⟩ : ByteArray), .int .i64 0, .int .i64 10, .int .i64 2, .string (⟨#[120, 34, 10]⟩ : ByteArray), .int .i64 0, .int .i64 11, .int .i64 3, .string (⟨#[41]⟩ : ByteArray), .int .i64 0, .int .i64 18, .int .i64 3, .string (⟨#[46, 46, 46]⟩ : ByteArray), .int .i64 0, .int .i64 19, .int .i64 3, .string (⟨#[36]⟩ : ByteArray), .int .i64 0, .int .i64 25, .int .i64 0, .string (⟨#[95, 49]⟩ : ByteArray), .int .i64 0, .int .i64 26, .int .i64 3, .string (⟨#[125]⟩ : ByteArray), .int .i64 0, .int .i64 28]) (ok := fun _ => True) (okp := fun _ => True) ?hr ?hp (fun _ hk => hk) trivial (Below.refl _ _) (Nat.le_refl _) (by simp) ?_; (case hd => rfl); (case hg => rfl); (case hr => first | (go_simp; done) | (go_simp; rfl)); (case hp => exact (Reps.c4 (show Kd.M k37 _ _ _ (⟨3, (⟨#[123]⟩ : ByteArray), 0, 0⟩ : S37) [.int .i64 3, .string (⟨#[123]⟩ : ByteArray), .int .i64 0, .int .i64 0] from (k37_mkM _ _ _ (⟨3, (⟨#[123]⟩ : ByteArray), 0, 0⟩ : S37) )) (Reps.c4 (show Kd.M k37 _ _ _ (⟨0, (⟨#[97]⟩ : ByteArray), 0, 1⟩ : S37) [.int .i64 0, .string (⟨#[97]⟩ : ByteArray), .int .i64 0, .int .i64 1] from (k37_mkM _ _ _ (⟨0, (⟨#[97]⟩ : ByteArray), 0, 1⟩ : S37) )) (Reps.c4 (show Kd.M k37 _ _ _ (⟨3, (⟨#[40]⟩ : ByteArray), 0, 2⟩ : S37) [.int .i64 3, .string (⟨#[40]⟩ : ByteArray), .int .i64 0, .int .i64 2] from (k37_mkM _ _ _ (⟨3, (⟨#[40]⟩ : ByteArray), 0, 2⟩ : S37) )) (Reps.c4 (show Kd.M k37 _ _ _ (⟨0, (⟨#[98]⟩ : ByteArray), 0, 3⟩ : S37) [.int .i64 0, .string (⟨#[98]⟩ : ByteArray), .int .i64 0, .int .i64 3] from (k37_mkM _ _ _ (⟨0, (⟨#[98]⟩ : ByteArray), 0, 3⟩ : S37) )) (Reps.c4 (show Kd.M k37 _ _ _ (⟨3, (⟨#[58]⟩ : ByteArray), 0, 4⟩ : S37) [.int .i64 3, .string (⟨#[58]⟩ : ByteArray), .int .i64 0, .int .i64 4] from (k37_mkM _ _ _ (⟨3, (⟨#[58]⟩ : ByteArray), 0, 4⟩ : S37) )) (Reps.c4 (show Kd.M k37 _ _ _ (⟨1, (⟨#[]⟩ : ByteArray), (-12), 5⟩ : S37) [.int .i64 1, .string (⟨#[]⟩ : ByteArray), .int .i64 (-12), .int .i64 5] from (k37_mkM _ _ _ (⟨1, (⟨#[]⟩ : ByteArray), (-12), 5⟩ : S37) )) (Reps.c4 (show Kd.M k37 _ _ _ (⟨0, (⟨#[99]⟩ : ByteArray), 0, 9⟩ : S37) [.int .i64 0, .string (⟨#[99]⟩ : ByteArray), .int .i64 0, .int .i64 9] from (k37_mkM _ _ _ (⟨0, (⟨#[99]⟩ : ByteArray), 0, 9⟩ : S37) )) (Reps.c4 (show Kd.M k37 _ _ _ (⟨3, (⟨#[58]⟩ : ByteArray), 0, 10⟩ : S37) [.int .i64 3, .string (⟨#[58]⟩ : ByteArray), .int .i64 0, .int .i64 10] from (k37_mkM _ _ _ (⟨3, (⟨#[58]⟩ : ByteArray), 0, 10⟩ : S37) )) (Reps.c4 (show Kd.M k37 _ _ _ (⟨2, (⟨#[120, 34, 10]⟩ : ByteArray), 0, 11⟩ : S37) [.int .i64 2, .string (⟨#[120, 34, 10]⟩ : ByteArray), .int .i64 0, .int .i64 11] from (k37_mkM _ _ _ (⟨2, (⟨#[120, 34, 10]⟩ : ByteArray), 0, 11⟩ : S37) )) (Reps.c4 (show Kd.M k37 _ _ _ (⟨3, (⟨#[41]⟩ : ByteArray), 0, 18⟩ : S37) [.int .i64 3, .string (⟨#[41]⟩ : ByteArray), .int .i64 0, .int .i64 18] from (k37_mkM _ _ _ (⟨3, (⟨#[41]⟩ : ByteArray), 0, 18⟩ : S37) )) (Reps.c4 (show Kd.M k37 _ _ _ (⟨3, (⟨#[46, 46, 46]⟩ : ByteArray), 0, 19⟩ : S37) [.int .i64 3, .string (⟨#[46, 46, 46]⟩ : ByteArray), .int .i64 0, .int .i64 19] from (k37_mkM _ _ _ (⟨3, (⟨#[46, 46, 46]⟩ : ByteArray), 0, 19⟩ : S37) )) (Reps.c4 (show Kd.M k37 _ _ _ (⟨3, (⟨#[36]⟩ : ByteArray), 0, 25⟩ : S37) [.int .i64 3, .string (⟨#[36]⟩ : ByteArray), .int .i64 0, .int .i64 25] from (k37_mkM _ _ _ (⟨3, (⟨#[36]⟩ : ByteArray), 0, 25⟩ : S37) )) (Reps.c4 (show Kd.M k37 _ _ _ (⟨0, (⟨#[95, 49]⟩ : ByteArray), 0, 26⟩ : S37) [.int .i64 0, .string (⟨#[95, 49]⟩ : ByteArray), .int .i64 0, .int .i64 26] from (k37_mkM _ _ _ (⟨0, (⟨#[95, 49]⟩ : ByteArray), 0, 26⟩ : S37) )) (Reps.c4 (show Kd.M k37 _ _ _ (⟨3, (⟨#[125]⟩ : ByteArray), 0, 28⟩ : S37) [.int .i64 3, .string (⟨#[125]⟩ : ByteArray), .int .i64 0, .int .i64 28] from (k37_mkM _ _ _ (⟨3, (⟨#[125]⟩ : ByteArray), 0, 28⟩ : S37) )) (Reps.none _ _)))))))))))))))); intro v157 w26 ho27 hb hg_ hnew_; clear hg_ hnew_; (first | rw [← Ny156.out] at ho27 | (simp only [Int.reduceToNat] at ho27; rw [← Ny156.out] at ho27)); have n0_ := Aside0.mk (Kd.R_elder' (by (with_reducible repeat (first | apply Kd.R_alloc | apply Kd.R_drewN | apply Kd.R_drew)); exact HO143.out) (Kd.R_base ho27) hb); have n1_ := Aside0.mk (Kd.R_elder' (by (with_reducible repeat (first | apply Kd.R_alloc | apply Kd.R_drewN | apply Kd.R_drew)); exact HO147.out) (Kd.R_base ho27) hb); have n2_ := Aside0.mk (Kd.R_elder' (by (with_reducible repeat (first | apply Kd.R_alloc | apply Kd.R_drewN | apply Kd.R_drew)); exact HO151.out) (Kd.R_base ho27) hb); have n3_ := Aside0.mk (Kd.R_elder' (by (with_reducible repeat (first | apply Kd.R_alloc | apply Kd.R_drewN | apply Kd.R_drew)); exact HO155.out) (Kd.R_base ho27) hb); have n4_ := Aside0.mk (Kd.R_lower (Kd.R_new' (Kd.R_new' (Kd.R_new' (Kd.R_new' ho27 (Kd.R_lt (by (with_reducible repeat (first | apply Kd.R_alloc | apply Kd.R_drewN | apply Kd.R_drew)); exact HO143.out))) (Kd.R_lt (by (with_reducible repeat (first | apply Kd.R_alloc | apply Kd.R_drewN | apply Kd.R_drew)); exact HO147.out))) (Kd.R_lt (by (with_reducible repeat (first | apply Kd.R_alloc | apply Kd.R_drewN | apply Kd.R_drew)); exact HO151.out))) (Kd.R_lt (by (with_reducible repeat (first | apply Kd.R_alloc | apply Kd.R_drewN | apply Kd.R_drew)); exact HO155.out))) (below_size (by repeat (first | (with_reducible first | exact HB.out | apply below_alloc | apply pw_below_drewN | apply below_drew1) | exact HB.out)))); have n5_ := Aside0.mk (below_step (by repeat (first | (with_reducible first | exact HB.out | apply below_alloc | apply pw_below_drewN | apply below_drew1) | exact HB.out)) hb); clear HO143; clear HO147; clear HO151; clear HO155; clear HB; have HO143 := n0_; have HO147 := n1_; have HO151 := n2_; have HO155 := n3_; have HO158 := n4_; have HB := n5_; clear n0_ n1_ n2_ n3_ n4_ n5_; clear hb ho27; obtain ⟨Ao28, co28, eo28⟩ := Kd.R_slice HO143.out; subst eo28; obtain ⟨Ao29, co29, eo29⟩ := Kd.R_slice HO158.out; subst eo29) | ((with_reducible refine gate_callee (f := 10) rfl ?_); refine goesL_ (some 43) rfl rfl Tryd.func10 (by kernel_rfl) rfl #[.slice Ao28 t140.length co28, .slice Ao29 y156.length co29] rfl (by (try simp only [List.map_toArray, List.map_cons, List.map_nil]); first | done | rfl | (simp only [List.length_drop, List.length_take]; rfl)) ?_; (with_reducible refine (tattlelaw0_SameTokens.calls k _ _ t140 _ _ y156 true _ ?side1 ?side2 ?side3 ?side4 A5.out).mono ?_); (case side1 => repeat (first | exact (Kd.R_reads' HO143.out).2.2 | (with_reducible refine Kd.C_alloc ?_ _) | (with_reducible refine Kd.C_drewN ?_ _) | (with_reducible refine Kd.C_drew ?_))); (case side2 => exact (Kd.R_reads' HO143.out).2.1); (case side3 => repeat (first | exact (Kd.R_reads' HO158.out).2.2 | (with_reducible refine Kd.C_alloc ?_ _) | (with_reducible refine Kd.C_drewN ?_ _) | (with_reducible refine Kd.C_drew ?_))); (case side4 => exact (Kd.R_reads' HO158.out).2.1); rintro e w' ⟨rfl, ⟨nd, rfl⟩⟩; refine ⟨_, rfl, ?_⟩) | (go_at_call 11; (with_reducible refine (tattlelaw0_Num.calls t141 t160 _ A7.out).mono ?_); rintro e w' ⟨rfl, ⟨nd, rfl⟩⟩) | (go_at_call 11; (with_reducible refine (tattlelaw0_Num.calls t145 t161 _ A9.out).mono ?_); rintro e w' ⟨rfl, ⟨nd, rfl⟩⟩) | (go_at_call 11; (with_reducible refine (tattlelaw0_Num.calls t149 t162 _ A11.out).mono ?_); rintro e w' ⟨rfl, ⟨nd, rfl⟩⟩))
          go_ret
          exact ⟨by first | rfl | (simp [errW_none, errW_some] <;> rfl) | (simp [*, errW_none, errW_some] <;> rfl), by repeat (first | (with_reducible first | exact HB.out | apply below_alloc | apply pw_below_drewN | apply below_drew1) | exact HB.out)⟩
      · rw [if_neg c10] at H
        have c10b0 : (t161 == 1300) = false := beq_eq_false_iff_ne.mpr c10
        have c10b1 : (t161 != 1300) = true := bne_iff_ne.mpr c10
        obtain rfl := Option.some.inj H
        go_enter Tryd.func12, Tryd.ntmps12
        go_wp2_with (first | ((with_reducible refine gate_callee (f := 8) rfl ?_); refine goesL_ (some 11) rfl rfl Tryd.func8 (by kernel_rfl) rfl #[.string (⟨#[123, 97, 40, 98, 58, 45, 49, 50, 44, 99, 58, 34, 120, 92, 34, 92, 110, 34, 41, 46, 46, 46, 35, 113, 10, 36, 95, 49, 125]⟩ : ByteArray)] rfl (by (try simp only [List.map_toArray, List.map_cons, List.map_nil]); first | done | rfl | (simp only [List.length_drop, List.length_take]; rfl)) ?_; (with_reducible refine (lex_Tokens.calls (⟨#[123, 97, 40, 98, 58, 45, 49, 50, 44, 99, 58, 34, 120, 92, 34, 92, 110, 34, 41, 46, 46, 46, 35, 113, 10, 36, 95, 49, 125]⟩ : ByteArray) t140 t141 _ A1.out).mono ?_); rintro e w30 ⟨v142, rfl, ho0, hb⟩; refine ⟨_, rfl, ?_⟩; have n0_ := Aside0.mk (Kd.R_lower ho0 (below_size (by repeat (first | (with_reducible first | exact HB.out | apply below_alloc | apply pw_below_drewN | apply below_drew1) | exact HB.out)))); have n1_ := Aside0.mk (below_step (by repeat (first | (with_reducible first | exact HB.out | apply below_alloc | apply pw_below_drewN | apply below_drew1) | exact HB.out)) hb); clear HB; have HO143 := n0_; have HB := n1_; clear n0_ n1_; (try clear hb); (try clear hb2); (try clear hk); (try clear hi); (try clear ho0)) | ((with_reducible refine gate_callee (f := 8) rfl ?_); refine goesL_ (some 15) rfl rfl Tryd.func8 (by kernel_rfl) rfl #[.string (⟨#[97, 37]⟩ : ByteArray)] rfl (by (try simp only [List.map_toArray, List.map_cons, List.map_nil]); first | done | rfl | (simp only [List.length_drop, List.length_take]; rfl)) ?_; (with_reducible refine (lex_Tokens.calls (⟨#[97, 37]⟩ : ByteArray) t144 t145 _ A2.out).mono ?_); rintro e w31 ⟨v146, rfl, ho0, hb⟩; refine ⟨_, rfl, ?_⟩; have n0_ := Aside0.mk (Kd.R_elder' (by (with_reducible repeat (first | apply Kd.R_alloc | apply Kd.R_drewN | apply Kd.R_drew)); exact HO143.out) (Kd.R_base ho0) hb); have n1_ := Aside0.mk (Kd.R_lower (Kd.R_new' ho0 (Kd.R_lt (by (with_reducible repeat (first | apply Kd.R_alloc | apply Kd.R_drewN | apply Kd.R_drew)); exact HO143.out))) (below_size (by repeat (first | (with_reducible first | exact HB.out | apply below_alloc | apply pw_below_drewN | apply below_drew1) | exact HB.out)))); have n2_ := Aside0.mk (below_step (by repeat (first | (with_reducible first | exact HB.out | apply below_alloc | apply pw_below_drewN | apply below_drew1) | exact HB.out)) hb); clear HO143; clear HB; have HO143 := n0_; have HO147 := n1_; have HB := n2_; clear n0_ n1_ n2_; (try clear hb); (try clear hb2); (try clear hk); (try clear hi); (try clear ho0)) | ((with_reducible refine gate_callee (f := 8) rfl ?_); refine goesL_ (some 19) rfl rfl Tryd.func8 (by kernel_rfl) rfl #[.string (⟨#[34, 97]⟩ : ByteArray)] rfl (by (try simp only [List.map_toArray, List.map_cons, List.map_nil]); first | done | rfl | (simp only [List.length_drop, List.length_take]; rfl)) ?_; (with_reducible refine (lex_Tokens.calls (⟨#[34, 97]⟩ : ByteArray) t148 t149 _ A3.out).mono ?_); rintro e w32 ⟨v150, rfl, ho0, hb⟩; refine ⟨_, rfl, ?_⟩; have n0_ := Aside0.mk (Kd.R_elder' (by (with_reducible repeat (first | apply Kd.R_alloc | apply Kd.R_drewN | apply Kd.R_drew)); exact HO143.out) (Kd.R_base ho0) hb); have n1_ := Aside0.mk (Kd.R_elder' (by (with_reducible repeat (first | apply Kd.R_alloc | apply Kd.R_drewN | apply Kd.R_drew)); exact HO147.out) (Kd.R_base ho0) hb); have n2_ := Aside0.mk (Kd.R_lower (Kd.R_new' (Kd.R_new' ho0 (Kd.R_lt (by (with_reducible repeat (first | apply Kd.R_alloc | apply Kd.R_drewN | apply Kd.R_drew)); exact HO143.out))) (Kd.R_lt (by (with_reducible repeat (first | apply Kd.R_alloc | apply Kd.R_drewN | apply Kd.R_drew)); exact HO147.out))) (below_size (by repeat (first | (with_reducible first | exact HB.out | apply below_alloc | apply pw_below_drewN | apply below_drew1) | exact HB.out)))); have n3_ := Aside0.mk (below_step (by repeat (first | (with_reducible first | exact HB.out | apply below_alloc | apply pw_below_drewN | apply below_drew1) | exact HB.out)) hb); clear HO143; clear HO147; clear HB; have HO143 := n0_; have HO147 := n1_; have HO151 := n2_; have HB := n3_; clear n0_ n1_ n2_ n3_; (try clear hb); (try clear hb2); (try clear hk); (try clear hi); (try clear ho0)) | ((with_reducible refine gate_callee (f := 8) rfl ?_); refine goesL_ (some 23) rfl rfl Tryd.func8 (by kernel_rfl) rfl #[.string (⟨#[49, 50, 97]⟩ : ByteArray)] rfl (by (try simp only [List.map_toArray, List.map_cons, List.map_nil]); first | done | rfl | (simp only [List.length_drop, List.length_take]; rfl)) ?_; (with_reducible refine (lex_Tokens.calls (⟨#[49, 50, 97]⟩ : ByteArray) t152 t153 _ A4.out).mono ?_); rintro e w33 ⟨v154, rfl, ho0, hb⟩; refine ⟨_, rfl, ?_⟩; have n0_ := Aside0.mk (Kd.R_elder' (by (with_reducible repeat (first | apply Kd.R_alloc | apply Kd.R_drewN | apply Kd.R_drew)); exact HO143.out) (Kd.R_base ho0) hb); have n1_ := Aside0.mk (Kd.R_elder' (by (with_reducible repeat (first | apply Kd.R_alloc | apply Kd.R_drewN | apply Kd.R_drew)); exact HO147.out) (Kd.R_base ho0) hb); have n2_ := Aside0.mk (Kd.R_elder' (by (with_reducible repeat (first | apply Kd.R_alloc | apply Kd.R_drewN | apply Kd.R_drew)); exact HO151.out) (Kd.R_base ho0) hb); have n3_ := Aside0.mk (Kd.R_lower (Kd.R_new' (Kd.R_new' (Kd.R_new' ho0 (Kd.R_lt (by (with_reducible repeat (first | apply Kd.R_alloc | apply Kd.R_drewN | apply Kd.R_drew)); exact HO143.out))) (Kd.R_lt (by (with_reducible repeat (first | apply Kd.R_alloc | apply Kd.R_drewN | apply Kd.R_drew)); exact HO147.out))) (Kd.R_lt (by (with_reducible repeat (first | apply Kd.R_alloc | apply Kd.R_drewN | apply Kd.R_drew)); exact HO151.out))) (below_size (by repeat (first | (with_reducible first | exact HB.out | apply below_alloc | apply pw_below_drewN | apply below_drew1) | exact HB.out)))); have n4_ := Aside0.mk (below_step (by repeat (first | (with_reducible first | exact HB.out | apply below_alloc | apply pw_below_drewN | apply below_drew1) | exact HB.out)) hb); clear HO143; clear HO147; clear HO151; clear HB; have HO143 := n0_; have HO147 := n1_; have HO151 := n2_; have HO155 := n3_; have HB := n4_; clear n0_ n1_ n2_ n3_ n4_; (try clear hb); (try clear hb2); (try clear hk); (try clear hi); (try clear ho0)) | ((with_reducible refine gate_dst (N := 40) rfl ?_); refine Kd.R_lit k37 _ 37 ?hg (N := 40) ?hd (xs := ([(⟨3, (⟨#[123]⟩ : ByteArray), 0, 0⟩ : S37), (⟨0, (⟨#[97]⟩ : ByteArray), 0, 1⟩ : S37), (⟨3, (⟨#[40]⟩ : ByteArray), 0, 2⟩ : S37), (⟨0, (⟨#[98]⟩ : ByteArray), 0, 3⟩ : S37), (⟨3, (⟨#[58]⟩ : ByteArray), 0, 4⟩ : S37), (⟨1, (⟨#[]⟩ : ByteArray), (-12), 5⟩ : S37), (⟨0, (⟨#[99]⟩ : ByteArray), 0, 9⟩ : S37), (⟨3, (⟨#[58]⟩ : ByteArray), 0, 10⟩ : S37), (⟨2, (⟨#[120, 34, 10]⟩ : ByteArray), 0, 11⟩ : S37), (⟨3, (⟨#[41]⟩ : ByteArray), 0, 18⟩ : S37), (⟨3, (⟨#[46, 46, 46]⟩ : ByteArray), 0, 19⟩ : S37), (⟨3, (⟨#[36]⟩ : ByteArray), 0, 25⟩ : S37), (⟨0, (⟨#[95, 49]⟩ : ByteArray), 0, 26⟩ : S37), (⟨3, (⟨#[125]⟩ : ByteArray), 0, 28⟩ : S37)] : List (S37))) (inner := [.int .i64 3, .string (⟨#[123]⟩ : ByteArray), .int .i64 0, .int .i64 0, .int .i64 0, .string (⟨#[97]⟩ : ByteArray), .int .i64 0, .int .i64 1, .int .i64 3, .string (⟨#[40]⟩ : ByteArray), .int .i64 0, .int .i64 2, .int .i64 0, .string (⟨#[98]⟩ : ByteArray), .int .i64 0, .int .i64 3, .int .i64 3, .string (⟨#[58]⟩ : ByteArray), .int .i64 0, .int .i64 4, .int .i64 1, .string (⟨#[]⟩ : ByteArray), .int .i64 (-12), .int .i64 5, .int .i64 0, .string (⟨#[99]⟩ : ByteArray), .int .i64 0, .int .i64 9, .int .i64 3, .string (⟨#[58]⟩ : ByteArray), .int .i64 0, .int .i64 10, .int .i64 2, .string (⟨#[120, 34, 10]⟩ : ByteArray), .int .i64 0, .int .i64 11, .int .i64 3, .string (⟨#[41]⟩ : ByteArray), .int .i64 0, .int .i64 18, .int .i64 3, .string (⟨#[46, 46, 46]⟩ : ByteArray), .int .i64 0, .int .i64 19, .int .i64 3, .string (⟨#[36]⟩ : ByteArray), .int .i64 0, .int .i64 25, .int .i64 0, .string (⟨#[95, 49]⟩ : ByteArray), .int .i64 0, .int .i64 26, .int .i64 3, .string (⟨#[125]⟩ : ByteArray), .int .i64 0, .int .i64 28]) (ok := fun _ => True) (okp := fun _ => True) ?hr ?hp (fun _ hk => hk) trivial (Below.refl _ _) (Nat.le_refl _) (by simp) ?_; (case hd => rfl); (case hg => rfl); (case hr => first | (go_simp; done) | (go_simp; rfl)); (case hp => exact (Reps.c4 (show Kd.M k37 _ _ _ (⟨3, (⟨#[123]⟩ : ByteArray), 0, 0⟩ : S37) [.int .i64 3, .string (⟨#[123]⟩ : ByteArray), .int .i64 0, .int .i64 0] from (k37_mkM _ _ _ (⟨3, (⟨#[123]⟩ : ByteArray), 0, 0⟩ : S37) )) (Reps.c4 (show Kd.M k37 _ _ _ (⟨0, (⟨#[97]⟩ : ByteArray), 0, 1⟩ : S37) [.int .i64 0, .string (⟨#[97]⟩ : ByteArray), .int .i64 0, .int .i64 1] from (k37_mkM _ _ _ (⟨0, (⟨#[97]⟩ : ByteArray), 0, 1⟩ : S37) )) (Reps.c4 (show Kd.M k37 _ _ _ (⟨3, (⟨#[40]⟩ : ByteArray), 0, 2⟩ : S37) [.int .i64 3, .string (⟨#[40]⟩ : ByteArray), .int .i64 0, .int .i64 2] from (k37_mkM _ _ _ (⟨3, (⟨#[40]⟩ : ByteArray), 0, 2⟩ : S37) )) (Reps.c4 (show Kd.M k37 _ _ _ (⟨0, (⟨#[98]⟩ : ByteArray), 0, 3⟩ : S37) [.int .i64 0, .string (⟨#[98]⟩ : ByteArray), .int .i64 0, .int .i64 3] from (k37_mkM _ _ _ (⟨0, (⟨#[98]⟩ : ByteArray), 0, 3⟩ : S37) )) (Reps.c4 (show Kd.M k37 _ _ _ (⟨3, (⟨#[58]⟩ : ByteArray), 0, 4⟩ : S37) [.int .i64 3, .string (⟨#[58]⟩ : ByteArray), .int .i64 0, .int .i64 4] from (k37_mkM _ _ _ (⟨3, (⟨#[58]⟩ : ByteArray), 0, 4⟩ : S37) )) (Reps.c4 (show Kd.M k37 _ _ _ (⟨1, (⟨#[]⟩ : ByteArray), (-12), 5⟩ : S37) [.int .i64 1, .string (⟨#[]⟩ : ByteArray), .int .i64 (-12), .int .i64 5] from (k37_mkM _ _ _ (⟨1, (⟨#[]⟩ : ByteArray), (-12), 5⟩ : S37) )) (Reps.c4 (show Kd.M k37 _ _ _ (⟨0, (⟨#[99]⟩ : ByteArray), 0, 9⟩ : S37) [.int .i64 0, .string (⟨#[99]⟩ : ByteArray), .int .i64 0, .int .i64 9] from (k37_mkM _ _ _ (⟨0, (⟨#[99]⟩ : ByteArray), 0, 9⟩ : S37) )) (Reps.c4 (show Kd.M k37 _ _ _ (⟨3, (⟨#[58]⟩ : ByteArray), 0, 10⟩ : S37) [.int .i64 3, .string (⟨#[58]⟩ : ByteArray), .int .i64 0, .int .i64 10] from (k37_mkM _ _ _ (⟨3, (⟨#[58]⟩ : ByteArray), 0, 10⟩ : S37) )) (Reps.c4 (show Kd.M k37 _ _ _ (⟨2, (⟨#[120, 34, 10]⟩ : ByteArray), 0, 11⟩ : S37) [.int .i64 2, .string (⟨#[120, 34, 10]⟩ : ByteArray), .int .i64 0, .int .i64 11] from (k37_mkM _ _ _ (⟨2, (⟨#[120, 34, 10]⟩ : ByteArray), 0, 11⟩ : S37) )) (Reps.c4 (show Kd.M k37 _ _ _ (⟨3, (⟨#[41]⟩ : ByteArray), 0, 18⟩ : S37) [.int .i64 3, .string (⟨#[41]⟩ : ByteArray), .int .i64 0, .int .i64 18] from (k37_mkM _ _ _ (⟨3, (⟨#[41]⟩ : ByteArray), 0, 18⟩ : S37) )) (Reps.c4 (show Kd.M k37 _ _ _ (⟨3, (⟨#[46, 46, 46]⟩ : ByteArray), 0, 19⟩ : S37) [.int .i64 3, .string (⟨#[46, 46, 46]⟩ : ByteArray), .int .i64 0, .int .i64 19] from (k37_mkM _ _ _ (⟨3, (⟨#[46, 46, 46]⟩ : ByteArray), 0, 19⟩ : S37) )) (Reps.c4 (show Kd.M k37 _ _ _ (⟨3, (⟨#[36]⟩ : ByteArray), 0, 25⟩ : S37) [.int .i64 3, .string (⟨#[36]⟩ : ByteArray), .int .i64 0, .int .i64 25] from (k37_mkM _ _ _ (⟨3, (⟨#[36]⟩ : ByteArray), 0, 25⟩ : S37) )) (Reps.c4 (show Kd.M k37 _ _ _ (⟨0, (⟨#[95, 49]⟩ : ByteArray), 0, 26⟩ : S37) [.int .i64 0, .string (⟨#[95, 49]⟩ : ByteArray), .int .i64 0, .int .i64 26] from (k37_mkM _ _ _ (⟨0, (⟨#[95, 49]⟩ : ByteArray), 0, 26⟩ : S37) )) (Reps.c4 (show Kd.M k37 _ _ _ (⟨3, (⟨#[125]⟩ : ByteArray), 0, 28⟩ : S37) [.int .i64 3, .string (⟨#[125]⟩ : ByteArray), .int .i64 0, .int .i64 28] from (k37_mkM _ _ _ (⟨3, (⟨#[125]⟩ : ByteArray), 0, 28⟩ : S37) )) (Reps.none _ _)))))))))))))))); intro v157 w34 ho35 hb hg_ hnew_; clear hg_ hnew_; (first | rw [← Ny156.out] at ho35 | (simp only [Int.reduceToNat] at ho35; rw [← Ny156.out] at ho35)); have n0_ := Aside0.mk (Kd.R_elder' (by (with_reducible repeat (first | apply Kd.R_alloc | apply Kd.R_drewN | apply Kd.R_drew)); exact HO143.out) (Kd.R_base ho35) hb); have n1_ := Aside0.mk (Kd.R_elder' (by (with_reducible repeat (first | apply Kd.R_alloc | apply Kd.R_drewN | apply Kd.R_drew)); exact HO147.out) (Kd.R_base ho35) hb); have n2_ := Aside0.mk (Kd.R_elder' (by (with_reducible repeat (first | apply Kd.R_alloc | apply Kd.R_drewN | apply Kd.R_drew)); exact HO151.out) (Kd.R_base ho35) hb); have n3_ := Aside0.mk (Kd.R_elder' (by (with_reducible repeat (first | apply Kd.R_alloc | apply Kd.R_drewN | apply Kd.R_drew)); exact HO155.out) (Kd.R_base ho35) hb); have n4_ := Aside0.mk (Kd.R_lower (Kd.R_new' (Kd.R_new' (Kd.R_new' (Kd.R_new' ho35 (Kd.R_lt (by (with_reducible repeat (first | apply Kd.R_alloc | apply Kd.R_drewN | apply Kd.R_drew)); exact HO143.out))) (Kd.R_lt (by (with_reducible repeat (first | apply Kd.R_alloc | apply Kd.R_drewN | apply Kd.R_drew)); exact HO147.out))) (Kd.R_lt (by (with_reducible repeat (first | apply Kd.R_alloc | apply Kd.R_drewN | apply Kd.R_drew)); exact HO151.out))) (Kd.R_lt (by (with_reducible repeat (first | apply Kd.R_alloc | apply Kd.R_drewN | apply Kd.R_drew)); exact HO155.out))) (below_size (by repeat (first | (with_reducible first | exact HB.out | apply below_alloc | apply pw_below_drewN | apply below_drew1) | exact HB.out)))); have n5_ := Aside0.mk (below_step (by repeat (first | (with_reducible first | exact HB.out | apply below_alloc | apply pw_below_drewN | apply below_drew1) | exact HB.out)) hb); clear HO143; clear HO147; clear HO151; clear HO155; clear HB; have HO143 := n0_; have HO147 := n1_; have HO151 := n2_; have HO155 := n3_; have HO158 := n4_; have HB := n5_; clear n0_ n1_ n2_ n3_ n4_ n5_; clear hb ho35; obtain ⟨Ao36, co36, eo36⟩ := Kd.R_slice HO143.out; subst eo36; obtain ⟨Ao37, co37, eo37⟩ := Kd.R_slice HO158.out; subst eo37) | ((with_reducible refine gate_callee (f := 10) rfl ?_); refine goesL_ (some 43) rfl rfl Tryd.func10 (by kernel_rfl) rfl #[.slice Ao36 t140.length co36, .slice Ao37 y156.length co37] rfl (by (try simp only [List.map_toArray, List.map_cons, List.map_nil]); first | done | rfl | (simp only [List.length_drop, List.length_take]; rfl)) ?_; (with_reducible refine (tattlelaw0_SameTokens.calls k _ _ t140 _ _ y156 true _ ?side1 ?side2 ?side3 ?side4 A5.out).mono ?_); (case side1 => repeat (first | exact (Kd.R_reads' HO143.out).2.2 | (with_reducible refine Kd.C_alloc ?_ _) | (with_reducible refine Kd.C_drewN ?_ _) | (with_reducible refine Kd.C_drew ?_))); (case side2 => exact (Kd.R_reads' HO143.out).2.1); (case side3 => repeat (first | exact (Kd.R_reads' HO158.out).2.2 | (with_reducible refine Kd.C_alloc ?_ _) | (with_reducible refine Kd.C_drewN ?_ _) | (with_reducible refine Kd.C_drew ?_))); (case side4 => exact (Kd.R_reads' HO158.out).2.1); rintro e w' ⟨rfl, ⟨nd, rfl⟩⟩; refine ⟨_, rfl, ?_⟩) | (go_at_call 11; (with_reducible refine (tattlelaw0_Num.calls t141 t160 _ A7.out).mono ?_); rintro e w' ⟨rfl, ⟨nd, rfl⟩⟩) | (go_at_call 11; (with_reducible refine (tattlelaw0_Num.calls t145 t161 _ A9.out).mono ?_); rintro e w' ⟨rfl, ⟨nd, rfl⟩⟩))
        go_ret
        exact ⟨by first | rfl | (simp [errW_none, errW_some] <;> rfl) | (simp [*, errW_none, errW_some] <;> rfl), by repeat (first | (with_reducible first | exact HB.out | apply below_alloc | apply pw_below_drewN | apply below_drew1) | exact HB.out)⟩
    · rw [if_neg c8] at H
      have c8b0 : (t160 == 0) = false := beq_eq_false_iff_ne.mpr c8
      have c8b1 : (t160 != 0) = true := bne_iff_ne.mpr c8
      obtain rfl := Option.some.inj H
      go_enter Tryd.func12, Tryd.ntmps12
      go_wp2_with (first | ((with_reducible refine gate_callee (f := 8) rfl ?_); refine goesL_ (some 11) rfl rfl Tryd.func8 (by kernel_rfl) rfl #[.string (⟨#[123, 97, 40, 98, 58, 45, 49, 50, 44, 99, 58, 34, 120, 92, 34, 92, 110, 34, 41, 46, 46, 46, 35, 113, 10, 36, 95, 49, 125]⟩ : ByteArray)] rfl (by (try simp only [List.map_toArray, List.map_cons, List.map_nil]); first | done | rfl | (simp only [List.length_drop, List.length_take]; rfl)) ?_; (with_reducible refine (lex_Tokens.calls (⟨#[123, 97, 40, 98, 58, 45, 49, 50, 44, 99, 58, 34, 120, 92, 34, 92, 110, 34, 41, 46, 46, 46, 35, 113, 10, 36, 95, 49, 125]⟩ : ByteArray) t140 t141 _ A1.out).mono ?_); rintro e w38 ⟨v142, rfl, ho0, hb⟩; refine ⟨_, rfl, ?_⟩; have n0_ := Aside0.mk (Kd.R_lower ho0 (below_size (by repeat (first | (with_reducible first | exact HB.out | apply below_alloc | apply pw_below_drewN | apply below_drew1) | exact HB.out)))); have n1_ := Aside0.mk (below_step (by repeat (first | (with_reducible first | exact HB.out | apply below_alloc | apply pw_below_drewN | apply below_drew1) | exact HB.out)) hb); clear HB; have HO143 := n0_; have HB := n1_; clear n0_ n1_; (try clear hb); (try clear hb2); (try clear hk); (try clear hi); (try clear ho0)) | ((with_reducible refine gate_callee (f := 8) rfl ?_); refine goesL_ (some 15) rfl rfl Tryd.func8 (by kernel_rfl) rfl #[.string (⟨#[97, 37]⟩ : ByteArray)] rfl (by (try simp only [List.map_toArray, List.map_cons, List.map_nil]); first | done | rfl | (simp only [List.length_drop, List.length_take]; rfl)) ?_; (with_reducible refine (lex_Tokens.calls (⟨#[97, 37]⟩ : ByteArray) t144 t145 _ A2.out).mono ?_); rintro e w39 ⟨v146, rfl, ho0, hb⟩; refine ⟨_, rfl, ?_⟩; have n0_ := Aside0.mk (Kd.R_elder' (by (with_reducible repeat (first | apply Kd.R_alloc | apply Kd.R_drewN | apply Kd.R_drew)); exact HO143.out) (Kd.R_base ho0) hb); have n1_ := Aside0.mk (Kd.R_lower (Kd.R_new' ho0 (Kd.R_lt (by (with_reducible repeat (first | apply Kd.R_alloc | apply Kd.R_drewN | apply Kd.R_drew)); exact HO143.out))) (below_size (by repeat (first | (with_reducible first | exact HB.out | apply below_alloc | apply pw_below_drewN | apply below_drew1) | exact HB.out)))); have n2_ := Aside0.mk (below_step (by repeat (first | (with_reducible first | exact HB.out | apply below_alloc | apply pw_below_drewN | apply below_drew1) | exact HB.out)) hb); clear HO143; clear HB; have HO143 := n0_; have HO147 := n1_; have HB := n2_; clear n0_ n1_ n2_; (try clear hb); (try clear hb2); (try clear hk); (try clear hi); (try clear ho0)) | ((with_reducible refine gate_callee (f := 8) rfl ?_); refine goesL_ (some 19) rfl rfl Tryd.func8 (by kernel_rfl) rfl #[.string (⟨#[34, 97]⟩ : ByteArray)] rfl (by (try simp only [List.map_toArray, List.map_cons, List.map_nil]); first | done | rfl | (simp only [List.length_drop, List.length_take]; rfl)) ?_; (with_reducible refine (lex_Tokens.calls (⟨#[34, 97]⟩ : ByteArray) t148 t149 _ A3.out).mono ?_); rintro e w40 ⟨v150, rfl, ho0, hb⟩; refine ⟨_, rfl, ?_⟩; have n0_ := Aside0.mk (Kd.R_elder' (by (with_reducible repeat (first | apply Kd.R_alloc | apply Kd.R_drewN | apply Kd.R_drew)); exact HO143.out) (Kd.R_base ho0) hb); have n1_ := Aside0.mk (Kd.R_elder' (by (with_reducible repeat (first | apply Kd.R_alloc | apply Kd.R_drewN | apply Kd.R_drew)); exact HO147.out) (Kd.R_base ho0) hb); have n2_ := Aside0.mk (Kd.R_lower (Kd.R_new' (Kd.R_new' ho0 (Kd.R_lt (by (with_reducible repeat (first | apply Kd.R_alloc | apply Kd.R_drewN | apply Kd.R_drew)); exact HO143.out))) (Kd.R_lt (by (with_reducible repeat (first | apply Kd.R_alloc | apply Kd.R_drewN | apply Kd.R_drew)); exact HO147.out))) (below_size (by repeat (first | (with_reducible first | exact HB.out | apply below_alloc | apply pw_below_drewN | apply below_drew1) | exact HB.out)))); have n3_ := Aside0.mk (below_step (by repeat (first | (with_reducible first | exact HB.out | apply below_alloc | apply pw_below_drewN | apply below_drew1) | exact HB.out)) hb); clear HO143; clear HO147; clear HB; have HO143 := n0_; have HO147 := n1_; have HO151 := n2_; have HB := n3_; clear n0_ n1_ n2_ n3_; (try clear hb); (try clear hb2); (try clear hk); (try clear hi); (try clear ho0)) | ((with_reducible refine gate_callee (f := 8) rfl ?_); refine goesL_ (some 23) rfl rfl Tryd.func8 (by kernel_rfl) rfl #[.string (⟨#[49, 50, 97]⟩ : ByteArray)] rfl (by (try simp only [List.map_toArray, List.map_cons, List.map_nil]); first | done | rfl | (simp only [List.length_drop, List.length_take]; rfl)) ?_; (with_reducible refine (lex_Tokens.calls (⟨#[49, 50, 97]⟩ : ByteArray) t152 t153 _ A4.out).mono ?_); rintro e w41 ⟨v154, rfl, ho0, hb⟩; refine ⟨_, rfl, ?_⟩; have n0_ := Aside0.mk (Kd.R_elder' (by (with_reducible repeat (first | apply Kd.R_alloc | apply Kd.R_drewN | apply Kd.R_drew)); exact HO143.out) (Kd.R_base ho0) hb); have n1_ := Aside0.mk (Kd.R_elder' (by (with_reducible repeat (first | apply Kd.R_alloc | apply Kd.R_drewN | apply Kd.R_drew)); exact HO147.out) (Kd.R_base ho0) hb); have n2_ := Aside0.mk (Kd.R_elder' (by (with_reducible repeat (first | apply Kd.R_alloc | apply Kd.R_drewN | apply Kd.R_drew)); exact HO151.out) (Kd.R_base ho0) hb); have n3_ := Aside0.mk (Kd.R_lower (Kd.R_new' (Kd.R_new' (Kd.R_new' ho0 (Kd.R_lt (by (with_reducible repeat (first | apply Kd.R_alloc | apply Kd.R_drewN | apply Kd.R_drew)); exact HO143.out))) (Kd.R_lt (by (with_reducible repeat (first | apply Kd.R_alloc | apply Kd.R_drewN | apply Kd.R_drew)); exact HO147.out))) (Kd.R_lt (by (with_reducible repeat (first | apply Kd.R_alloc | apply Kd.R_drewN | apply Kd.R_drew)); exact HO151.out))) (below_size (by repeat (first | (with_reducible first | exact HB.out | apply below_alloc | apply pw_below_drewN | apply below_drew1) | exact HB.out)))); have n4_ := Aside0.mk (below_step (by repeat (first | (with_reducible first | exact HB.out | apply below_alloc | apply pw_below_drewN | apply below_drew1) | exact HB.out)) hb); clear HO143; clear HO147; clear HO151; clear HB; have HO143 := n0_; have HO147 := n1_; have HO151 := n2_; have HO155 := n3_; have HB := n4_; clear n0_ n1_ n2_ n3_ n4_; (try clear hb); (try clear hb2); (try clear hk); (try clear hi); (try clear ho0)) | ((with_reducible refine gate_dst (N := 40) rfl ?_); refine Kd.R_lit k37 _ 37 ?hg (N := 40) ?hd (xs := ([(⟨3, (⟨#[123]⟩ : ByteArray), 0, 0⟩ : S37), (⟨0, (⟨#[97]⟩ : ByteArray), 0, 1⟩ : S37), (⟨3, (⟨#[40]⟩ : ByteArray), 0, 2⟩ : S37), (⟨0, (⟨#[98]⟩ : ByteArray), 0, 3⟩ : S37), (⟨3, (⟨#[58]⟩ : ByteArray), 0, 4⟩ : S37), (⟨1, (⟨#[]⟩ : ByteArray), (-12), 5⟩ : S37), (⟨0, (⟨#[99]⟩ : ByteArray), 0, 9⟩ : S37), (⟨3, (⟨#[58]⟩ : ByteArray), 0, 10⟩ : S37), (⟨2, (⟨#[120, 34, 10]⟩ : ByteArray), 0, 11⟩ : S37), (⟨3, (⟨#[41]⟩ : ByteArray), 0, 18⟩ : S37), (⟨3, (⟨#[46, 46, 46]⟩ : ByteArray), 0, 19⟩ : S37), (⟨3, (⟨#[36]⟩ : ByteArray), 0, 25⟩ : S37), (⟨0, (⟨#[95, 49]⟩ : ByteArray), 0, 26⟩ : S37), (⟨3, (⟨#[125]⟩ : ByteArray), 0, 28⟩ : S37)] : List (S37))) (inner := [.int .i64 3, .string (⟨#[123]⟩ : ByteArray), .int .i64 0, .int .i64 0, .int .i64 0, .string (⟨#[97]⟩ : ByteArray), .int .i64 0, .int .i64 1, .int .i64 3, .string (⟨#[40]⟩ : ByteArray), .int .i64 0, .int .i64 2, .int .i64 0, .string (⟨#[98]⟩ : ByteArray), .int .i64 0, .int .i64 3, .int .i64 3, .string (⟨#[58]⟩ : ByteArray), .int .i64 0, .int .i64 4, .int .i64 1, .string (⟨#[]⟩ : ByteArray), .int .i64 (-12), .int .i64 5, .int .i64 0, .string (⟨#[99]⟩ : ByteArray), .int .i64 0, .int .i64 9, .int .i64 3, .string (⟨#[58]⟩ : ByteArray), .int .i64 0, .int .i64 10, .int .i64 2, .string (⟨#[120, 34, 10]⟩ : ByteArray), .int .i64 0, .int .i64 11, .int .i64 3, .string (⟨#[41]⟩ : ByteArray), .int .i64 0, .int .i64 18, .int .i64 3, .string (⟨#[46, 46, 46]⟩ : ByteArray), .int .i64 0, .int .i64 19, .int .i64 3, .string (⟨#[36]⟩ : ByteArray), .int .i64 0, .int .i64 25, .int .i64 0, .string (⟨#[95, 49]⟩ : ByteArray), .int .i64 0, .int .i64 26, .int .i64 3, .string (⟨#[125]⟩ : ByteArray), .int .i64 0, .int .i64 28]) (ok := fun _ => True) (okp := fun _ => True) ?hr ?hp (fun _ hk => hk) trivial (Below.refl _ _) (Nat.le_refl _) (by simp) ?_; (case hd => rfl); (case hg => rfl); (case hr => first | (go_simp; done) | (go_simp; rfl)); (case hp => exact (Reps.c4 (show Kd.M k37 _ _ _ (⟨3, (⟨#[123]⟩ : ByteArray), 0, 0⟩ : S37) [.int .i64 3, .string (⟨#[123]⟩ : ByteArray), .int .i64 0, .int .i64 0] from (k37_mkM _ _ _ (⟨3, (⟨#[123]⟩ : ByteArray), 0, 0⟩ : S37) )) (Reps.c4 (show Kd.M k37 _ _ _ (⟨0, (⟨#[97]⟩ : ByteArray), 0, 1⟩ : S37) [.int .i64 0, .string (⟨#[97]⟩ : ByteArray), .int .i64 0, .int .i64 1] from (k37_mkM _ _ _ (⟨0, (⟨#[97]⟩ : ByteArray), 0, 1⟩ : S37) )) (Reps.c4 (show Kd.M k37 _ _ _ (⟨3, (⟨#[40]⟩ : ByteArray), 0, 2⟩ : S37) [.int .i64 3, .string (⟨#[40]⟩ : ByteArray), .int .i64 0, .int .i64 2] from (k37_mkM _ _ _ (⟨3, (⟨#[40]⟩ : ByteArray), 0, 2⟩ : S37) )) (Reps.c4 (show Kd.M k37 _ _ _ (⟨0, (⟨#[98]⟩ : ByteArray), 0, 3⟩ : S37) [.int .i64 0, .string (⟨#[98]⟩ : ByteArray), .int .i64 0, .int .i64 3] from (k37_mkM _ _ _ (⟨0, (⟨#[98]⟩ : ByteArray), 0, 3⟩ : S37) )) (Reps.c4 (show Kd.M k37 _ _ _ (⟨3, (⟨#[58]⟩ : ByteArray), 0, 4⟩ : S37) [.int .i64 3, .string (⟨#[58]⟩ : ByteArray), .int .i64 0, .int .i64 4] from (k37_mkM _ _ _ (⟨3, (⟨#[58]⟩ : ByteArray), 0, 4⟩ : S37) )) (Reps.c4 (show Kd.M k37 _ _ _ (⟨1, (⟨#[]⟩ : ByteArray), (-12), 5⟩ : S37) [.int .i64 1, .string (⟨#[]⟩ : ByteArray), .int .i64 (-12), .int .i64 5] from (k37_mkM _ _ _ (⟨1, (⟨#[]⟩ : ByteArray), (-12), 5⟩ : S37) )) (Reps.c4 (show Kd.M k37 _ _ _ (⟨0, (⟨#[99]⟩ : ByteArray), 0, 9⟩ : S37) [.int .i64 0, .string (⟨#[99]⟩ : ByteArray), .int .i64 0, .int .i64 9] from (k37_mkM _ _ _ (⟨0, (⟨#[99]⟩ : ByteArray), 0, 9⟩ : S37) )) (Reps.c4 (show Kd.M k37 _ _ _ (⟨3, (⟨#[58]⟩ : ByteArray), 0, 10⟩ : S37) [.int .i64 3, .string (⟨#[58]⟩ : ByteArray), .int .i64 0, .int .i64 10] from (k37_mkM _ _ _ (⟨3, (⟨#[58]⟩ : ByteArray), 0, 10⟩ : S37) )) (Reps.c4 (show Kd.M k37 _ _ _ (⟨2, (⟨#[120, 34, 10]⟩ : ByteArray), 0, 11⟩ : S37) [.int .i64 2, .string (⟨#[120, 34, 10]⟩ : ByteArray), .int .i64 0, .int .i64 11] from (k37_mkM _ _ _ (⟨2, (⟨#[120, 34, 10]⟩ : ByteArray), 0, 11⟩ : S37) )) (Reps.c4 (show Kd.M k37 _ _ _ (⟨3, (⟨#[41]⟩ : ByteArray), 0, 18⟩ : S37) [.int .i64 3, .string (⟨#[41]⟩ : ByteArray), .int .i64 0, .int .i64 18] from (k37_mkM _ _ _ (⟨3, (⟨#[41]⟩ : ByteArray), 0, 18⟩ : S37) )) (Reps.c4 (show Kd.M k37 _ _ _ (⟨3, (⟨#[46, 46, 46]⟩ : ByteArray), 0, 19⟩ : S37) [.int .i64 3, .string (⟨#[46, 46, 46]⟩ : ByteArray), .int .i64 0, .int .i64 19] from (k37_mkM _ _ _ (⟨3, (⟨#[46, 46, 46]⟩ : ByteArray), 0, 19⟩ : S37) )) (Reps.c4 (show Kd.M k37 _ _ _ (⟨3, (⟨#[36]⟩ : ByteArray), 0, 25⟩ : S37) [.int .i64 3, .string (⟨#[36]⟩ : ByteArray), .int .i64 0, .int .i64 25] from (k37_mkM _ _ _ (⟨3, (⟨#[36]⟩ : ByteArray), 0, 25⟩ : S37) )) (Reps.c4 (show Kd.M k37 _ _ _ (⟨0, (⟨#[95, 49]⟩ : ByteArray), 0, 26⟩ : S37) [.int .i64 0, .string (⟨#[95, 49]⟩ : ByteArray), .int .i64 0, .int .i64 26] from (k37_mkM _ _ _ (⟨0, (⟨#[95, 49]⟩ : ByteArray), 0, 26⟩ : S37) )) (Reps.c4 (show Kd.M k37 _ _ _ (⟨3, (⟨#[125]⟩ : ByteArray), 0, 28⟩ : S37) [.int .i64 3, .string (⟨#[125]⟩ : ByteArray), .int .i64 0, .int .i64 28] from (k37_mkM _ _ _ (⟨3, (⟨#[125]⟩ : ByteArray), 0, 28⟩ : S37) )) (Reps.none _ _)))))))))))))))); intro v157 w42 ho43 hb hg_ hnew_; clear hg_ hnew_; (first | rw [← Ny156.out] at ho43 | (simp only [Int.reduceToNat] at ho43; rw [← Ny156.out] at ho43)); have n0_ := Aside0.mk (Kd.R_elder' (by (with_reducible repeat (first | apply Kd.R_alloc | apply Kd.R_drewN | apply Kd.R_drew)); exact HO143.out) (Kd.R_base ho43) hb); have n1_ := Aside0.mk (Kd.R_elder' (by (with_reducible repeat (first | apply Kd.R_alloc | apply Kd.R_drewN | apply Kd.R_drew)); exact HO147.out) (Kd.R_base ho43) hb); have n2_ := Aside0.mk (Kd.R_elder' (by (with_reducible repeat (first | apply Kd.R_alloc | apply Kd.R_drewN | apply Kd.R_drew)); exact HO151.out) (Kd.R_base ho43) hb); have n3_ := Aside0.mk (Kd.R_elder' (by (with_reducible repeat (first | apply Kd.R_alloc | apply Kd.R_drewN | apply Kd.R_drew)); exact HO155.out) (Kd.R_base ho43) hb); have n4_ := Aside0.mk (Kd.R_lower (Kd.R_new' (Kd.R_new' (Kd.R_new' (Kd.R_new' ho43 (Kd.R_lt (by (with_reducible repeat (first | apply Kd.R_alloc | apply Kd.R_drewN | apply Kd.R_drew)); exact HO143.out))) (Kd.R_lt (by (with_reducible repeat (first | apply Kd.R_alloc | apply Kd.R_drewN | apply Kd.R_drew)); exact HO147.out))) (Kd.R_lt (by (with_reducible repeat (first | apply Kd.R_alloc | apply Kd.R_drewN | apply Kd.R_drew)); exact HO151.out))) (Kd.R_lt (by (with_reducible repeat (first | apply Kd.R_alloc | apply Kd.R_drewN | apply Kd.R_drew)); exact HO155.out))) (below_size (by repeat (first | (with_reducible first | exact HB.out | apply below_alloc | apply pw_below_drewN | apply below_drew1) | exact HB.out)))); have n5_ := Aside0.mk (below_step (by repeat (first | (with_reducible first | exact HB.out | apply below_alloc | apply pw_below_drewN | apply below_drew1) | exact HB.out)) hb); clear HO143; clear HO147; clear HO151; clear HO155; clear HB; have HO143 := n0_; have HO147 := n1_; have HO151 := n2_; have HO155 := n3_; have HO158 := n4_; have HB := n5_; clear n0_ n1_ n2_ n3_ n4_ n5_; clear hb ho43; obtain ⟨Ao44, co44, eo44⟩ := Kd.R_slice HO143.out; subst eo44; obtain ⟨Ao45, co45, eo45⟩ := Kd.R_slice HO158.out; subst eo45) | ((with_reducible refine gate_callee (f := 10) rfl ?_); refine goesL_ (some 43) rfl rfl Tryd.func10 (by kernel_rfl) rfl #[.slice Ao44 t140.length co44, .slice Ao45 y156.length co45] rfl (by (try simp only [List.map_toArray, List.map_cons, List.map_nil]); first | done | rfl | (simp only [List.length_drop, List.length_take]; rfl)) ?_; (with_reducible refine (tattlelaw0_SameTokens.calls k _ _ t140 _ _ y156 true _ ?side1 ?side2 ?side3 ?side4 A5.out).mono ?_); (case side1 => repeat (first | exact (Kd.R_reads' HO143.out).2.2 | (with_reducible refine Kd.C_alloc ?_ _) | (with_reducible refine Kd.C_drewN ?_ _) | (with_reducible refine Kd.C_drew ?_))); (case side2 => exact (Kd.R_reads' HO143.out).2.1); (case side3 => repeat (first | exact (Kd.R_reads' HO158.out).2.2 | (with_reducible refine Kd.C_alloc ?_ _) | (with_reducible refine Kd.C_drewN ?_ _) | (with_reducible refine Kd.C_drew ?_))); (case side4 => exact (Kd.R_reads' HO158.out).2.1); rintro e w' ⟨rfl, ⟨nd, rfl⟩⟩; refine ⟨_, rfl, ?_⟩) | (go_at_call 11; (with_reducible refine (tattlelaw0_Num.calls t141 t160 _ A7.out).mono ?_); rintro e w' ⟨rfl, ⟨nd, rfl⟩⟩))
      go_ret
      exact ⟨by first | rfl | (simp [errW_none, errW_some] <;> rfl) | (simp [*, errW_none, errW_some] <;> rfl), by repeat (first | (with_reducible first | exact HB.out | apply below_alloc | apply pw_below_drewN | apply below_drew1) | exact HB.out)⟩
  · replace c6 := Bool.eq_false_iff.mpr c6
    subst c6
    have H1 : (some false) = some r := by rw [if_neg (show ¬ (false = true) by decide)] at H; exact H
    clear H
    have H := H1
    clear H1
    obtain rfl := Option.some.inj H
    go_enter Tryd.func12, Tryd.ntmps12
    go_wp2_with (first | ((with_reducible refine gate_callee (f := 8) rfl ?_); refine goesL_ (some 11) rfl rfl Tryd.func8 (by kernel_rfl) rfl #[.string (⟨#[123, 97, 40, 98, 58, 45, 49, 50, 44, 99, 58, 34, 120, 92, 34, 92, 110, 34, 41, 46, 46, 46, 35, 113, 10, 36, 95, 49, 125]⟩ : ByteArray)] rfl (by (try simp only [List.map_toArray, List.map_cons, List.map_nil]); first | done | rfl | (simp only [List.length_drop, List.length_take]; rfl)) ?_; (with_reducible refine (lex_Tokens.calls (⟨#[123, 97, 40, 98, 58, 45, 49, 50, 44, 99, 58, 34, 120, 92, 34, 92, 110, 34, 41, 46, 46, 46, 35, 113, 10, 36, 95, 49, 125]⟩ : ByteArray) t140 t141 _ A1.out).mono ?_); rintro e w46 ⟨v142, rfl, ho0, hb⟩; refine ⟨_, rfl, ?_⟩; have n0_ := Aside0.mk (Kd.R_lower ho0 (below_size (by repeat (first | (with_reducible first | exact HB.out | apply below_alloc | apply pw_below_drewN | apply below_drew1) | exact HB.out)))); have n1_ := Aside0.mk (below_step (by repeat (first | (with_reducible first | exact HB.out | apply below_alloc | apply pw_below_drewN | apply below_drew1) | exact HB.out)) hb); clear HB; have HO143 := n0_; have HB := n1_; clear n0_ n1_; (try clear hb); (try clear hb2); (try clear hk); (try clear hi); (try clear ho0)) | ((with_reducible refine gate_callee (f := 8) rfl ?_); refine goesL_ (some 15) rfl rfl Tryd.func8 (by kernel_rfl) rfl #[.string (⟨#[97, 37]⟩ : ByteArray)] rfl (by (try simp only [List.map_toArray, List.map_cons, List.map_nil]); first | done | rfl | (simp only [List.length_drop, List.length_take]; rfl)) ?_; (with_reducible refine (lex_Tokens.calls (⟨#[97, 37]⟩ : ByteArray) t144 t145 _ A2.out).mono ?_); rintro e w47 ⟨v146, rfl, ho0, hb⟩; refine ⟨_, rfl, ?_⟩; have n0_ := Aside0.mk (Kd.R_elder' (by (with_reducible repeat (first | apply Kd.R_alloc | apply Kd.R_drewN | apply Kd.R_drew)); exact HO143.out) (Kd.R_base ho0) hb); have n1_ := Aside0.mk (Kd.R_lower (Kd.R_new' ho0 (Kd.R_lt (by (with_reducible repeat (first | apply Kd.R_alloc | apply Kd.R_drewN | apply Kd.R_drew)); exact HO143.out))) (below_size (by repeat (first | (with_reducible first | exact HB.out | apply below_alloc | apply pw_below_drewN | apply below_drew1) | exact HB.out)))); have n2_ := Aside0.mk (below_step (by repeat (first | (with_reducible first | exact HB.out | apply below_alloc | apply pw_below_drewN | apply below_drew1) | exact HB.out)) hb); clear HO143; clear HB; have HO143 := n0_; have HO147 := n1_; have HB := n2_; clear n0_ n1_ n2_; (try clear hb); (try clear hb2); (try clear hk); (try clear hi); (try clear ho0)) | ((with_reducible refine gate_callee (f := 8) rfl ?_); refine goesL_ (some 19) rfl rfl Tryd.func8 (by kernel_rfl) rfl #[.string (⟨#[34, 97]⟩ : ByteArray)] rfl (by (try simp only [List.map_toArray, List.map_cons, List.map_nil]); first | done | rfl | (simp only [List.length_drop, List.length_take]; rfl)) ?_; (with_reducible refine (lex_Tokens.calls (⟨#[34, 97]⟩ : ByteArray) t148 t149 _ A3.out).mono ?_); rintro e w48 ⟨v150, rfl, ho0, hb⟩; refine ⟨_, rfl, ?_⟩; have n0_ := Aside0.mk (Kd.R_elder' (by (with_reducible repeat (first | apply Kd.R_alloc | apply Kd.R_drewN | apply Kd.R_drew)); exact HO143.out) (Kd.R_base ho0) hb); have n1_ := Aside0.mk (Kd.R_elder' (by (with_reducible repeat (first | apply Kd.R_alloc | apply Kd.R_drewN | apply Kd.R_drew)); exact HO147.out) (Kd.R_base ho0) hb); have n2_ := Aside0.mk (Kd.R_lower (Kd.R_new' (Kd.R_new' ho0 (Kd.R_lt (by (with_reducible repeat (first | apply Kd.R_alloc | apply Kd.R_drewN | apply Kd.R_drew)); exact HO143.out))) (Kd.R_lt (by (with_reducible repeat (first | apply Kd.R_alloc | apply Kd.R_drewN | apply Kd.R_drew)); exact HO147.out))) (below_size (by repeat (first | (with_reducible first | exact HB.out | apply below_alloc | apply pw_below_drewN | apply below_drew1) | exact HB.out)))); have n3_ := Aside0.mk (below_step (by repeat (first | (with_reducible first | exact HB.out | apply below_alloc | apply pw_below_drewN | apply below_drew1) | exact HB.out)) hb); clear HO143; clear HO147; clear HB; have HO143 := n0_; have HO147 := n1_; have HO151 := n2_; have HB := n3_; clear n0_ n1_ n2_ n3_; (try clear hb); (try clear hb2); (try clear hk); (try clear hi); (try clear ho0)) | ((with_reducible refine gate_callee (f := 8) rfl ?_); refine goesL_ (some 23) rfl rfl Tryd.func8 (by kernel_rfl) rfl #[.string (⟨#[49, 50, 97]⟩ : ByteArray)] rfl (by (try simp only [List.map_toArray, List.map_cons, List.map_nil]); first | done | rfl | (simp only [List.length_drop, List.length_take]; rfl)) ?_; (with_reducible refine (lex_Tokens.calls (⟨#[49, 50, 97]⟩ : ByteArray) t152 t153 _ A4.out).mono ?_); rintro e w49 ⟨v154, rfl, ho0, hb⟩; refine ⟨_, rfl, ?_⟩; have n0_ := Aside0.mk (Kd.R_elder' (by (with_reducible repeat (first | apply Kd.R_alloc | apply Kd.R_drewN | apply Kd.R_drew)); exact HO143.out) (Kd.R_base ho0) hb); have n1_ := Aside0.mk (Kd.R_elder' (by (with_reducible repeat (first | apply Kd.R_alloc | apply Kd.R_drewN | apply Kd.R_drew)); exact HO147.out) (Kd.R_base ho0) hb); have n2_ := Aside0.mk (Kd.R_elder' (by (with_reducible repeat (first | apply Kd.R_alloc | apply Kd.R_drewN | apply Kd.R_drew)); exact HO151.out) (Kd.R_base ho0) hb); have n3_ := Aside0.mk (Kd.R_lower (Kd.R_new' (Kd.R_new' (Kd.R_new' ho0 (Kd.R_lt (by (with_reducible repeat (first | apply Kd.R_alloc | apply Kd.R_drewN | apply Kd.R_drew)); exact HO143.out))) (Kd.R_lt (by (with_reducible repeat (first | apply Kd.R_alloc | apply Kd.R_drewN | apply Kd.R_drew)); exact HO147.out))) (Kd.R_lt (by (with_reducible repeat (first | apply Kd.R_alloc | apply Kd.R_drewN | apply Kd.R_drew)); exact HO151.out))) (below_size (by repeat (first | (with_reducible first | exact HB.out | apply below_alloc | apply pw_below_drewN | apply below_drew1) | exact HB.out)))); have n4_ := Aside0.mk (below_step (by repeat (first | (with_reducible first | exact HB.out | apply below_alloc | apply pw_below_drewN | apply below_drew1) | exact HB.out)) hb); clear HO143; clear HO147; clear HO151; clear HB; have HO143 := n0_; have HO147 := n1_; have HO151 := n2_; have HO155 := n3_; have HB := n4_; clear n0_ n1_ n2_ n3_ n4_; (try clear hb); (try clear hb2); (try clear hk); (try clear hi); (try clear ho0)) | ((with_reducible refine gate_dst (N := 40) rfl ?_); refine Kd.R_lit k37 _ 37 ?hg (N := 40) ?hd (xs := ([(⟨3, (⟨#[123]⟩ : ByteArray), 0, 0⟩ : S37), (⟨0, (⟨#[97]⟩ : ByteArray), 0, 1⟩ : S37), (⟨3, (⟨#[40]⟩ : ByteArray), 0, 2⟩ : S37), (⟨0, (⟨#[98]⟩ : ByteArray), 0, 3⟩ : S37), (⟨3, (⟨#[58]⟩ : ByteArray), 0, 4⟩ : S37), (⟨1, (⟨#[]⟩ : ByteArray), (-12), 5⟩ : S37), (⟨0, (⟨#[99]⟩ : ByteArray), 0, 9⟩ : S37), (⟨3, (⟨#[58]⟩ : ByteArray), 0, 10⟩ : S37), (⟨2, (⟨#[120, 34, 10]⟩ : ByteArray), 0, 11⟩ : S37), (⟨3, (⟨#[41]⟩ : ByteArray), 0, 18⟩ : S37), (⟨3, (⟨#[46, 46, 46]⟩ : ByteArray), 0, 19⟩ : S37), (⟨3, (⟨#[36]⟩ : ByteArray), 0, 25⟩ : S37), (⟨0, (⟨#[95, 49]⟩ : ByteArray), 0, 26⟩ : S37), (⟨3, (⟨#[125]⟩ : ByteArray), 0, 28⟩ : S37)] : List (S37))) (inner := [.int .i64 3, .string (⟨#[123]⟩ : ByteArray), .int .i64 0, .int .i64 0, .int .i64 0, .string (⟨#[97]⟩ : ByteArray), .int .i64 0, .int .i64 1, .int .i64 3, .string (⟨#[40]⟩ : ByteArray), .int .i64 0, .int .i64 2, .int .i64 0, .string (⟨#[98]⟩ : ByteArray), .int .i64 0, .int .i64 3, .int .i64 3, .string (⟨#[58]⟩ : ByteArray), .int .i64 0, .int .i64 4, .int .i64 1, .string (⟨#[]⟩ : ByteArray), .int .i64 (-12), .int .i64 5, .int .i64 0, .string (⟨#[99]⟩ : ByteArray), .int .i64 0, .int .i64 9, .int .i64 3, .string (⟨#[58]⟩ : ByteArray), .int .i64 0, .int .i64 10, .int .i64 2, .string (⟨#[120, 34, 10]⟩ : ByteArray), .int .i64 0, .int .i64 11, .int .i64 3, .string (⟨#[41]⟩ : ByteArray), .int .i64 0, .int .i64 18, .int .i64 3, .string (⟨#[46, 46, 46]⟩ : ByteArray), .int .i64 0, .int .i64 19, .int .i64 3, .string (⟨#[36]⟩ : ByteArray), .int .i64 0, .int .i64 25, .int .i64 0, .string (⟨#[95, 49]⟩ : ByteArray), .int .i64 0, .int .i64 26, .int .i64 3, .string (⟨#[125]⟩ : ByteArray), .int .i64 0, .int .i64 28]) (ok := fun _ => True) (okp := fun _ => True) ?hr ?hp (fun _ hk => hk) trivial (Below.refl _ _) (Nat.le_refl _) (by simp) ?_; (case hd => rfl); (case hg => rfl); (case hr => first | (go_simp; done) | (go_simp; rfl)); (case hp => exact (Reps.c4 (show Kd.M k37 _ _ _ (⟨3, (⟨#[123]⟩ : ByteArray), 0, 0⟩ : S37) [.int .i64 3, .string (⟨#[123]⟩ : ByteArray), .int .i64 0, .int .i64 0] from (k37_mkM _ _ _ (⟨3, (⟨#[123]⟩ : ByteArray), 0, 0⟩ : S37) )) (Reps.c4 (show Kd.M k37 _ _ _ (⟨0, (⟨#[97]⟩ : ByteArray), 0, 1⟩ : S37) [.int .i64 0, .string (⟨#[97]⟩ : ByteArray), .int .i64 0, .int .i64 1] from (k37_mkM _ _ _ (⟨0, (⟨#[97]⟩ : ByteArray), 0, 1⟩ : S37) )) (Reps.c4 (show Kd.M k37 _ _ _ (⟨3, (⟨#[40]⟩ : ByteArray), 0, 2⟩ : S37) [.int .i64 3, .string (⟨#[40]⟩ : ByteArray), .int .i64 0, .int .i64 2] from (k37_mkM _ _ _ (⟨3, (⟨#[40]⟩ : ByteArray), 0, 2⟩ : S37) )) (Reps.c4 (show Kd.M k37 _ _ _ (⟨0, (⟨#[98]⟩ : ByteArray), 0, 3⟩ : S37) [.int .i64 0, .string (⟨#[98]⟩ : ByteArray), .int .i64 0, .int .i64 3] from (k37_mkM _ _ _ (⟨0, (⟨#[98]⟩ : ByteArray), 0, 3⟩ : S37) )) (Reps.c4 (show Kd.M k37 _ _ _ (⟨3, (⟨#[58]⟩ : ByteArray), 0, 4⟩ : S37) [.int .i64 3, .string (⟨#[58]⟩ : ByteArray), .int .i64 0, .int .i64 4] from (k37_mkM _ _ _ (⟨3, (⟨#[58]⟩ : ByteArray), 0, 4⟩ : S37) )) (Reps.c4 (show Kd.M k37 _ _ _ (⟨1, (⟨#[]⟩ : ByteArray), (-12), 5⟩ : S37) [.int .i64 1, .string (⟨#[]⟩ : ByteArray), .int .i64 (-12), .int .i64 5] from (k37_mkM _ _ _ (⟨1, (⟨#[]⟩ : ByteArray), (-12), 5⟩ : S37) )) (Reps.c4 (show Kd.M k37 _ _ _ (⟨0, (⟨#[99]⟩ : ByteArray), 0, 9⟩ : S37) [.int .i64 0, .string (⟨#[99]⟩ : ByteArray), .int .i64 0, .int .i64 9] from (k37_mkM _ _ _ (⟨0, (⟨#[99]⟩ : ByteArray), 0, 9⟩ : S37) )) (Reps.c4 (show Kd.M k37 _ _ _ (⟨3, (⟨#[58]⟩ : ByteArray), 0, 10⟩ : S37) [.int .i64 3, .string (⟨#[58]⟩ : ByteArray), .int .i64 0, .int .i64 10] from (k37_mkM _ _ _ (⟨3, (⟨#[58]⟩ : ByteArray), 0, 10⟩ : S37) )) (Reps.c4 (show Kd.M k37 _ _ _ (⟨2, (⟨#[120, 34, 10]⟩ : ByteArray), 0, 11⟩ : S37) [.int .i64 2, .string (⟨#[120, 34, 10]⟩ : ByteArray), .int .i64 0, .int .i64 11] from (k37_mkM _ _ _ (⟨2, (⟨#[120, 34, 10]⟩ : ByteArray), 0, 11⟩ : S37) )) (Reps.c4 (show Kd.M k37 _ _ _ (⟨3, (⟨#[41]⟩ : ByteArray), 0, 18⟩ : S37) [.int .i64 3, .string (⟨#[41]⟩ : ByteArray), .int .i64 0, .int .i64 18] from (k37_mkM _ _ _ (⟨3, (⟨#[41]⟩ : ByteArray), 0, 18⟩ : S37) )) (Reps.c4 (show Kd.M k37 _ _ _ (⟨3, (⟨#[46, 46, 46]⟩ : ByteArray), 0, 19⟩ : S37) [.int .i64 3, .string (⟨#[46, 46, 46]⟩ : ByteArray), .int .i64 0, .int .i64 19] from (k37_mkM _ _ _ (⟨3, (⟨#[46, 46, 46]⟩ : ByteArray), 0, 19⟩ : S37) )) (Reps.c4 (show Kd.M k37 _ _ _ (⟨3, (⟨#[36]⟩ : ByteArray), 0, 25⟩ : S37) [.int .i64 3, .string (⟨#[36]⟩ : ByteArray), .int .i64 0, .int .i64 25] from (k37_mkM _ _ _ (⟨3, (⟨#[36]⟩ : ByteArray), 0, 25⟩ : S37) )) (Reps.c4 (show Kd.M k37 _ _ _ (⟨0, (⟨#[95, 49]⟩ : ByteArray), 0, 26⟩ : S37) [.int .i64 0, .string (⟨#[95, 49]⟩ : ByteArray), .int .i64 0, .int .i64 26] from (k37_mkM _ _ _ (⟨0, (⟨#[95, 49]⟩ : ByteArray), 0, 26⟩ : S37) )) (Reps.c4 (show Kd.M k37 _ _ _ (⟨3, (⟨#[125]⟩ : ByteArray), 0, 28⟩ : S37) [.int .i64 3, .string (⟨#[125]⟩ : ByteArray), .int .i64 0, .int .i64 28] from (k37_mkM _ _ _ (⟨3, (⟨#[125]⟩ : ByteArray), 0, 28⟩ : S37) )) (Reps.none _ _)))))))))))))))); intro v157 w50 ho51 hb hg_ hnew_; clear hg_ hnew_; (first | rw [← Ny156.out] at ho51 | (simp only [Int.reduceToNat] at ho51; rw [← Ny156.out] at ho51)); have n0_ := Aside0.mk (Kd.R_elder' (by (with_reducible repeat (first | apply Kd.R_alloc | apply Kd.R_drewN | apply Kd.R_drew)); exact HO143.out) (Kd.R_base ho51) hb); have n1_ := Aside0.mk (Kd.R_elder' (by (with_reducible repeat (first | apply Kd.R_alloc | apply Kd.R_drewN | apply Kd.R_drew)); exact HO147.out) (Kd.R_base ho51) hb); have n2_ := Aside0.mk (Kd.R_elder' (by (with_reducible repeat (first | apply Kd.R_alloc | apply Kd.R_drewN | apply Kd.R_drew)); exact HO151.out) (Kd.R_base ho51) hb); have n3_ := Aside0.mk (Kd.R_elder' (by (with_reducible repeat (first | apply Kd.R_alloc | apply Kd.R_drewN | apply Kd.R_drew)); exact HO155.out) (Kd.R_base ho51) hb); have n4_ := Aside0.mk (Kd.R_lower (Kd.R_new' (Kd.R_new' (Kd.R_new' (Kd.R_new' ho51 (Kd.R_lt (by (with_reducible repeat (first | apply Kd.R_alloc | apply Kd.R_drewN | apply Kd.R_drew)); exact HO143.out))) (Kd.R_lt (by (with_reducible repeat (first | apply Kd.R_alloc | apply Kd.R_drewN | apply Kd.R_drew)); exact HO147.out))) (Kd.R_lt (by (with_reducible repeat (first | apply Kd.R_alloc | apply Kd.R_drewN | apply Kd.R_drew)); exact HO151.out))) (Kd.R_lt (by (with_reducible repeat (first | apply Kd.R_alloc | apply Kd.R_drewN | apply Kd.R_drew)); exact HO155.out))) (below_size (by repeat (first | (with_reducible first | exact HB.out | apply below_alloc | apply pw_below_drewN | apply below_drew1) | exact HB.out)))); have n5_ := Aside0.mk (below_step (by repeat (first | (with_reducible first | exact HB.out | apply below_alloc | apply pw_below_drewN | apply below_drew1) | exact HB.out)) hb); clear HO143; clear HO147; clear HO151; clear HO155; clear HB; have HO143 := n0_; have HO147 := n1_; have HO151 := n2_; have HO155 := n3_; have HO158 := n4_; have HB := n5_; clear n0_ n1_ n2_ n3_ n4_ n5_; clear hb ho51; obtain ⟨Ao52, co52, eo52⟩ := Kd.R_slice HO143.out; subst eo52; obtain ⟨Ao53, co53, eo53⟩ := Kd.R_slice HO158.out; subst eo53) | ((with_reducible refine gate_callee (f := 10) rfl ?_); refine goesL_ (some 43) rfl rfl Tryd.func10 (by kernel_rfl) rfl #[.slice Ao52 t140.length co52, .slice Ao53 y156.length co53] rfl (by (try simp only [List.map_toArray, List.map_cons, List.map_nil]); first | done | rfl | (simp only [List.length_drop, List.length_take]; rfl)) ?_; (with_reducible refine (tattlelaw0_SameTokens.calls k _ _ t140 _ _ y156 false _ ?side1 ?side2 ?side3 ?side4 A5.out).mono ?_); (case side1 => repeat (first | exact (Kd.R_reads' HO143.out).2.2 | (with_reducible refine Kd.C_alloc ?_ _) | (with_reducible refine Kd.C_drewN ?_ _) | (with_reducible refine Kd.C_drew ?_))); (case side2 => exact (Kd.R_reads' HO143.out).2.1); (case side3 => repeat (first | exact (Kd.R_reads' HO158.out).2.2 | (with_reducible refine Kd.C_alloc ?_ _) | (with_reducible refine Kd.C_drewN ?_ _) | (with_reducible refine Kd.C_drew ?_))); (case side4 => exact (Kd.R_reads' HO158.out).2.1); rintro e w' ⟨rfl, ⟨nd, rfl⟩⟩; refine ⟨_, rfl, ?_⟩))
    go_ret
    exact ⟨by first | rfl | (simp [errW_none, errW_some] <;> rfl) | (simp [*, errW_none, errW_some] <;> rfl), by repeat (first | (with_reducible first | exact HB.out | apply below_alloc | apply pw_below_drewN | apply below_drew1) | exact HB.out)⟩

-- NOT PRINTED: function 3 (tattlelaw13_Lexes)

end Go.Proofs.YtapbpmpeikobcaaDoor.Q
