/- What the lexer's add leaves: one token more, the place behind it. Conditions: the tokens' row is the call's own, fewer than 70000 of them. -/
import Derived.Test.YtapbpmpeikobcaaDoorHLex1
set_option linter.unusedVariables false
set_option linter.unusedSimpArgs false
namespace Go.Proofs.YtapbpmpeikobcaaDoor.Q
open Go.RowKit Go.Proofs.YtapbpmpeikobcaaDoorW.PrintWords Go.Proofs.YtapbpmpeikobcaaDoorW.PrintLast Go.Proofs.YtapbpmpeikobcaaDoorW.PrintMore

/-- Tokens' cells. -/
def tcells (ts : List Lx.Tok) : List Value := ts.flatMap fun t => [.int .i64 t.kind, .string (ba t.text), .int .i64 t.int, .int .i64 (t.pos : Int)]
theorem tcells_snoc (ts : List Lx.Tok) (t : Lx.Tok) : tcells (ts ++ [t]) = tcells ts ++ [.int .i64 t.kind, .string (ba t.text), .int .i64 t.int, .int .i64 (t.pos : Int)] := by simp [tcells]
/-- The lexer at block g, one of the call's own (from B on), stands at a place with these tokens. -/
def LxSt (B : Nat) (w : World) (g : Nat) (s : ByteArray) (p : Nat) (ts : List Lx.Tok) : Prop :=
  ∃ v, IsLx w g s p v ∧ B ≤ g ∧ w.ownsRow B 37 4 v ts.length (tcells ts)
def LxPost (B : Nat) (w : World) (g : Nat) (s : ByteArray) (p : Nat) (ts : List Lx.Tok) : Ending → World → Prop := fun e w' =>
  e = .returned (.int .i64 0) ∧ LxSt B w' g s p ts ∧ Below B w w'
set_option maxRecDepth 20000 in
theorem add_any (B g : Nat) (s : ByteArray) (p : Nat) (ts : List Lx.Tok) (kd : Int) (tx : List UInt8) (i a : Int) (q : Nat) (w : World) (h : LxSt B w g s p ts) (hl : ts.length ≤ 70000) :
    Calls Tryd.prog 32 #[.pointer (some ⟨g, 0, none⟩), .agg #[.int .i64 kd, .string (ba tx), .int .i64 i, .int .i64 a], .int .i64 q] w (LxPost B w g s q (ts ++ [⟨kd, tx, i, p⟩])) := by
  obtain ⟨v, hI, hB, hO⟩ := h
  have hlt := blk_lt hI
  obtain ⟨hc0, hc1, hc2, hf1, hf2⟩ := hI.cells
  have hu37 := Tryd.underlying37
  have hne : some g ≠ v.ownBlock := fun e => own_far hO hI (by decide) g e.symm rfl
  have HI := Aside0.mk hI; have HO := Aside0.mk hO; have HN := Aside0.mk hne; clear hI hO hne
  go_enter Tryd.func32, Tryd.ntmps32
  go_wp2_with fail
  have hOw := World.ownsRow.alloc HO.out (.cells #[.int .i64 kd, .string (ba tx), .int .i64 i, .int .i64 (p : Int)] 37)
  have hm1 : ts.length + 1 ≤ maxLen := by unfold maxLen; omega
  have hm2 : (ts.length + 1) * 40 ≤ 140737488355328 := by omega
  have HOw := Aside0.mk hOw; have Hm1 := Aside0.mk hm1; have Hm2 := Aside0.mk hm2; clear hOw hm1 hm2
  go_region_law (first | (refine step_app (by rfl) _ _ _ (by rfl) B 37 _ 4 40 Tryd.underlying22 info37 rfl (by decide) v ts.length _ (by rfl) #[.int .i64 kd, .string (ba tx), .int .i64 i, .int .i64 (p : Int)] (pw_own_drewN HOw.out 1) (by simp; omega) (by show Value.slice (some ⟨w.heap.size + 1, 0, none⟩) 1 1 = _; simp) rfl rfl Hm1.out Hm2.out ?_; intro gg cap w3 hown3 hgrow; have hd2 := (blk_cell (blk_grown (blk_alloc (blk_drew (blk_alloc HI.out _)) _) hgrow HN.out) 2).trans rfl; have hf3 := blk_frozen (blk_grown (blk_alloc (blk_drew (blk_alloc HI.out _)) _) hgrow HN.out) 2) | fail "arm")
  all_goals
    have hI3 : IsLx w3 g s p v := blk_grown (blk_alloc (blk_drew (blk_alloc HI.out _)) _) hgrow HN.out
    have hb3 : Below B w w3 := by
      have b1 : Below B w ((w.alloc (.cells #[.int .i64 kd, .string (ba tx), .int .i64 i, .int .i64 (p : Int)] 37)).drewN 1) := ((Below.refl B w).alloc (by omega) _).drew
      exact (b1.alloc (by simp; omega) _).grown hgrow (by simp; omega) (fun k hk => own_base HO.out k hk)
    have hd1 := (blk_cell hI3 1).trans rfl
    have hf1' := blk_frozen hI3 1
    have HI3 := Aside0.mk hI3; have HW3 := Aside0.mk hown3; have HB3 := Aside0.mk hb3; clear hI3 hown3 hb3 hgrow
    go_wp2
    go_ret
    refine ⟨rfl, ⟨_, (HI3.out.out _).at_ q, hB, ?_⟩, ?_⟩
    · rw [List.length_append, List.length_singleton, tcells_snoc]
      exact own_move HW3.out (fun k hk => by
        have : k ≠ g := fun e => own_far HW3.out HI3.out (by decide) k hk e
        rw [Below.heap_setCell _ _ _ _ this, Below.heap_setCell _ _ _ _ this])
    · exact (HB3.out.setCell (p := ⟨g, 2, none⟩) hB _).setCell (p := ⟨g, 1, none⟩) hB _
end Go.Proofs.YtapbpmpeikobcaaDoor.Q
