/- What op's reader reads of what an operation's kind names, into an operation that lies in memory. Condition: a text of at most 140737488351232 bytes. -/
import Derived.Test.YtaaaeonalomcgaaUHRead
set_option linter.unusedVariables false
set_option linter.unusedSimpArgs false
namespace Go.Proofs.Ytaaaeonalomcgaa.Q
open Go.RowKit Go.Proofs.YtaaaeonalomcgaaW.PrintWords Go.Proofs.YtaaaeonalomcgaaW.PrintLast Go.Proofs.YtaaaeonalomcgaaW.PrintMore Sp
def IsOp (W : World) (o : Nat) (d0 d1 t : Int) (A : Value) (k : Int) (ty id fl val : ByteArray) (n0 n1 r0 r1 : Int) (D : Value) : Prop :=
  W.heap[o]? = some (.cells #[.int .i64 d0, .int .i64 d1, .int .i64 t, A, .int .i64 k, .string ty, .string id, .string fl, .string val, .int .i64 n0, .int .i64 n1, .int .i64 r0, .int .i64 r1, D] 29 (0, 0))
def dcells (ds : List (Int × Int)) : List Value := ds.flatMap fun d => [.int .i64 d.1, .int .i64 d.2]
theorem dcells_snoc (ds : List (Int × Int)) (d : Int × Int) : dcells (ds ++ [d]) = dcells ds ++ [.int .i64 d.1, .int .i64 d.2] := by simp [dcells]
def dotsS : Nat → Option (List UInt8) → List (Int × Int) × Option (List UInt8)
  | 0, st => ([], st)
  | j + 1, st => ((dotsS j st).1 ++ [(dotS (dotsS j st).2).1], (dotS (dotsS j st).2).2)
theorem dotsS_len (j : Nat) (st : Option (List UInt8)) : (dotsS j st).1.length = j := by induction j with | zero => rfl | succ j ih => simp [dotsS, ih]
structure OwnR where
  val : List UInt8 := []
  n0 : Int := 0
  n1 : Int := 0
  r0 : Int := 0
  r1 : Int := 0
  dots : List (Int × Int) := []
  st : Option (List UInt8)
def ownS (k : Int) (st : Option (List UInt8)) : OwnR :=
  if k = 0 ∨ k = 2 then { val := (textS st).1, st := (textS st).2 }
  else if k = 1 then { n0 := (foldS st).1, n1 := (foldS (foldS st).2).1, st := (foldS (foldS st).2).2 }
  else if k = 3 then { dots := (dotsS (min (numS st).1 65).toNat (numS st).2).1, st := (dotsS (min (numS st).1 65).toNat (numS st).2).2 }
  else if k = 4 then { r0 := (dotS st).1.1, r1 := (dotS st).1.2, val := (textS (dotS st).2).1, st := (textS (dotS st).2).2 }
  else if k = 5 then { r0 := (dotS st).1.1, r1 := (dotS st).1.2, st := (dotS st).2 }
  else { st := st }
def OwnPost (w : World) (g o : Nat) (s : ByteArray) (d0 d1 t : Int) (A : Value) (k : Int) (ty id fl : ByteArray) (R : OwnR) : Ending → World → Prop := fun e w' =>
  e = .returned (.tuple #[]) ∧ Rd w' g s R.st ∧ (∃ D, IsOp w' o d0 d1 t A k ty id fl ⟨R.val.toArray⟩ R.n0 R.n1 R.r0 R.r1 D ∧ w'.ownsRow w.heap.size 23 2 D R.dots.length (dcells R.dots)) ∧ Chg (fun i => i = g ∨ i = o) w w'
section
variable {g o : Nat} {s : ByteArray} {st : Option (List UInt8)} {w : World} {d0 d1 t : Int} {A : Value} {ty id fl : ByteArray}
theorem own_text (k : Int) (hk : k = 0 ∨ k = 2) (hs : s.size ≤ 140737488351232) (hgo : g ≠ o) (hR : Rd w g s st) (hO : IsOp w o d0 d1 t A k ty id fl ⟨#[]⟩ 0 0 0 0 (.slice none 0 0)) :
    Calls Try.prog 30 #[.pointer (some ⟨g, 0, none⟩), .pointer (some ⟨o, 0, none⟩)] w (OwnPost w g o s d0 d1 t A k ty id fl { val := (textS st).1, st := (textS st).2 }) := by
  have hk4 : w.cell? ⟨o, 4, none⟩ = some (.int .i64 k) := (blk_cell hO 4).trans rfl
  have hfin : ∀ w1, Rd w1 g s (textS st).2 → Chg (· = g) w w1 → OwnPost w g o s d0 d1 t A k ty id fl { val := (textS st).1, st := (textS st).2 } (.returned (.tuple #[])) (w1.setCell ⟨o, 8, none⟩ (.string ⟨(textS st).1.toArray⟩)) := by
    intro w1 h1 c1
    have hO1 := c1.blk hO (Ne.symm hgo)
    refine ⟨rfl, Rd.of w1 _ h1 (S := (· = o)) ((Chg.refl _ _).seti _ _) hgo, ⟨_, blk_put hO1 8 _ rfl, rfl, .inl ⟨rfl, rfl⟩⟩, ?_⟩
    exact (c1.mono (fun i h => .inl (.inl h))).set (.inl (.inr rfl)) _
  have Hfin := Aside0.mk hfin; clear hfin
  have HO := Aside0.mk hO; have HR := Aside0.mk hR; clear hO hR
  rcases hk with rfl | rfl
  all_goals
    go_enter Try.func30, Try.ntmps30
    go_wp2_with fail
    refine (rd_text g s st _ hs HR.out).mono ?_
    rintro e w1 ⟨rfl, h1, c1⟩
    have hc8 := (blk_cell (c1.blk HO.out (Ne.symm hgo)) 8).trans rfl
    have hf8 := blk_frozen (c1.blk HO.out (Ne.symm hgo)) 8
    have H1 := Aside0.mk h1; have C1 := Aside0.mk c1; clear h1 c1
    go_wp2_with fail
    first | go_end0 | ((try simp only [Exit.inBlock, Exit.then]); refine bodyPost_ret (results_none rfl _ _ _) rfl ?_)
    exact Hfin.out w1 H1.out C1.out
theorem own_num (hs : s.size ≤ 140737488351232) (hgo : g ≠ o) (hR : Rd w g s st) (hO : IsOp w o d0 d1 t A 1 ty id fl ⟨#[]⟩ 0 0 0 0 (.slice none 0 0)) :
    Calls Try.prog 30 #[.pointer (some ⟨g, 0, none⟩), .pointer (some ⟨o, 0, none⟩)] w (OwnPost w g o s d0 d1 t A 1 ty id fl { n0 := (foldS st).1, n1 := (foldS (foldS st).2).1, st := (foldS (foldS st).2).2 }) := by
  have hk4 : w.cell? ⟨o, 4, none⟩ = some (.int .i64 1) := (blk_cell hO 4).trans rfl
  have hu26 := Try.underlying26
  have HO := Aside0.mk hO; have HR := Aside0.mk hR; clear hO hR
  go_enter Try.func30, Try.ntmps30
  go_wp2_with fail
  refine (rd_fold g s st _ hs HR.out).mono ?_
  rintro e w1 ⟨rfl, h1, c1⟩
  have H1 := Aside0.mk h1; have C1 := Aside0.mk c1; clear h1 c1
  go_wp2_with fail
  refine (rd_fold g s _ _ hs H1.out).mono ?_
  rintro e w2 ⟨rfl, h2, c2⟩
  have hO2 := (C1.out.trans c2).blk HO.out (Ne.symm hgo)
  have hc9 := (blk_cell hO2 9).trans rfl
  have hc10 := (blk_cell hO2 10).trans rfl
  have hf9 := blk_frozen hO2 9
  have hf10 := blk_frozen hO2 10
  have H2 := Aside0.mk h2; have C2 := Aside0.mk (C1.out.trans c2); have HO2 := Aside0.mk hO2; clear h2 c2 hO2
  go_wp2_with fail
  first | go_end0 | ((try simp only [Exit.inBlock, Exit.then]); refine bodyPost_ret (results_none rfl _ _ _) rfl ?_)
  refine ⟨rfl, Rd.of w2 _ H2.out (S := (· = o)) (((Chg.refl _ _).seti _ _).seti _ _) hgo, ⟨_, blk_put (blk_put HO2.out 9 _ rfl) 10 _ rfl, rfl, .inl ⟨rfl, rfl⟩⟩, ?_⟩
  exact (((C2.out.mono (fun i h => .inl (.inl h))).set (.inl (.inr rfl)) _).set (.inl (.inr rfl)) _)
theorem own_insert (hs : s.size ≤ 140737488351232) (hgo : g ≠ o) (hR : Rd w g s st) (hO : IsOp w o d0 d1 t A 4 ty id fl ⟨#[]⟩ 0 0 0 0 (.slice none 0 0)) :
    Calls Try.prog 30 #[.pointer (some ⟨g, 0, none⟩), .pointer (some ⟨o, 0, none⟩)] w (OwnPost w g o s d0 d1 t A 4 ty id fl { r0 := (dotS st).1.1, r1 := (dotS st).1.2, val := (textS (dotS st).2).1, st := (textS (dotS st).2).2 }) := by
  have hk4 : w.cell? ⟨o, 4, none⟩ = some (.int .i64 4) := (blk_cell hO 4).trans rfl
  have hu23 := Try.underlying23
  have HO := Aside0.mk hO; have HR := Aside0.mk hR; clear hO hR
  go_enter Try.func30, Try.ntmps30
  go_wp2_with fail
  refine (rd_dot g s st _ hs HR.out).mono ?_
  rintro e w1 ⟨rfl, h1, c1⟩
  have hO1 := c1.blk HO.out (Ne.symm hgo)
  have hc11 := (blk_cell hO1 11).trans rfl
  have hc12 := (blk_cell hO1 12).trans rfl
  have hf11 := blk_frozen hO1 11
  have hf12 := blk_frozen hO1 12
  have H1 := Aside0.mk h1; have C1 := Aside0.mk c1; have HO1 := Aside0.mk hO1; clear h1 c1 hO1
  go_wp2_with fail
  refine (rd_text g s (dotS st).2 _ hs (Rd.of _ _ H1.out (S := (· = o)) (((Chg.refl _ _).seti _ _).seti _ _) hgo)).mono ?_
  rintro e w2 ⟨rfl, h2, c2⟩
  have hO2 := c2.blk (blk_put (blk_put HO1.out 11 (.int .i64 (dotS st).1.1) rfl) 12 (.int .i64 (dotS st).1.2) rfl) (Ne.symm hgo)
  have hc8 := (blk_cell hO2 8).trans rfl
  have hf8 := blk_frozen hO2 8
  have H2 := Aside0.mk h2; have C2 := Aside0.mk c2; have HO2 := Aside0.mk hO2; clear h2 c2 hO2
  go_wp2_with fail
  first | go_end0 | ((try simp only [Exit.inBlock, Exit.then]); refine bodyPost_ret (results_none rfl _ _ _) rfl ?_)
  refine ⟨rfl, Rd.of w2 _ H2.out (S := (· = o)) ((Chg.refl _ _).seti _ _) hgo, ⟨_, blk_put HO2.out 8 _ rfl, rfl, .inl ⟨rfl, rfl⟩⟩, ?_⟩
  exact ((((C1.out.mono (fun i h => .inl (.inl h))).set (.inl (.inr rfl)) _).set (.inl (.inr rfl)) _).trans (C2.out.mono (fun i h => .inl (.inl h)))).set (.inl (.inr rfl)) _
theorem own_erase (hs : s.size ≤ 140737488351232) (hgo : g ≠ o) (hR : Rd w g s st) (hO : IsOp w o d0 d1 t A 5 ty id fl ⟨#[]⟩ 0 0 0 0 (.slice none 0 0)) :
    Calls Try.prog 30 #[.pointer (some ⟨g, 0, none⟩), .pointer (some ⟨o, 0, none⟩)] w (OwnPost w g o s d0 d1 t A 5 ty id fl { r0 := (dotS st).1.1, r1 := (dotS st).1.2, st := (dotS st).2 }) := by
  have hk4 : w.cell? ⟨o, 4, none⟩ = some (.int .i64 5) := (blk_cell hO 4).trans rfl
  have hu23 := Try.underlying23
  have HO := Aside0.mk hO; have HR := Aside0.mk hR; clear hO hR
  go_enter Try.func30, Try.ntmps30
  go_wp2_with fail
  refine (rd_dot g s st _ hs HR.out).mono ?_
  rintro e w1 ⟨rfl, h1, c1⟩
  have hO1 := c1.blk HO.out (Ne.symm hgo)
  have hc11 := (blk_cell hO1 11).trans rfl
  have hc12 := (blk_cell hO1 12).trans rfl
  have hf11 := blk_frozen hO1 11
  have hf12 := blk_frozen hO1 12
  have H1 := Aside0.mk h1; have C1 := Aside0.mk c1; have HO1 := Aside0.mk hO1; clear h1 c1 hO1
  go_wp2_with fail
  first | go_end0 | ((try simp only [Exit.inBlock, Exit.then]); refine bodyPost_ret (results_none rfl _ _ _) rfl ?_)
  refine ⟨rfl, Rd.of w1 _ H1.out (S := (· = o)) (((Chg.refl _ _).seti _ _).seti _ _) hgo, ⟨_, blk_put (blk_put HO1.out 11 _ rfl) 12 _ rfl, rfl, .inl ⟨rfl, rfl⟩⟩, ?_⟩
  exact (((C1.out.mono (fun i h => .inl (.inl h))).set (.inl (.inr rfl)) _).set (.inl (.inr rfl)) _)
theorem own_other (k : Int) (h0 : k ≠ 0) (h1 : k ≠ 1) (h2 : k ≠ 2) (h3 : k ≠ 3) (h4 : k ≠ 4) (h5 : k ≠ 5) (hR : Rd w g s st) (hO : IsOp w o d0 d1 t A k ty id fl ⟨#[]⟩ 0 0 0 0 (.slice none 0 0)) :
    Calls Try.prog 30 #[.pointer (some ⟨g, 0, none⟩), .pointer (some ⟨o, 0, none⟩)] w (OwnPost w g o s d0 d1 t A k ty id fl { st := st }) := by
  have hk4 : w.cell? ⟨o, 4, none⟩ = some (.int .i64 k) := (blk_cell hO 4).trans rfl
  have b0 := beq_eq_false_iff_ne.2 h0; have b1 := beq_eq_false_iff_ne.2 h1; have b2 := beq_eq_false_iff_ne.2 h2; have b3 := beq_eq_false_iff_ne.2 h3; have b4 := beq_eq_false_iff_ne.2 h4; have b5 := beq_eq_false_iff_ne.2 h5
  clear h0 h1 h2 h3 h4 h5
  have HO := Aside0.mk hO; have HR := Aside0.mk hR; clear hO hR
  go_enter Try.func30, Try.ntmps30
  go_wp2_with fail
  first | go_end0 | ((try simp only [Exit.inBlock, Exit.then]); refine bodyPost_ret (results_none rfl _ _ _) rfl ?_)
  exact ⟨rfl, HR.out, ⟨_, HO.out, rfl, .inl ⟨rfl, rfl⟩⟩, Chg.refl _ _⟩
theorem own_drop_few (n : Nat) (hm : (numS st).1 = n) (hle : n ≤ 65) (hs : s.size ≤ 140737488351232) (hgo : g ≠ o) (hR : Rd w g s st) (hO : IsOp w o d0 d1 t A 3 ty id fl ⟨#[]⟩ 0 0 0 0 (.slice none 0 0)) :
    Calls Try.prog 30 #[.pointer (some ⟨g, 0, none⟩), .pointer (some ⟨o, 0, none⟩)] w (OwnPost w g o s d0 d1 t A 3 ty id fl { dots := (dotsS n (numS st).2).1, st := (dotsS n (numS st).2).2 }) := by
  have hk4 : w.cell? ⟨o, 4, none⟩ = some (.int .i64 3) := (blk_cell hO 4).trans rfl
  have hu23 := Try.underlying23
  obtain ⟨i0, hi, hz0, hz1, hz2⟩ := info_parts info23
  have hlto := blk_lt hO
  have HLT := Aside0.mk hlto
  have HO := Aside0.mk hO; have HR := Aside0.mk hR; clear hO hR
  have Hi := Aside0.mk hi; have Hz0 := Aside0.mk hz0; have Hz1 := Aside0.mk hz1; have Hz2 := Aside0.mk hz2; clear hi hz0 hz1 hz2
  have HM := Aside0.mk hm; clear hm
  go_enter Try.func30, Try.ntmps30
  go_wp2_with fail
  refine (rd_num g s st _ hs HR.out).mono ?_
  rintro e w1 ⟨he, h1, c1⟩
  rw [HM.out] at he
  subst he
  have H1 := Aside0.mk h1; have C1 := Aside0.mk c1; clear h1 c1
  go_wp2_with fail
  go_loopw [31] (fun i wr => ∃ j : Nat, j ≤ n ∧ i = .int .i64 j ∧ Aside0 (Rd wr g s (dotsS j (numS st).2).2) ∧ (∃ D, Aside0 (IsOp wr o d0 d1 t A 3 ty id fl ⟨#[]⟩ 0 0 0 0 D) ∧ Aside0 (wr.ownsRow w.heap.size 23 2 D j (dcells (dotsS j (numS st).2).1))) ∧ Aside0 (Chg (fun i => i = g ∨ i = o) w wr)) (fun i _ => n - (intOf i).toNat)
  case atStart => exact ⟨0, Nat.zero_le _, rfl, H1, ⟨_, ⟨C1.out.blk HO.out (Ne.symm hgo)⟩, ⟨rfl, .inl ⟨rfl, rfl⟩⟩⟩, ⟨C1.out.mono (fun i h => .inl (.inl h))⟩⟩
  case round =>
    obtain ⟨j, hj, rfl, HRr, ⟨D, HOr, HDr⟩, HCr⟩ := hrel
    have hd13 := (blk_cell HOr.out 13).trans rfl
    have hf13 := blk_frozen HOr.out 13
    by_cases hlt : j < n
    · go_wp2_with fail
      obtain ⟨csR, hRb⟩ := HRr.out.blk
      have hneg := own_far HDr.out hRb (by decide)
      have hneo : some o ≠ D.ownBlock := fun e => own_far HDr.out HOr.out (by decide) o e.symm rfl
      have Hneg := Aside0.mk hneg; have Hneo := Aside0.mk hneo; clear hneg hneo hRb
      obtain ⟨dn, hdn⟩ : ∃ dn, dn = (dotS (dotsS j (numS st).2).2).1 := ⟨_, rfl⟩
      have hDS1 : (dotsS (j + 1) (numS st).2).1 = (dotsS j (numS st).2).1 ++ [dn] := by rw [hdn]; rfl
      have hDS2 : (dotsS (j + 1) (numS st).2).2 = (dotS (dotsS j (numS st).2).2).2 := rfl
      have HDS1 := Aside0.mk hDS1; have HDS2 := Aside0.mk hDS2; clear hDS1 hDS2
      have hcallD := fun (w : World) h => rd_dot g s (dotsS j (numS st).2).2 w hs h
      rw [← hdn] at hcallD
      have hm1 : j + 1 ≤ maxLen := by unfold maxLen; omega
      have Hm1 := Aside0.mk hm1; clear hm1
      have hm2 : (j + 1) * 16 ≤ 140737488355328 := by omega
      have Hm2 := Aside0.mk hm2; clear hm2
      have HcallD := Aside0.mk hcallD; clear hcallD hdn
      go_region_law (first | (go_simp; go_at_call 27; refine (HcallD.out _ (Rd.of _ _ HRr.out (S := fun _ => False) (Chg.refl _ _).drew not_false)).mono ?_; rintro e w2 ⟨rfl, h2, c2⟩; have hd2 := (blk_cell (c2.blk (blk_drew HOr.out) (Ne.symm hgo)) 13).trans rfl; have hd2a := fun ob => (blk_cell (blk_alloc (c2.blk (blk_drew HOr.out) (Ne.symm hgo)) ob) 13).trans rfl) | (refine step_app (by rfl) _ _ _ (by rfl) w.heap.size 23 _ 2 16 Try.underlying27 info23 rfl (by decide) D j _ (by rfl) #[.int .i64 dn.1, .int .i64 dn.2] (c2.own (pw_own_drewN HDr.out 1) Hneg.out) (Nat.le_trans HCr.out.size c2.size) (by rfl) rfl rfl Hm1.out Hm2.out ?_; intro gg cap w3 hown3 hgrow; have hd3 := (blk_cell (blk_grown (blk_alloc (c2.blk (blk_drew HOr.out) (Ne.symm hgo)) _) hgrow Hneo.out) 13).trans rfl; have hf3 := blk_frozen (blk_grown (blk_alloc (c2.blk (blk_drew HOr.out) (Ne.symm hgo)) _) hgrow Hneo.out) 13) | fail "arm")
      all_goals
        have hO3 := blk_grown (blk_alloc (c2.blk (blk_drew HOr.out) (Ne.symm hgo)) _) hgrow Hneo.out
        have hc3 : Chg (fun i => i = g ∨ i = o) w w3 := Chg.append ((HCr.out.drew.trans' c2 (fun k h => .inl (.inl h))).alloc _) hgrow (fun k e => own_base HDr.out k e)
        have hR3 : Rd w3 g s (dotS (dotsS j (numS st).2).2).2 := Rd.of _ _ h2 (S := fun k => D.ownBlock = some k) (((Chg.refl _ _).alloc _).trans (Chg.of_grown hgrow (fun k e => e))) (fun e => Hneg.out g e rfl)
        have HO3 := Aside0.mk hO3; have HC3 := Aside0.mk hc3; have HR3 := Aside0.mk hR3; have HW3 := Aside0.mk hown3; clear hO3 hc3 hR3 hown3 hgrow h2 c2
        try clear hd2 hd2a
        go_wp2
        go_roundw
        case measure => simp [intOf]; omega
        case rel =>
          refine ⟨j + 1, by omega, by go_num, ⟨by rw [HDS2.out]; exact Rd.of _ _ HR3.out (S := (· = o)) ((Chg.refl _ _).seti _ _) hgo⟩, ⟨_, ⟨blk_put HO3.out 13 _ rfl⟩, ⟨?_⟩⟩, ⟨HC3.out.set (.inl (.inr rfl)) _⟩⟩
          rw [HDS1.out, dcells_snoc]
          exact Chg.own (S := (· = o)) ((Chg.refl _ _).seti _ _) HW3.out (fun k hk e => own_far HW3.out HO3.out (by decide) k hk e)
    · go_wp2_with fail
      first | go_end0 | ((try simp only [Exit.inBlock, Exit.then]); refine bodyPost_ret (results_none rfl _ _ _) rfl ?_)
      obtain rfl : j = n := by omega
      exact ⟨rfl, HRr.out, ⟨D, HOr.out, by rw [dotsS_len]; exact HDr.out⟩, HCr.out⟩
set_option maxRecDepth 20000 in
theorem own_drop_many (hm : ¬ (numS st).1 ≤ 65) (hs : s.size ≤ 140737488351232) (hgo : g ≠ o) (hR : Rd w g s st) (hO : IsOp w o d0 d1 t A 3 ty id fl ⟨#[]⟩ 0 0 0 0 (.slice none 0 0)) :
    Calls Try.prog 30 #[.pointer (some ⟨g, 0, none⟩), .pointer (some ⟨o, 0, none⟩)] w (OwnPost w g o s d0 d1 t A 3 ty id fl { dots := (dotsS 65 (numS st).2).1, st := (dotsS 65 (numS st).2).2 }) := by
  have hk4 : w.cell? ⟨o, 4, none⟩ = some (.int .i64 3) := (blk_cell hO 4).trans rfl
  have hu23 := Try.underlying23
  obtain ⟨i0, hi, hz0, hz1, hz2⟩ := info_parts info23
  have hlto := blk_lt hO
  have HLT := Aside0.mk hlto
  have HO := Aside0.mk hO; have HR := Aside0.mk hR; clear hO hR
  have Hi := Aside0.mk hi; have Hz0 := Aside0.mk hz0; have Hz1 := Aside0.mk hz1; have Hz2 := Aside0.mk hz2; clear hi hz0 hz1 hz2
  go_enter Try.func30, Try.ntmps30
  go_wp2_with fail
  refine (rd_num g s st _ hs HR.out).mono ?_
  rintro e w1 ⟨he, h1, c1⟩
  skip
  subst he
  have H1 := Aside0.mk h1; have C1 := Aside0.mk c1; clear h1 c1
  go_wp2_with fail
  go_loopw [31] (fun i wr => ∃ j : Nat, j ≤ 65 ∧ i = .int .i64 j ∧ Aside0 (Rd wr g s (dotsS j (numS st).2).2) ∧ (∃ D, Aside0 (IsOp wr o d0 d1 t A 3 ty id fl ⟨#[]⟩ 0 0 0 0 D) ∧ Aside0 (wr.ownsRow w.heap.size 23 2 D j (dcells (dotsS j (numS st).2).1))) ∧ Aside0 (Chg (fun i => i = g ∨ i = o) w wr)) (fun i _ => 65 - (intOf i).toNat)
  case atStart => exact ⟨0, Nat.zero_le _, rfl, H1, ⟨_, ⟨C1.out.blk HO.out (Ne.symm hgo)⟩, ⟨rfl, .inl ⟨rfl, rfl⟩⟩⟩, ⟨C1.out.mono (fun i h => .inl (.inl h))⟩⟩
  case round =>
    obtain ⟨j, hj, rfl, HRr, ⟨D, HOr, HDr⟩, HCr⟩ := hrel
    have hd13 := (blk_cell HOr.out 13).trans rfl
    have hf13 := blk_frozen HOr.out 13
    by_cases hlt : j < 65
    · go_wp2_with fail
      obtain ⟨csR, hRb⟩ := HRr.out.blk
      have hneg := own_far HDr.out hRb (by decide)
      have hneo : some o ≠ D.ownBlock := fun e => own_far HDr.out HOr.out (by decide) o e.symm rfl
      have Hneg := Aside0.mk hneg; have Hneo := Aside0.mk hneo; clear hneg hneo hRb
      obtain ⟨dn, hdn⟩ : ∃ dn, dn = (dotS (dotsS j (numS st).2).2).1 := ⟨_, rfl⟩
      have hDS1 : (dotsS (j + 1) (numS st).2).1 = (dotsS j (numS st).2).1 ++ [dn] := by rw [hdn]; rfl
      have hDS2 : (dotsS (j + 1) (numS st).2).2 = (dotS (dotsS j (numS st).2).2).2 := rfl
      have HDS1 := Aside0.mk hDS1; have HDS2 := Aside0.mk hDS2; clear hDS1 hDS2
      have hcallD := fun (w : World) h => rd_dot g s (dotsS j (numS st).2).2 w hs h
      rw [← hdn] at hcallD
      have hm1 : j + 1 ≤ maxLen := by unfold maxLen; omega
      have Hm1 := Aside0.mk hm1; clear hm1
      have hm2 : (j + 1) * 16 ≤ 140737488355328 := by omega
      have Hm2 := Aside0.mk hm2; clear hm2
      have HcallD := Aside0.mk hcallD; clear hcallD hdn
      go_region_law (first | (go_simp; go_at_call 27; refine (HcallD.out _ (Rd.of _ _ HRr.out (S := fun _ => False) (Chg.refl _ _).drew not_false)).mono ?_; rintro e w2 ⟨rfl, h2, c2⟩; have hd2 := (blk_cell (c2.blk (blk_drew HOr.out) (Ne.symm hgo)) 13).trans rfl; have hd2a := fun ob => (blk_cell (blk_alloc (c2.blk (blk_drew HOr.out) (Ne.symm hgo)) ob) 13).trans rfl) | (refine step_app (by rfl) _ _ _ (by rfl) w.heap.size 23 _ 2 16 Try.underlying27 info23 rfl (by decide) D j _ (by rfl) #[.int .i64 dn.1, .int .i64 dn.2] (c2.own (pw_own_drewN HDr.out 1) Hneg.out) (Nat.le_trans HCr.out.size c2.size) (by rfl) rfl rfl Hm1.out Hm2.out ?_; intro gg cap w3 hown3 hgrow; have hd3 := (blk_cell (blk_grown (blk_alloc (c2.blk (blk_drew HOr.out) (Ne.symm hgo)) _) hgrow Hneo.out) 13).trans rfl; have hf3 := blk_frozen (blk_grown (blk_alloc (c2.blk (blk_drew HOr.out) (Ne.symm hgo)) _) hgrow Hneo.out) 13) | fail "arm")
      all_goals
        have hO3 := blk_grown (blk_alloc (c2.blk (blk_drew HOr.out) (Ne.symm hgo)) _) hgrow Hneo.out
        have hc3 : Chg (fun i => i = g ∨ i = o) w w3 := Chg.append ((HCr.out.drew.trans' c2 (fun k h => .inl (.inl h))).alloc _) hgrow (fun k e => own_base HDr.out k e)
        have hR3 : Rd w3 g s (dotS (dotsS j (numS st).2).2).2 := Rd.of _ _ h2 (S := fun k => D.ownBlock = some k) (((Chg.refl _ _).alloc _).trans (Chg.of_grown hgrow (fun k e => e))) (fun e => Hneg.out g e rfl)
        have HO3 := Aside0.mk hO3; have HC3 := Aside0.mk hc3; have HR3 := Aside0.mk hR3; have HW3 := Aside0.mk hown3; clear hO3 hc3 hR3 hown3 hgrow h2 c2
        try clear hd2 hd2a
        go_wp2
        go_roundw
        case measure => simp [intOf]; omega
        case rel =>
          refine ⟨j + 1, by omega, by go_num, ⟨by rw [HDS2.out]; exact Rd.of _ _ HR3.out (S := (· = o)) ((Chg.refl _ _).seti _ _) hgo⟩, ⟨_, ⟨blk_put HO3.out 13 _ rfl⟩, ⟨?_⟩⟩, ⟨HC3.out.set (.inl (.inr rfl)) _⟩⟩
          rw [HDS1.out, dcells_snoc]
          exact Chg.own (S := (· = o)) ((Chg.refl _ _).seti _ _) HW3.out (fun k hk e => own_far HW3.out HO3.out (by decide) k hk e)
    · go_wp2_with fail
      first | go_end0 | ((try simp only [Exit.inBlock, Exit.then]); refine bodyPost_ret (results_none rfl _ _ _) rfl ?_)
      obtain rfl : j = 65 := by omega
      exact ⟨rfl, HRr.out, ⟨D, HOr.out, by rw [dotsS_len]; exact HDr.out⟩, HCr.out⟩
theorem rd_own (k : Int) (hs : s.size ≤ 140737488351232) (hgo : g ≠ o) (hR : Rd w g s st) (hO : IsOp w o d0 d1 t A k ty id fl ⟨#[]⟩ 0 0 0 0 (.slice none 0 0)) :
    Calls Try.prog 30 #[.pointer (some ⟨g, 0, none⟩), .pointer (some ⟨o, 0, none⟩)] w (OwnPost w g o s d0 d1 t A k ty id fl (ownS k st)) := by
  by_cases h02 : k = 0 ∨ k = 2
  · rw [show ownS k st = { val := (textS st).1, st := (textS st).2 } from if_pos h02]; exact own_text k h02 hs hgo hR hO
  · by_cases h1 : k = 1
    · subst h1; exact own_num hs hgo hR hO
    · by_cases h3 : k = 3
      · subst h3
        have hr := numS_range st
        by_cases hm : (numS st).1 ≤ 65
        · obtain ⟨n, hn⟩ : ∃ n : Nat, (numS st).1 = n := ⟨(numS st).1.toNat, by omega⟩
          have e : (min (numS st).1 65).toNat = n := by omega
          have := own_drop_few n hn (by omega) hs hgo hR hO
          show Calls _ _ _ _ (OwnPost w g o s d0 d1 t A 3 ty id fl { dots := (dotsS (min (numS st).1 65).toNat (numS st).2).1, st := (dotsS (min (numS st).1 65).toNat (numS st).2).2 })
          rw [e]; exact this
        · have e : (min (numS st).1 65).toNat = 65 := by omega
          have := own_drop_many hm hs hgo hR hO
          show Calls _ _ _ _ (OwnPost w g o s d0 d1 t A 3 ty id fl { dots := (dotsS (min (numS st).1 65).toNat (numS st).2).1, st := (dotsS (min (numS st).1 65).toNat (numS st).2).2 })
          rw [e]; exact this
      · by_cases h4 : k = 4
        · subst h4; exact own_insert hs hgo hR hO
        · by_cases h5 : k = 5
          · subst h5; exact own_erase hs hgo hR hO
          · rw [show ownS k st = { st := st } from by unfold ownS; rw [if_neg h02, if_neg h1, if_neg h3, if_neg h4, if_neg h5]]
            exact own_other k (fun h => h02 (.inl h)) h1 (fun h => h02 (.inr h)) h3 h4 h5 hR hO
end
end Go.Proofs.Ytaaaeonalomcgaa.Q
