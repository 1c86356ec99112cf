/- What op.Get answers: an operation out of bytes, or none. Condition: a text of at most 140737488351232 bytes. -/
import Derived.Test.YtaaaeonalomcgaaUHMay3
set_option linter.unusedVariables false
set_option linter.unusedSimpArgs false
namespace Go.Proofs.Ytaaaeonalomcgaa.Q
open Go.RowKit Go.Proofs.YtaaaeonalomcgaaW.PrintWords Go.Proofs.YtaaaeonalomcgaaW.PrintLast Go.Proofs.YtaaaeonalomcgaaW.PrintMore Sp
def numsS : Nat → Option (List UInt8) → List Int × Option (List UInt8)
  | 0, st => ([], st)
  | j + 1, st => ((numsS j st).1 ++ [(numS (numsS j st).2).1], (numS (numsS j st).2).2)
theorem numsS_len (j : Nat) (st : Option (List UInt8)) : (numsS j st).1.length = j := by induction j with | zero => rfl | succ j ih => simp [numsS, ih]
structure OpV where
  d0 : Int := 0
  d1 : Int := 0
  t : Int := 0
  deps : List Int := []
  k : Int := 0
  ty : List UInt8 := []
  id : List UInt8 := []
  fl : List UInt8 := []
  val : List UInt8 := []
  n0 : Int := 0
  n1 : Int := 0
  r0 : Int := 0
  r1 : Int := 0
  dots : List (Int × Int) := []
abbrev ba (l : List UInt8) : ByteArray := ⟨l.toArray⟩
def dS (ds : List (Int × Int)) : List S23 := ds.map fun d => ⟨d.1, d.2⟩
def OpV.may (o : OpV) (n : Int) : Bool := mayB o.d0 o.d1 o.t o.deps o.k (ba o.ty) (ba o.id) (ba o.fl) (ba o.val) o.n0 o.n1 o.r0 o.r1 (dS o.dots) n
def rawS (n : Nat) (st : Option (List UInt8)) : OpV × Option (List UInt8) :=
  let d := dotS st
  let t := numS d.2
  let v := numsS n t.2
  let k := numS v.2
  let ty := textS k.2
  let id := textS ty.2
  let fl := textS id.2
  let o := ownS k.1 fl.2
  ({ d0 := d.1.1, d1 := d.1.2, t := t.1, deps := v.1, k := k.1, ty := ty.1, id := id.1, fl := fl.1, val := o.val, n0 := o.n0, n1 := o.n1, r0 := o.r0, r1 := o.r1, dots := o.dots }, o.st)
def getOp (s : ByteArray) (n : Int) : OpV × Int :=
  if nodesB n = true then (if (rawS n.toNat (some (bs s))).2 = some [] ∧ (rawS n.toNat (some (bs s))).1.may n = true then ((rawS n.toNat (some (bs s))).1, 0) else ({}, 1100)) else ({}, 1100)
def GetPost (w : World) (o : OpV) (er : Int) : Ending → World → Prop := fun e w' => ∃ v3_ v13_ : Value,
  e = .returned (.tuple #[.agg #[.int .i64 o.d0, .int .i64 o.d1, .int .i64 o.t, v3_, .int .i64 o.k, .string (ba o.ty), .string (ba o.id), .string (ba o.fl), .string (ba o.val), .int .i64 o.n0, .int .i64 o.n1, .int .i64 o.r0, .int .i64 o.r1, v13_], .int .i64 er]) ∧
    w'.ownsRow w.heap.size 3 1 v3_ o.deps.length (nums .i64 o.deps) ∧ w'.ownsRow w.heap.size 23 2 v13_ o.dots.length (dcells o.dots) ∧ Below w.heap.size w w'
theorem get_none (s : ByteArray) (n : Int) (w : World) (h : nodesB n = false) : Calls Try.prog 11 #[.string s, .int .i64 n] w (GetPost w {} 1100) := by
  have hq := fun w => (dot_Nodes.calls n _ w (nodes_eq n)).mono fun _ _ ⟨h, k⟩ => (⟨h, k.below⟩ : _ ∧ Below w.heap.size w _)
  rw [h] at hq
  have HQ := Aside0.mk hq; clear hq h
  have hu29 := Try.underlying29
  go_enter Try.func11, Try.ntmps11
  go_wp2_with fail
  refine (HQ.out _).mono ?_
  rintro e w1 ⟨rfl, hb⟩
  have hr := blk_below (heap_alloc_new w _) hb
  have HR := Aside0.mk hr; have HB := Aside0.mk hb; clear hr hb
  go_wp2_with (refine wpList_store_row rfl 29 _ _ rfl w.heap.size _ rfl rfl 29 _ HR.out (by kernel_rfl) (by rfl) (by simp [Value.oneCell']) ?_)
  refine bodyPost_ret (results_list (rs := [.cell 4 29, .tmp 5]) rfl (by simp) (.cell w.heap.size 29 _ (0, 0) _ rfl (row_blk HR.out _) Try.underlying29 rfl (by kernel_rfl) (.tmp .nil))) rfl ⟨_, _, rfl, ⟨rfl, .inl ⟨rfl, rfl⟩⟩, ⟨rfl, .inl ⟨rfl, rfl⟩⟩, ?_⟩
  exact (((Chg.refl (fun _ => False) w).alloc _).below_ HB.out |>.row _ _ (.inr (Nat.le_refl _))).to_below (fun _ h => h.elim)
theorem R_ints {w : World} {base : Nat} {v : Value} {xs : List Int} (h : w.ownsRow base 3 1 v xs.length (nums .i64 xs)) : Kd.R (Kd.int .i64) 3 w base (fun _ => True) v xs := Kd.R_of_own h (fun _ _ => trivial)
theorem reps_dots (w : World) (base : Nat) (ok : Nat → Prop) (n : Nat) : ∀ ds : List (Int × Int), ds.length = n → Reps (k23.M w base ok) 2 (dS ds) (dcells ds) := by
  induction n with
  | zero => intro ds h; obtain rfl := List.length_eq_zero_iff.1 h; exact Reps.none _ _
  | succ n ih =>
    intro ds h
    rcases List.eq_nil_or_concat ds with rfl | ⟨l, d, rfl⟩
    · simp at h
    · rw [List.concat_eq_append, dcells_snoc, show dS (l ++ [d]) = dS l ++ [⟨d.1, d.2⟩] from by simp [dS]]
      exact Reps.snoc (ih l (by simpa using h)) (k23_mkM w base ok ⟨d.1, d.2⟩) rfl
theorem R_dots {w : World} {base : Nat} {v : Value} {ds : List (Int × Int)} (h : w.ownsRow base 23 2 v ds.length (dcells ds)) : Kd.R k23 23 w base (fun _ => True) v (dS ds) :=
  ⟨fun _ _ => trivial, dcells ds, (show w.ownsRow base 23 2 v (dS ds).length (dcells ds) from (show (dS ds).length = ds.length by simp [dS]) ▸ h), reps_dots _ _ _ _ ds rfl⟩
def IsNew (W : World) (R : Nat) : Prop := W.heap[R]? = some (.cells #[.int .i64 0, .int .i64 0, .int .i64 0, .slice none 0 0, .int .i64 0, .string ⟨#[]⟩, .string ⟨#[]⟩, .string ⟨#[]⟩, .string ⟨#[]⟩, .int .i64 0, .int .i64 0, .int .i64 0, .int .i64 0, .slice none 0 0] 29 (0, 0))
set_option maxHeartbeats 4000000 in
theorem get_main (s : ByteArray) (n : Nat) (w : World) (hs : s.size ≤ 140737488351232) (h : nodesB n = true)
    (R : OpV × Option (List UInt8)) (hR : R = rawS n (some (bs s))) (P : OpV × Int) (hP : P = if R.2 = some [] ∧ R.1.may n = true then (R.1, 0) else ({}, 1100)) :
    Calls Try.prog 11 #[.string s, .int .i64 n] w (GetPost w P.1 P.2) := by
  have hn16 : n ≤ 16 := by simp [nodesB] at h; omega
  have hq := fun w => (dot_Nodes.calls n _ w (nodes_eq n)).mono fun _ _ ⟨h, k⟩ => (⟨h, k.below⟩ : _ ∧ Below w.heap.size w _)
  rw [h] at hq
  have HQ := Aside0.mk hq; clear hq h
  obtain ⟨d, hd⟩ : ∃ d, d = dotS (some (bs s)) := ⟨_, rfl⟩
  obtain ⟨t, ht⟩ : ∃ t, t = numS d.2 := ⟨_, rfl⟩
  obtain ⟨v, hv⟩ : ∃ v, v = numsS n t.2 := ⟨_, rfl⟩
  obtain ⟨k, hk⟩ : ∃ k, k = numS v.2 := ⟨_, rfl⟩
  obtain ⟨ty, hty⟩ : ∃ ty, ty = textS k.2 := ⟨_, rfl⟩
  obtain ⟨id, hid⟩ : ∃ id, id = textS ty.2 := ⟨_, rfl⟩
  obtain ⟨fl, hfl⟩ : ∃ fl, fl = textS id.2 := ⟨_, rfl⟩
  obtain ⟨ow, how⟩ : ∃ ow, ow = ownS k.1 fl.2 := ⟨_, rfl⟩
  have hRR : R = ({ d0 := d.1.1, d1 := d.1.2, t := t.1, deps := v.1, k := k.1, ty := ty.1, id := id.1, fl := fl.1, val := ow.val, n0 := ow.n0, n1 := ow.n1, r0 := ow.r0, r1 := ow.r1, dots := ow.dots }, ow.st) := by
    rw [hR, how, hfl, hid, hty, hk, hv, ht, hd]; rfl
  have qd := fun (g : Nat) w h => rd_dot g s (some (bs s)) w hs h
  have qt := fun (g : Nat) w h => rd_num g s d.2 w hs h
  have qk := fun (g : Nat) w h => rd_num g s v.2 w hs h
  have qty := fun (g : Nat) w h => rd_text g s k.2 w hs h
  have qid := fun (g : Nat) w h => rd_text g s ty.2 w hs h
  have qfl := fun (g : Nat) w h => rd_text g s id.2 w hs h
  have qow := fun (g o : Nat) (w : World) (d0 d1 t : Int) (A : Value) (ty id ff : ByteArray) hgo hR hO => rd_own (g := g) (o := o) (s := s) (st := fl.2) (w := w) (d0 := d0) (d1 := d1) (t := t) (A := A) (ty := ty) (id := id) (fl := ff) k.1 hs hgo hR hO
  rw [← hd] at qd; rw [← ht] at qt; rw [← hk] at qk; rw [← hty] at qty; rw [← hid] at qid; rw [← hfl] at qfl; rw [← how] at qow
  have hvl : v.1.length = n := by rw [hv]; exact numsS_len _ _
  have QD := Aside0.mk qd; have QT := Aside0.mk qt; have QK := Aside0.mk qk; have QTY := Aside0.mk qty; have QID := Aside0.mk qid; have QFL := Aside0.mk qfl; have QOW := Aside0.mk qow
  have HV := Aside0.mk hv; have HRR := Aside0.mk hRR; have HP := Aside0.mk hP; have HVL := Aside0.mk hvl
  clear qd qt qk qty qid qfl qow hd ht hv hk hty hid hfl how hR hP hRR hvl
  have hu29 := Try.underlying29
  go_enter Try.func11, Try.ntmps11
  go_wp2_with fail
  refine (HQ.out _).mono ?_
  rintro e w1 ⟨rfl, hb⟩
  have HN1 := Aside0.mk (show IsNew w1 w.heap.size from blk_below (heap_alloc_new w _) hb)
  have CB1 := Aside0.mk (((Chg.refl (fun _ => False) w).alloc _).below_ hb)
  clear hb
  have HG := Aside0.mk (show w.heap.size < w1.heap.size from blk_lt HN1.out)
  go_wp2_with fail
  obtain ⟨g, hg⟩ : ∃ g, g = w1.heap.size := ⟨_, rfl⟩
  have HWg := Aside0.mk (show w.heap.size < g by rw [hg]; exact HG.out)
  rw [← hg]
  have h1' : Rd (w1.alloc (.cells #[.string s, .int .i64 0, .bool false] 59)) g s (some (bs s)) := ⟨0, false, by rw [hg]; exact heap_alloc_new w1 _, Nat.zero_le _, rfl, fun b hb => by cases hb; rfl⟩
  have H1 := Aside0.mk h1'; clear h1'
  have HGg := Aside0.mk hg; clear hg
  refine (QD.out g _ H1.out).mono ?_
  rintro e w2 ⟨rfl, h2, c2⟩
  have HN2 := Aside0.mk (show IsNew w2 w.heap.size from c2.blk (blk_alloc HN1.out _) (by have := HWg.out; omega))
  have CB2 := Aside0.mk ((CB1.out.alloc _).trans' c2 (fun k hk => .inr (by have := HWg.out; omega)))
  have H2 := Aside0.mk h2
  clear h2 c2
  go_wp2_with fail
  refine (QT.out g _ H2.out).mono ?_
  rintro e w3 ⟨rfl, h3, c3⟩
  have HN3 := Aside0.mk (show IsNew w3 w.heap.size from c3.blk HN2.out (by have := HWg.out; omega))
  have CB3 := Aside0.mk (CB2.out.trans' c3 (fun k hk => .inr (by have := HWg.out; omega)))
  have H3 := Aside0.mk h3
  clear h3 c3
  obtain ⟨o, ho⟩ : ∃ o, o = w3.heap.size := ⟨_, rfl⟩
  have HOo := Aside0.mk ho
  have HWo := Aside0.mk (show w.heap.size < o by rw [ho]; exact Nat.lt_of_lt_of_le (blk_lt HN3.out) (Nat.le_refl _))
  have Hgo := Aside0.mk (show g < o by rw [ho]; obtain ⟨cs, hcs⟩ := H3.out.blk; exact blk_lt hcs)
  clear ho
  go_wp2_with (refine wpList_store_row rfl 29 _ _ rfl w3.heap.size _ rfl rfl 29 _ (heap_alloc_new w3 _) (by kernel_rfl) (by rfl) (by simp [Value.oneCell']) ?_)
  have e1 : (w3.heap.size : Nat) = o := HOo.out.symm
  simp only [e1]
  clear e1
  generalize hW4 : (w3.alloc (Obj.cells #[Value.int IntKind.i64 0, Value.int IntKind.i64 0, Value.int IntKind.i64 0, Value.slice none 0 0, Value.int IntKind.i64 0, Value.string ⟨#[]⟩, Value.string ⟨#[]⟩, Value.string ⟨#[]⟩, Value.string ⟨#[]⟩, Value.int IntKind.i64 0, Value.int IntKind.i64 0, Value.int IntKind.i64 0, Value.int IntKind.i64 0, Value.slice none 0 0] 29)).setRow o #[Value.int IntKind.i64 d.fst.fst, Value.int IntKind.i64 d.fst.snd, Value.int IntKind.i64 t.fst, Value.slice none 0 0, Value.int IntKind.i64 0, Value.string ⟨#[]⟩, Value.string ⟨#[]⟩, Value.string ⟨#[]⟩, Value.string ⟨#[]⟩, Value.int IntKind.i64 0, Value.int IntKind.i64 0, Value.int IntKind.i64 0, Value.int IntKind.i64 0, Value.slice none 0 0] = w4
  have hO4 : IsOp w4 o d.1.1 d.1.2 t.1 (.slice none 0 0) 0 ⟨#[]⟩ ⟨#[]⟩ ⟨#[]⟩ ⟨#[]⟩ 0 0 0 0 (.slice none 0 0) := by
    have h0 := fun ob => heap_alloc_new w3 ob
    rw [← HOo.out] at h0
    rw [← hW4]; exact row_blk (h0 _) _
  have hC4 : Chg (· = o) w3 w4 := by rw [← hW4]; exact ((Chg.refl _ _).alloc _).row o _ (.inl rfl)
  have HO4 := Aside0.mk hO4; have H4 := Aside0.mk (Rd.of _ _ H3.out hC4 (by have := Hgo.out; omega)); have HN4 := Aside0.mk (show IsNew w4 w.heap.size from hC4.blk HN3.out (by have := HWo.out; omega)); have CB4 := Aside0.mk (CB3.out.trans' hC4 (fun k hk => .inr (by have := HWo.out; omega)))
  clear hO4 hC4 hW4
  go_loopw [21] (fun i wr => ∃ j : Nat, j ≤ n ∧ i = .int .i64 j ∧ Aside0 (Rd wr g s (numsS j t.2).2) ∧ (∃ D, Aside0 (IsOp wr o d.1.1 d.1.2 t.1 D 0 ⟨#[]⟩ ⟨#[]⟩ ⟨#[]⟩ ⟨#[]⟩ 0 0 0 0 (.slice none 0 0)) ∧ Aside0 (wr.ownsRow w.heap.size 3 1 D j (nums .i64 (numsS j t.2).1))) ∧ Aside0 (IsNew wr w.heap.size) ∧ Aside0 (Chg (fun _ => False) w wr)) (fun i _ => n - (intOf i).toNat)
  case atStart => exact ⟨0, Nat.zero_le _, rfl, H4, ⟨_, HO4, ⟨rfl, .inl ⟨rfl, rfl⟩⟩⟩, HN4, CB4⟩
  case round =>
    obtain ⟨j, hj, rfl, HRr, ⟨D, HOr, HDr⟩, HNr, HCr⟩ := hrel
    have hgo : g ≠ o := by have := Hgo.out; omega
    have HGO := Aside0.mk hgo; clear hgo
    have hd3 := (blk_cell HOr.out 3).trans rfl
    have hf3 := blk_frozen HOr.out 3
    by_cases hlt : j < n
    · obtain ⟨csR, hRb⟩ := HRr.out.blk
      have hneg := own_far HDr.out hRb (by decide)
      have hneo : some o ≠ D.ownBlock := fun e => own_far HDr.out HOr.out (by decide) o e.symm rfl
      have hneR : some w.heap.size ≠ D.ownBlock := fun e => own_far HDr.out HNr.out (by decide) _ e.symm rfl
      have Hneg := Aside0.mk hneg; have Hneo := Aside0.mk hneo; have HneR := Aside0.mk hneR; clear hneg hneo hneR hRb
      obtain ⟨x, hx⟩ : ∃ x, x = (numS (numsS j t.2).2).1 := ⟨_, rfl⟩
      have hDS1 : (numsS (j + 1) t.2).1 = (numsS j t.2).1 ++ [x] := by rw [hx]; rfl
      have hDS2 : (numsS (j + 1) t.2).2 = (numS (numsS j t.2).2).2 := rfl
      have HDS1 := Aside0.mk hDS1; have HDS2 := Aside0.mk hDS2; clear hDS1 hDS2
      have hcallD := fun (w : World) h => rd_num g s (numsS j t.2).2 w hs h
      rw [← hx] at hcallD
      have hm1 : j + 1 ≤ maxLen := by unfold maxLen; omega
      have Hm1 := Aside0.mk hm1; clear hm1
      have hm2 : (j + 1) * 8 ≤ 140737488355328 := by omega
      have Hm2 := Aside0.mk hm2; clear hm2
      have HcallD := Aside0.mk hcallD; clear hcallD hx
      go_wp2_with fail
      go_region_law (first | (go_simp; go_at_call 28; refine (HcallD.out _ (Rd.of _ _ HRr.out (S := fun _ => False) (Chg.refl _ _).drew not_false)).mono ?_; rintro e w2 ⟨rfl, h2, c2⟩; have hd2 := (blk_cell (c2.blk (blk_drew HOr.out) (Ne.symm HGO.out)) 3).trans rfl; have hd2a := fun ob => (blk_cell (blk_alloc (c2.blk (blk_drew HOr.out) (Ne.symm HGO.out)) ob) 3).trans rfl) | (refine step_app (by rfl) _ _ _ (by rfl) w.heap.size 3 _ 1 8 Try.underlying24 info3 rfl (by decide) D j _ (by rfl) #[.int .i64 x] (c2.own (pw_own_drewN HDr.out 1) Hneg.out) (Nat.le_trans HCr.out.size c2.size) (by rfl) rfl rfl Hm1.out Hm2.out ?_; intro gg cap w3 hown3 hgrow; have hd3 := (blk_cell (blk_grown (blk_alloc (c2.blk (blk_drew HOr.out) (Ne.symm HGO.out)) _) hgrow Hneo.out) 3).trans rfl; have hf3 := blk_frozen (blk_grown (blk_alloc (c2.blk (blk_drew HOr.out) (Ne.symm HGO.out)) _) hgrow Hneo.out) 3) | fail "arm")
      all_goals
        have hO3 := blk_grown (blk_alloc (c2.blk (blk_drew HOr.out) (Ne.symm HGO.out)) _) hgrow Hneo.out
        have hN3 : IsNew w3 w.heap.size := blk_grown (blk_alloc (c2.blk (blk_drew HNr.out) (by have := HWg.out; omega)) _) hgrow HneR.out
        have hc3 : Chg (fun _ => False) w w3 := Chg.append ((HCr.out.drew.trans' c2 (fun k hk => .inr (by have := HWg.out; omega))).alloc _) hgrow (fun k e => own_base HDr.out k e)
        have hR3 : Rd w3 g s (numS (numsS j t.2).2).2 := Rd.of _ _ h2 (S := fun k => D.ownBlock = some k) (((Chg.refl _ _).alloc _).trans (Chg.of_grown hgrow (fun k e => e))) (fun e => Hneg.out g e rfl)
        have HO3 := Aside0.mk hO3; have HC3 := Aside0.mk hc3; have HR3 := Aside0.mk hR3; have HW3 := Aside0.mk hown3; have HN3b := Aside0.mk hN3; clear hO3 hc3 hR3 hown3 hgrow h2 c2 hN3
        try clear hd2 hd2a
        go_wp2
        go_roundw
        case measure => simp [intOf]; omega
        case rel =>
          refine ⟨j + 1, by omega, by go_num, ⟨by rw [HDS2.out]; exact Rd.of _ _ HR3.out (S := (· = o)) ((Chg.refl _ _).seti _ _) HGO.out⟩, ⟨_, ⟨blk_put HO3.out 3 _ rfl⟩, ⟨?_⟩⟩, ⟨Chg.blk (S := (· = o)) ((Chg.refl _ _).seti _ _) HN3b.out (by have := HWo.out; omega)⟩, ⟨HC3.out.set (.inr (Nat.le_of_lt HWo.out)) _⟩⟩
          rw [HDS1.out, nums_append]
          exact Chg.own (S := (· = o)) ((Chg.refl _ _).seti _ _) HW3.out (fun k hk e => own_far HW3.out HO3.out (by decide) k hk e)
    · obtain rfl : j = n := by omega
      have hvv : v = numsS j t.2 := HV.out
      rw [← hvv] at HRr HDr
      clear hvv hd3 hf3
      go_wp2_with fail
      refine (QK.out g _ HRr.out).mono ?_
      rintro e w5 ⟨rfl, h5, c5⟩
      have H5 := Aside0.mk h5
      have HO5 := Aside0.mk (c5.blk HOr.out (Ne.symm HGO.out))
      have HN5 := Aside0.mk (show IsNew w5 w.heap.size from c5.blk HNr.out (by have := HWg.out; omega))
      have HD5 := Aside0.mk (c5.own HDr.out (fun q hq => by obtain ⟨cs, hcs⟩ := HRr.out.blk; exact own_far HDr.out hcs (by decide) q hq))
      have HC5 := Aside0.mk (HCr.out.trans' c5 (fun q hq => .inr (by have := HWg.out; omega)))
      clear h5 c5 HRr HOr HNr HDr HCr
      have hd4 := (blk_cell HO5.out 4).trans rfl
      have hf4 := blk_frozen HO5.out 4
      go_wp2_with fail
      have hs5 : Chg (· = o) w5 (w5.setCell ⟨o, 4, none⟩ (.int .i64 k.1)) := (Chg.refl _ _).seti _ _
      refine (QTY.out g _ (Rd.of _ _ H5.out hs5 HGO.out)).mono ?_
      rintro e w6 ⟨rfl, h6, c6⟩
      have H6 := Aside0.mk h6
      have HO6 := Aside0.mk (c6.blk (blk_put HO5.out 4 (.int .i64 k.1) rfl) (Ne.symm HGO.out))
      have HN6 := Aside0.mk (show IsNew w6 w.heap.size from c6.blk (hs5.blk HN5.out (by have := HWo.out; omega)) (by have := HWg.out; omega))
      have HD6 := Aside0.mk (c6.own (hs5.own HD5.out (fun q hq => own_far HD5.out HO5.out (by decide) q hq)) (fun q hq => by obtain ⟨cs, hcs⟩ := H5.out.blk; exact own_far HD5.out hcs (by decide) q hq))
      have HC6 := Aside0.mk ((HC5.out.trans' hs5 (fun q hq => .inr (by have := HWo.out; omega))).trans' c6 (fun q hq => .inr (by have := HWg.out; omega)))
      clear h6 c6 hs5 hd4 hf4
      go_wp2_with fail
      refine (QID.out g _ H6.out).mono ?_
      rintro e w7 ⟨rfl, h7, c7⟩
      have H7 := Aside0.mk h7
      have HO7 := Aside0.mk (c7.blk HO6.out (Ne.symm HGO.out))
      have HN7 := Aside0.mk (show IsNew w7 w.heap.size from c7.blk HN6.out (by have := HWg.out; omega))
      have HD7 := Aside0.mk (c7.own HD6.out (fun q hq => by obtain ⟨cs, hcs⟩ := H6.out.blk; exact own_far HD6.out hcs (by decide) q hq))
      have HC7 := Aside0.mk (HC6.out.trans' c7 (fun q hq => .inr (by have := HWg.out; omega)))
      clear h7 c7
      go_wp2_with fail
      refine (QFL.out g _ H7.out).mono ?_
      rintro e w8 ⟨rfl, h8, c8⟩
      have H8 := Aside0.mk h8
      have HO8 := Aside0.mk (c8.blk HO7.out (Ne.symm HGO.out))
      have HN8 := Aside0.mk (show IsNew w8 w.heap.size from c8.blk HN7.out (by have := HWg.out; omega))
      have HD8 := Aside0.mk (c8.own HD7.out (fun q hq => by obtain ⟨cs, hcs⟩ := H7.out.blk; exact own_far HD7.out hcs (by decide) q hq))
      have HC8 := Aside0.mk (HC7.out.trans' c8 (fun q hq => .inr (by have := HWg.out; omega)))
      clear h8 c8
      have hd5 := (blk_cell HO8.out 5).trans rfl
      have hd6 := (blk_cell HO8.out 6).trans rfl
      have hd7 := (blk_cell HO8.out 7).trans rfl
      have hf5 := blk_frozen HO8.out 5
      have hf6 := blk_frozen HO8.out 6
      have hf7 := blk_frozen HO8.out 7
      go_wp2_with fail
      have hs8 : Chg (· = o) w8 (((w8.setCell ⟨o, 5, none⟩ (.string (ba ty.1))).setCell ⟨o, 6, none⟩ (.string (ba id.1))).setCell ⟨o, 7, none⟩ (.string (ba fl.1))) := (((Chg.refl _ _).seti _ _).seti _ _).seti _ _
      have hO8 : IsOp (((w8.setCell ⟨o, 5, none⟩ (.string (ba ty.1))).setCell ⟨o, 6, none⟩ (.string (ba id.1))).setCell ⟨o, 7, none⟩ (.string (ba fl.1))) o d.1.1 d.1.2 t.1 D k.1 (ba ty.1) (ba id.1) (ba fl.1) ⟨#[]⟩ 0 0 0 0 (.slice none 0 0) := blk_put (blk_put (blk_put HO8.out 5 _ rfl) 6 _ rfl) 7 _ rfl
      refine (QOW.out g o _ d.1.1 d.1.2 t.1 D (ba ty.1) (ba id.1) (ba fl.1) HGO.out (Rd.of _ _ H8.out hs8 HGO.out) hO8).mono ?_
      rintro e w9 ⟨rfl, h9, ⟨D9, hO9, hD9⟩, c9⟩
      have H9 := Aside0.mk h9; have HO9 := Aside0.mk hO9
      have HN9 := Aside0.mk (show IsNew w9 w.heap.size from c9.blk (hs8.blk HN8.out (by have := HWo.out; omega)) (by have := HWg.out; have := HWo.out; omega))
      have HDe9 := Aside0.mk (c9.own (hs8.own HD8.out (fun q hq => own_far HD8.out HO8.out (by decide) q hq)) (fun q hq => by obtain ⟨cs, hcs⟩ := H8.out.blk; have h1 := own_far HD8.out hcs (by decide) q hq; have h2 := own_far HD8.out HO8.out (by decide) q hq; exact fun h => h.elim h1 h2))
      have HC9 := Aside0.mk ((HC8.out.trans' hs8 (fun q hq => .inr (by have := HWo.out; omega))).trans' c9 (fun q hq => .inr (by have := HWo.out; have := HWg.out; omega)))
      have HDo9 := Aside0.mk (own_weaken hD9 (Nat.le_trans HC8.out.size hs8.size))
      clear h9 hO9 hD9 c9 hs8 hO8 hd5 hd6 hd7 hf5 hf6 hf7
      obtain ⟨a, bad, hI, ha, hbad, hrest⟩ := H9.out
      obtain ⟨hc0, hc1, hc2, _, _⟩ := hI.cells
      have HI := Aside0.mk hI; clear hI
      have hPF : (¬ (R.2 = some [] ∧ R.1.may (j : Int) = true)) → P = ({}, 1100) := fun h => by rw [HP.out, if_neg h]
      have hR2 : R.2 = ow.st := by rw [HRR.out]
      cases hst : ow.st with
      | none =>
        rw [hst] at hbad
        have hb' : bad = true := hbad
        subst hb'
        have HPF := Aside0.mk (hPF (by rw [hR2, hst]; simp))
        clear hPF hR2 hst hbad hrest
        go_wp2_with (refine wpList_store_row rfl 29 _ _ rfl w.heap.size _ rfl rfl 29 _ HN9.out (by kernel_rfl) (by rfl) (by simp [Value.oneCell']) ?_)
        refine bodyPost_ret (results_list (rs := [.cell 4 29, .tmp 5]) rfl (by simp) (.cell w.heap.size 29 _ (0, 0) _ rfl (row_blk HN9.out _) Try.underlying29 rfl (by kernel_rfl) (.tmp .nil))) rfl ?_
        rw [HPF.out]
        exact ⟨_, _, rfl, ⟨rfl, .inl ⟨rfl, rfl⟩⟩, ⟨rfl, .inl ⟨rfl, rfl⟩⟩, (HC9.out.row _ _ (.inr (Nat.le_refl _))).to_below (fun _ h => h.elim)⟩
      | some b =>
        rw [hst] at hbad
        have hb' : bad = false := hbad
        subst hb'
        have hb := hrest b hst
        by_cases hbn : b = []
        · have hal : a = s.size := by
            rw [hbn] at hb
            have := congrArg List.length hb
            simp only [List.length_nil, List.length_drop, bs_length] at this
            omega
          subst hal
          have hR2' : R.2 = some [] := by rw [hR2, hst, hbn]
          obtain ⟨A3, c3, hD, hle3, hC3⟩ := Kd.R_reads (R_ints (xs := v.1) (by rw [HVL.out]; exact HDe9.out))
          obtain ⟨A13, c13, hD9, hle13, hC13⟩ := Kd.R_reads (R_dots HDo9.out)
          have hmay := fun (W : World) (hB : Below w9.heap.size w9 W) => may_any d.1.1 d.1.2 t.1 A3 c3 v.1 k.1 (ba ty.1) (ba id.1) (ba fl.1) (ba ow.val) ow.n0 ow.n1 ow.r0 ow.r1 A13 c13 (dS ow.dots) (j : Int) W (Kd.C_below hC3 hB) hle3 (Kd.C_below hC13 hB) hle13
          have hmm : R.1.may (j : Int) = mayB d.1.1 d.1.2 t.1 v.1 k.1 (ba ty.1) (ba id.1) (ba fl.1) (ba ow.val) ow.n0 ow.n1 ow.r0 ow.r1 (dS ow.dots) (j : Int) := by rw [HRR.out]; rfl
          rw [← hmm] at hmay
          have HRW := Aside0.mk (show w9.ownsRow w.heap.size 3 1 (.slice A3 v.1.length c3) v.1.length (nums .i64 v.1) from by rw [← hD, HVL.out]; exact HDe9.out)
          have HRW9 := Aside0.mk (show w9.ownsRow w.heap.size 23 2 (.slice A13 (dS ow.dots).length c13) ow.dots.length (dcells ow.dots) from by rw [← hD9]; exact HDo9.out)
          have HO10 := Aside0.mk (show IsOp w9 o d.1.1 d.1.2 t.1 (.slice A3 v.1.length c3) k.1 (ba ty.1) (ba id.1) (ba fl.1) (ba ow.val) ow.n0 ow.n1 ow.r0 ow.r1 (.slice A13 (dS ow.dots).length c13) from by rw [← hD, ← hD9]; exact HO9.out)
          cases hm : R.1.may (j : Int) with
          | false =>
            rw [hm] at hmay
            have HMAY := Aside0.mk hmay
            have HPF := Aside0.mk (hPF (by rw [hm]; simp))
            clear hmay hPF hm hmm hR2 hR2' hst hb hrest hbad hD hD9 hC3 hC13
            have l0 := (blk_cell HO10.out 0).trans rfl; have l1 := (blk_cell HO10.out 1).trans rfl; have l2 := (blk_cell HO10.out 2).trans rfl; have l3 := (blk_cell HO10.out 3).trans rfl; have l4 := (blk_cell HO10.out 4).trans rfl; have l5 := (blk_cell HO10.out 5).trans rfl; have l6 := (blk_cell HO10.out 6).trans rfl
            have l7 := (blk_cell HO10.out 7).trans rfl; have l8 := (blk_cell HO10.out 8).trans rfl; have l9 := (blk_cell HO10.out 9).trans rfl; have l10 := (blk_cell HO10.out 10).trans rfl; have l11 := (blk_cell HO10.out 11).trans rfl; have l12 := (blk_cell HO10.out 12).trans rfl; have l13 := (blk_cell HO10.out 13).trans rfl
            go_wp2_with (first | (go_at_call 10; refine (HMAY.out _ (Below.refl _ _)).mono ?_; rintro e w10 ⟨rfl, hb10⟩; have HN10 := Aside0.mk (show IsNew w10 w.heap.size from blk_below HN9.out hb10); have HC10 := Aside0.mk (HC9.out.below_ hb10); have HO11 := Aside0.mk (blk_below HO10.out hb10); have HB10 := Aside0.mk hb10; clear hb10) | (refine wpList_store_row rfl 29 _ _ rfl w.heap.size _ rfl rfl 29 _ HN10.out (by kernel_rfl) (by rfl) (by simp [Value.oneCell']) ?_) | (refine wpList_load_row rfl 29 _ rfl o rfl 29 _ (0, 0) _ HO11.out Try.underlying29 rfl (by kernel_rfl) ?_))
            refine bodyPost_ret (results_list (rs := [.cell 4 29, .tmp 5]) rfl (by simp) (.cell w.heap.size 29 _ (0, 0) _ rfl (row_blk HN10.out _) Try.underlying29 rfl (by kernel_rfl) (.tmp .nil))) rfl ?_
            rw [HPF.out]
            exact ⟨_, _, rfl, ⟨rfl, .inl ⟨rfl, rfl⟩⟩, ⟨rfl, .inl ⟨rfl, rfl⟩⟩, (HC10.out.row _ _ (.inr (Nat.le_refl _))).to_below (fun _ h => h.elim)⟩
          | true =>
            rw [hm] at hmay
            have HMAY := Aside0.mk hmay
            have HPF := Aside0.mk (show P = (R.1, 0) from by rw [HP.out, if_pos ⟨hR2', hm⟩])
            clear hmay hPF hm hmm hR2 hR2' hst hb hrest hbad hD hD9 hC3 hC13
            have l0 := (blk_cell HO10.out 0).trans rfl; have l1 := (blk_cell HO10.out 1).trans rfl; have l2 := (blk_cell HO10.out 2).trans rfl; have l3 := (blk_cell HO10.out 3).trans rfl; have l4 := (blk_cell HO10.out 4).trans rfl; have l5 := (blk_cell HO10.out 5).trans rfl; have l6 := (blk_cell HO10.out 6).trans rfl
            have l7 := (blk_cell HO10.out 7).trans rfl; have l8 := (blk_cell HO10.out 8).trans rfl; have l9 := (blk_cell HO10.out 9).trans rfl; have l10 := (blk_cell HO10.out 10).trans rfl; have l11 := (blk_cell HO10.out 11).trans rfl; have l12 := (blk_cell HO10.out 12).trans rfl; have l13 := (blk_cell HO10.out 13).trans rfl
            go_wp2_with (first | (go_at_call 10; refine (HMAY.out _ (Below.refl _ _)).mono ?_; rintro e w10 ⟨rfl, hb10⟩; have HN10 := Aside0.mk (show IsNew w10 w.heap.size from blk_below HN9.out hb10); have HC10 := Aside0.mk (HC9.out.below_ hb10); have HO11 := Aside0.mk (blk_below HO10.out hb10); have HB10 := Aside0.mk hb10; clear hb10) | (refine wpList_store_row rfl 29 _ _ rfl w.heap.size _ rfl rfl 29 _ HN10.out (by kernel_rfl) (by rfl) (by simp [Value.oneCell']) ?_) | (refine wpList_load_row rfl 29 _ rfl o rfl 29 _ (0, 0) _ HO11.out Try.underlying29 rfl (by kernel_rfl) ?_))
            refine bodyPost_ret (results_list (rs := [.cell 4 29, .tmp 5]) rfl (by simp) (.cell w.heap.size 29 _ (0, 0) _ rfl (row_blk HN10.out _) Try.underlying29 rfl (by kernel_rfl) (.tmp .nil))) rfl ?_
            rw [HPF.out]
            rw [HRR.out]
            refine ⟨_, _, rfl, ?_, ?_, (HC10.out.row _ _ (.inr (Nat.le_refl _))).to_below (fun _ h => h.elim)⟩
            · exact Chg.own (S := (· = w.heap.size)) ((Chg.refl _ _).row _ _ (.inl rfl)) (pw_own_below HRW.out HB10.out) (fun q hq e => own_far (pw_own_below HRW.out HB10.out) HN10.out (by decide) q hq e)
            · exact Chg.own (S := (· = w.heap.size)) ((Chg.refl _ _).row _ _ (.inl rfl)) (pw_own_below HRW9.out HB10.out) (fun q hq e => own_far (pw_own_below HRW9.out HB10.out) HN10.out (by decide) q hq e)
        · have hne : (a : Int) ≠ (s.size : Int) := by
            intro he
            apply hbn
            rw [hb, List.drop_of_length_le (by rw [bs_length]; omega)]
          have hneb : ((a : Int) != (s.size : Int)) = true := bne_iff_ne.2 hne
          have HPF := Aside0.mk (hPF (by rw [hR2, hst]; intro h; exact hbn (by simpa using h.1)))
          clear hPF hR2 hst hbad hrest hb hbn hne
          go_wp2_with (refine wpList_store_row rfl 29 _ _ rfl w.heap.size _ rfl rfl 29 _ HN9.out (by kernel_rfl) (by rfl) (by simp [Value.oneCell']) ?_)
          refine bodyPost_ret (results_list (rs := [.cell 4 29, .tmp 5]) rfl (by simp) (.cell w.heap.size 29 _ (0, 0) _ rfl (row_blk HN9.out _) Try.underlying29 rfl (by kernel_rfl) (.tmp .nil))) rfl ?_
          rw [HPF.out]
          exact ⟨_, _, rfl, ⟨rfl, .inl ⟨rfl, rfl⟩⟩, ⟨rfl, .inl ⟨rfl, rfl⟩⟩, (HC9.out.row _ _ (.inr (Nat.le_refl _))).to_below (fun _ h => h.elim)⟩
theorem get_any (s : ByteArray) (n : Int) (w : World) (hs : s.size ≤ 140737488351232) : Calls Try.prog 11 #[.string s, .int .i64 n] w (GetPost w (getOp s n).1 (getOp s n).2) := by
  unfold getOp
  by_cases h : nodesB n = true
  · have hn : ∃ m : Nat, n = m := ⟨n.toNat, by simp [nodesB] at h; omega⟩
    obtain ⟨m, rfl⟩ := hn
    have := get_main s m w hs h (rawS m (some (bs s))) rfl _ rfl
    rw [if_pos h, Int.toNat_natCast]; exact this
  · rw [if_neg h]
    exact get_none s n w (by simpa using h)
def op_Get.f (a0 : ByteArray) (a1 : Int) : Option (Int × Int × Int × List Int × Int × ByteArray × ByteArray × ByteArray × ByteArray × Int × Int × Int × Int × (List (S23)) × Int) :=
  if a0.size ≤ 140737488351232 then some ((getOp a0 a1).1.d0, (getOp a0 a1).1.d1, (getOp a0 a1).1.t, (getOp a0 a1).1.deps, (getOp a0 a1).1.k, ba (getOp a0 a1).1.ty, ba (getOp a0 a1).1.id, ba (getOp a0 a1).1.fl, ba (getOp a0 a1).1.val, (getOp a0 a1).1.n0, (getOp a0 a1).1.n1, (getOp a0 a1).1.r0, (getOp a0 a1).1.r1, dS (getOp a0 a1).1.dots, (getOp a0 a1).2) else none
theorem op_Get.calls (a0 : ByteArray) (a1 : Int) (r1 : Int) (r2 : Int) (r3 : Int) (r4 : List Int) (r5 : Int) (r6 : ByteArray) (r7 : ByteArray) (r8 : ByteArray) (r9 : ByteArray) (r10 : Int) (r11 : Int) (r12 : Int) (r13 : Int) (r14 : List (S23)) (r15 : Int) (w : World) (h : op_Get.f a0 a1 = some (r1, r2, r3, r4, r5, r6, r7, r8, r9, r10, r11, r12, r13, r14, r15)) :
    Calls Try.prog 11 #[.string a0, .int .i64 a1] w fun e w' => ∃ v3_ v13_ : Value, e = .returned (.tuple #[.agg #[.int .i64 r1, .int .i64 r2, .int .i64 r3, v3_, .int .i64 r5, .string r6, .string r7, .string r8, .string r9, .int .i64 r10, .int .i64 r11, .int .i64 r12, .int .i64 r13, v13_], .int .i64 r15]) ∧ Kd.R (Kd.int .i64) 3 w' w.heap.size (fun _ => True) v3_ r4 ∧ Kd.R k23 23 w' w.heap.size (fun _ => True) v13_ r14 ∧ Below w.heap.size w w' := by
  unfold op_Get.f at h
  split at h
  · rename_i hs
    simp only [Option.some.injEq, Prod.mk.injEq] at h
    obtain ⟨rfl, rfl, rfl, rfl, rfl, rfl, rfl, rfl, rfl, rfl, rfl, rfl, rfl, rfl, rfl⟩ := h
    exact (get_any a0 a1 w hs).mono fun e w' ⟨v3, v13, he, h3, h13, hb⟩ => ⟨v3, v13, he, R_ints h3, R_dots h13, hb⟩
  · exact absurd h (by simp)
end Go.Proofs.Ytaaaeonalomcgaa.Q
