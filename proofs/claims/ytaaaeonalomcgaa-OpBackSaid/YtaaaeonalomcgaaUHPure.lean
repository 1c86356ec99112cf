/- What is written is read again, and what is read was written (plain law on operations and bytes). Condition: the operation may be. -/
import Derived.Test.YtaaaeonalomcgaaUHPut2
set_option linter.unusedVariables false
set_option linter.unusedSimpArgs false
namespace Go.Proofs.Ytaaaeonalomcgaa.Q
open Go.RowKit Go.Proofs.YtaaaeonalomcgaaW.PrintWords Go.Proofs.YtaaaeonalomcgaaW.PrintLast Go.Proofs.YtaaaeonalomcgaaW.PrintMore Sp
abbrev OpV.put (o : OpV) : List UInt8 := putP o.d0 o.d1 o.t o.deps o.k (ba o.ty) (ba o.id) (ba o.fl) (ba o.val) o.n0 o.n1 o.r0 o.r1 (dS o.dots)
theorem bs_ba (l : List UInt8) : bs (ba l) = l := rfl
theorem ba_bs (s : ByteArray) : ba (bs s) = s := rfl
theorem numS_pn {x : Int} (h : numOk x) (z : List UInt8) : numS (some (pn x.toNat ++ z)) = (x, some z) := by
  obtain ⟨n, rfl⟩ : ∃ n : Nat, x = n := ⟨x.toNat, by have := h.1; omega⟩
  have := h.2
  unfold numS; rw [Int.toNat_natCast]; simp only; rw [gn_pn n (by omega)]
theorem dotS_pn {a b : Int} (h1 : numOk a) (h2 : numOk b) (z : List UInt8) : dotS (some ((pn a.toNat ++ pn b.toNat) ++ z)) = ((a, b), some z) := by
  unfold dotS; rw [List.append_assoc, numS_pn h1]; simp only; rw [numS_pn h2]
theorem numsS_pns (n : Nat) : ∀ (xs : List Int), xs.length = n → (∀ x ∈ xs, numOk x) → ∀ z, numsS n (some (pns xs ++ z)) = (xs, some z) := by
  induction n with
  | zero => intro xs hl _ z; obtain rfl := List.length_eq_zero_iff.1 hl; simp [numsS, pns]
  | succ n ih =>
    intro xs hl hx z
    rcases List.eq_nil_or_concat xs with rfl | ⟨ys, x, rfl⟩
    · simp at hl
    · rw [List.concat_eq_append] at *
      have e : pns (ys ++ [x]) ++ z = pns ys ++ (pn x.toNat ++ z) := by simp [pns]
      have h1 := ih ys (by simpa using hl) (fun y hy => hx y (by simp [hy])) (pn x.toNat ++ z)
      simp only [numsS]; rw [e, h1]; simp only
      rw [numS_pn (hx x (by simp))]
theorem textS_pt {s : List UInt8} (h : s.length ≤ 65536) (z : List UInt8) : textS (some (pt s ++ z)) = (s, some z) := by unfold textS; simp only; rw [gt_pt s h]
theorem unz_zz (x : Int) : unz (zz x) = x := by unfold unz zz; split <;> split <;> omega
theorem zz_ok {x : Int} (h : -1099511627776 ≤ x ∧ x ≤ 1099511627776) : numOk (zz x) := by unfold zz numOk; split <;> omega
theorem foldS_zz {x : Int} (h : -1099511627776 ≤ x ∧ x ≤ 1099511627776) (z : List UInt8) : foldS (some (pn (zz x).toNat ++ z)) = (x, some z) := by
  unfold foldS; rw [numS_pn (zz_ok h)]; simp [unz_zz]
theorem dotsS_dpn (n : Nat) : ∀ (ds : List (Int × Int)), ds.length = n → (∀ d ∈ ds, numOk d.1 ∧ numOk d.2) → ∀ z, dotsS n (some ((dS ds).flatMap dpn ++ z)) = (ds, some z) := by
  induction n with
  | zero => intro xs hl _ z; obtain rfl := List.length_eq_zero_iff.1 hl; simp [dotsS, dS]
  | succ n ih =>
    intro xs hl hx z
    rcases List.eq_nil_or_concat xs with rfl | ⟨ys, x, rfl⟩
    · simp at hl
    · rw [List.concat_eq_append] at *
      have e : (dS (ys ++ [x])).flatMap dpn ++ z = (dS ys).flatMap dpn ++ ((pn x.1.toNat ++ pn x.2.toNat) ++ z) := by simp [dS, dpn]
      have h1 := ih ys (by simpa using hl) (fun y hy => hx y (by simp [hy])) ((pn x.1.toNat ++ pn x.2.toNat) ++ z)
      simp only [dotsS]; rw [e, h1]; simp only
      rw [dotS_pn (hx x (by simp)).1 (hx x (by simp)).2]
theorem ba_len (l : List UInt8) : (ba l).size = l.length := ba_size l
theorem ba_nil {l : List UInt8} (h : (ba l).toList.isEmpty = true) : l = [] := by
  rw [ByteArray.toList_eq] at h; simpa using h
theorem bare_of {k : Int} {val : ByteArray} {n0 n1 r0 r1 : Int} {nd : Nat} (h : bareB k val n0 n1 r0 r1 nd = true) :
    (k = 0 ∨ k = 2 ∨ k = 4 ∨ val.toList.isEmpty = true) ∧ (k = 1 ∨ n0 = 0 ∧ n1 = 0) ∧ (k = 4 ∨ k = 5 ∨ r0 = 0 ∧ r1 = 0) ∧ (k = 3 ∨ nd = 0) := by
  simp only [bareB, Bool.and_eq_true, Bool.or_eq_true, decide_eq_true_eq, beq_iff_eq] at h
  obtain ⟨⟨⟨b1, b2⟩, b3⟩, b4⟩ := h
  refine ⟨?_, b2, ?_, ?_⟩
  · rcases b1 with (h | h | h) | h
    · exact .inl h
    · exact .inr (.inl h)
    · exact .inr (.inr (.inl h))
    · exact .inr (.inr (.inr h))
  · rcases b3 with (h | h) | h
    · exact .inl h
    · exact .inr (.inl h)
    · exact .inr (.inr h)
  · rcases b4 with h | h
    · exact .inl h
    · exact .inr (by omega)
theorem may_bare {o : OpV} {n : Int} (h : o.may n = true) : bareB o.k (ba o.val) o.n0 o.n1 o.r0 o.r1 (dS o.dots).length = true := by
  unfold OpV.may mayB at h; simp only [Bool.and_eq_true] at h; exact h.2
theorem may_len {o : OpV} {n : Int} (h : o.may n = true) : (o.deps.length : Int) = n := by
  unfold OpV.may mayB vecMayB at h; simp only [Bool.and_eq_true, decide_eq_true_eq] at h; exact h.1.1.1.1.1.1.2.1.2
theorem nat_nok (n : Nat) (h : n ≤ 1000000) : numOk (n : Int) := ⟨by omega, by omega⟩
theorem raw_put {o : OpV} {n : Nat} (h : o.may n = true) (z : List UInt8) : rawS n (some (o.put ++ z)) = (o, some z) := by
  have sm := small_of (show mayB _ _ _ _ _ _ _ _ _ _ _ _ _ _ _ = true from h)
  have hb := bare_of (may_bare h)
  have hlen : o.deps.length = n := by have := may_len h; omega
  have hdl : (dS o.dots).length = o.dots.length := by simp [dS]
  have hty : o.ty.length ≤ 65536 := by have := sm.ty; rw [ba_len] at this; omega
  have hid : o.id.length ≤ 65536 := by have := sm.id; rw [ba_len] at this; omega
  have hfl : o.fl.length ≤ 65536 := by have := sm.fl; rw [ba_len] at this; omega
  have hval : o.val.length ≤ 65536 := by have := sm.val; rw [ba_len] at this; omega
  have hown : ownS o.k (some (ownP o.k (ba o.val) o.n0 o.n1 o.r0 o.r1 (dS o.dots) ++ z)) = { val := o.val, n0 := o.n0, n1 := o.n1, r0 := o.r0, r1 := o.r1, dots := o.dots, st := some z } := by
    have hk := sm.k
    by_cases h1 : o.k = 1
    · have e1 : o.val = [] := by rcases hb.1 with h | h | h | h; · omega
                                 · omega
                                 · omega
                                 · exact ba_nil h
      have e2 : o.r0 = 0 ∧ o.r1 = 0 := by rcases hb.2.2.1 with h | h | h; · omega
                                          · omega
                                          · exact h
      have e3 : o.dots = [] := List.length_eq_zero_iff.1 (by rcases hb.2.2.2 with h | h; · omega
                                                             · omega)
      unfold ownS ownP; rw [if_neg (by omega), if_pos h1, if_pos h1, List.append_assoc, foldS_zz ⟨sm.n.1, sm.n.2.1⟩]; simp only
      rw [foldS_zz sm.n.2.2, e1, e2.1, e2.2, e3]
    · have e4 : o.n0 = 0 ∧ o.n1 = 0 := by rcases hb.2.1 with h | h; · omega
                                          · exact h
      by_cases h3 : o.k = 3
      · have e1 : o.val = [] := by rcases hb.1 with h | h | h | h; · omega
                                   · omega
                                   · omega
                                   · exact ba_nil h
        have e2 : o.r0 = 0 ∧ o.r1 = 0 := by rcases hb.2.2.1 with h | h | h; · omega
                                            · omega
                                            · exact h
        have hsl := sm.sl
        have hds : ∀ d ∈ o.dots, numOk d.1 ∧ numOk d.2 := fun d hd => by
          have := sm.ds ⟨d.1, d.2⟩ (by unfold dS; exact List.mem_map.2 ⟨d, hd, rfl⟩)
          simp only at this
          exact ⟨⟨by omega, by omega⟩, ⟨by omega, by omega⟩⟩
        have hm : (min ((dS o.dots).length : Int) 65).toNat = o.dots.length := by omega
        have hn : numS (some (pn (dS o.dots).length ++ ((dS o.dots).flatMap dpn ++ z))) = (((dS o.dots).length : Int), some ((dS o.dots).flatMap dpn ++ z)) := by
          have := numS_pn (nat_nok (dS o.dots).length (by omega)) ((dS o.dots).flatMap dpn ++ z)
          rwa [Int.toNat_natCast] at this
        unfold ownS ownP; rw [if_neg (by omega), if_neg h1, if_neg h1, if_pos h3, if_pos h3, List.append_assoc, hn]; simp only
        rw [hm, dotsS_dpn _ o.dots rfl hds z, e1, e2.1, e2.2, e4.1, e4.2]
      · have e3 : o.dots = [] := List.length_eq_zero_iff.1 (by rcases hb.2.2.2 with h | h; · omega
                                                               · omega)
        have hr1 : numOk o.r0 := ⟨sm.r.1, by have := sm.r; omega⟩
        have hr2 : numOk o.r1 := ⟨sm.r.2.2.1, by have := sm.r; omega⟩
        by_cases h5 : o.k = 5
        · have e1 : o.val = [] := by rcases hb.1 with h | h | h | h; · omega
                                     · omega
                                     · omega
                                     · exact ba_nil h
          unfold ownS ownP; rw [if_neg (by omega), if_neg h1, if_neg h1, if_neg h3, if_neg h3, if_neg (by omega), if_pos h5, if_pos h5, dotS_pn hr1 hr2, e1, e3, e4.1, e4.2]
        · by_cases h4 : o.k = 4
          · unfold ownS ownP; rw [if_neg (by omega), if_neg h1, if_neg h1, if_neg h3, if_neg h3, if_pos h4, if_neg h5, if_pos h4, List.append_assoc, dotS_pn hr1 hr2]; simp only
            rw [bs_ba, textS_pt hval, e3, e4.1, e4.2]
          · have e2 : o.r0 = 0 ∧ o.r1 = 0 := by rcases hb.2.2.1 with h | h | h; · omega
                                                · omega
                                                · exact h
            unfold ownS ownP; rw [if_pos (by omega), if_neg h1, if_neg h3, if_neg h5, if_neg h4, bs_ba, textS_pt hval, e2.1, e2.2, e3, e4.1, e4.2]
  have e : o.put ++ z = (pn o.d0.toNat ++ pn o.d1.toNat) ++ (pn o.t.toNat ++ (pns o.deps ++ (pn o.k.toNat ++ (pt o.ty ++ (pt o.id ++ (pt o.fl ++ (ownP o.k (ba o.val) o.n0 o.n1 o.r0 o.r1 (dS o.dots) ++ z))))))) := by
    simp [OpV.put, putP, headP, pns, pts]
  unfold rawS
  rw [e, dotS_pn ⟨sm.d0.1, by have := sm.d0; omega⟩ ⟨by have := sm.d1; omega, by have := sm.d1; omega⟩]; simp only
  rw [numS_pn ⟨by have := sm.t; omega, by have := sm.t; omega⟩]; simp only
  rw [numsS_pns n o.deps hlen (fun x hx => ⟨(sm.deps x hx).1, by have := sm.deps x hx; omega⟩)]; simp only
  rw [numS_pn ⟨sm.k.1, by have := sm.k; omega⟩]; simp only
  rw [textS_pt hty]; simp only
  rw [textS_pt hid]; simp only
  rw [textS_pt hfl]; simp only
  rw [hown]
theorem numS_back {st : Option (List UInt8)} {z : List UInt8} (h : (numS st).2 = some z) : st = some (pn (numS st).1.toNat ++ z) ∧ numOk (numS st).1 := by
  unfold numS at *
  cases st with
  | none => simp at h
  | some b =>
    simp only at *
    cases hg : gn b with
    | none => rw [hg] at h; simp at h
    | some q =>
      obtain ⟨x, r⟩ := q
      rw [hg] at h; simp at h; subst h
      have := gn_some hg
      simp only [Int.toNat_natCast]
      exact ⟨by rw [← this.1], ⟨by omega, by omega⟩⟩
theorem textS_back {st : Option (List UInt8)} {z : List UInt8} (h : (textS st).2 = some z) : st = some (pt (textS st).1 ++ z) := by
  unfold textS at *
  cases st with
  | none => simp at h
  | some b =>
    simp only at *
    cases hg : gt b with
    | none => rw [hg] at h; simp at h
    | some q =>
      obtain ⟨x, r⟩ := q
      rw [hg] at h; simp at h; subst h
      simp only
      rw [← (gt_some hg).1]
theorem dotS_back {st : Option (List UInt8)} {z : List UInt8} (h : (dotS st).2 = some z) : st = some ((pn (dotS st).1.1.toNat ++ pn (dotS st).1.2.toNat) ++ z) := by
  unfold dotS at *
  simp only at *
  have h2 := numS_back h
  have h1 := numS_back h2.1
  rw [List.append_assoc]; exact h1.1
theorem numsS_back (n : Nat) : ∀ {st : Option (List UInt8)} {z : List UInt8}, (numsS n st).2 = some z → st = some (pns (numsS n st).1 ++ z) := by
  induction n with
  | zero => intro st z h; simpa [numsS, pns] using h
  | succ n ih =>
    intro st z h
    simp only [numsS] at *
    have h2 := numS_back h
    have h1 := ih h2.1
    conv => lhs; rw [h1]
    simp [pns]
theorem dotsS_back (n : Nat) : ∀ {st : Option (List UInt8)} {z : List UInt8}, (dotsS n st).2 = some z → st = some ((dS (dotsS n st).1).flatMap dpn ++ z) := by
  induction n with
  | zero => intro st z h; simpa [dotsS, dS] using h
  | succ n ih =>
    intro st z h
    simp only [dotsS] at *
    have h2 := dotS_back h
    have h1 := ih h2
    conv => lhs; rw [h1]
    simp [dS, dpn]
theorem zz_unz {x : Int} (h : numOk x) : zz (unz x) = x := by
  have := h.1
  unfold zz unz; split <;> split <;> omega
theorem foldS_back {st : Option (List UInt8)} {z : List UInt8} (h : (foldS st).2 = some z) : st = some (pn (zz (foldS st).1).toNat ++ z) := by
  unfold foldS at *
  simp only at *
  have h1 := numS_back h
  rw [zz_unz h1.2]; exact h1.1
theorem raw_back {n : Nat} {st : Option (List UInt8)} {z : List UInt8} (h : (rawS n st).2 = some z) (hm : (rawS n st).1.may n = true) : st = some ((rawS n st).1.put ++ z) := by
  have sm := small_of (show mayB _ _ _ _ _ _ _ _ _ _ _ _ _ _ _ = true from hm)
  unfold rawS at h sm hm ⊢
  dsimp only at h sm hm ⊢
  generalize hd : dotS st = d at *
  generalize ht : numS d.2 = t at *
  generalize hv : numsS n t.2 = v at *
  generalize hk : numS v.2 = k at *
  generalize hty : textS k.2 = ty at *
  generalize hid : textS ty.2 = id at *
  generalize hfl : textS id.2 = fl at *
  have hown : fl.2 = some (ownP k.1 (ba (ownS k.1 fl.2).val) (ownS k.1 fl.2).n0 (ownS k.1 fl.2).n1 (ownS k.1 fl.2).r0 (ownS k.1 fl.2).r1 (dS (ownS k.1 fl.2).dots) ++ z) := by
    have hkk := sm.k
    by_cases h1 : k.1 = 1
    · have hs : ownS k.1 fl.2 = { n0 := (foldS fl.2).1, n1 := (foldS (foldS fl.2).2).1, st := (foldS (foldS fl.2).2).2 } := by unfold ownS; rw [if_neg (by omega), if_pos h1]
      rw [hs] at h ⊢
      simp only at h ⊢
      have q2 := foldS_back h
      have q1 := foldS_back q2
      unfold ownP; rw [if_pos h1, List.append_assoc]; exact q1
    · by_cases h3 : k.1 = 3
      · have hs : ownS k.1 fl.2 = { dots := (dotsS (min (numS fl.2).1 65).toNat (numS fl.2).2).1, st := (dotsS (min (numS fl.2).1 65).toNat (numS fl.2).2).2 } := by unfold ownS; rw [if_neg (by omega), if_neg h1, if_pos h3]
        have hsl := sm.sl
        rw [hs] at h hsl ⊢
        simp only at h hsl ⊢
        have hl : (dS (dotsS (min (numS fl.2).1 65).toNat (numS fl.2).2).1).length = (min (numS fl.2).1 65).toNat := by simp [dS, dotsS_len]
        have q2 := dotsS_back _ h
        have q1 := numS_back q2
        have h0 := q1.2.1
        unfold ownP; rw [if_neg h1, if_pos h3, hl, show (min (numS fl.2).1 65).toNat = (numS fl.2).1.toNat from by omega, List.append_assoc]
        rw [show (min (numS fl.2).1 65).toNat = (numS fl.2).1.toNat from by omega] at q1
        exact q1.1
      · by_cases h5 : k.1 = 5
        · have hs : ownS k.1 fl.2 = { r0 := (dotS fl.2).1.1, r1 := (dotS fl.2).1.2, st := (dotS fl.2).2 } := by unfold ownS; rw [if_neg (by omega), if_neg h1, if_neg h3, if_neg (by omega), if_pos h5]
          rw [hs] at h ⊢
          simp only at h ⊢
          unfold ownP; rw [if_neg h1, if_neg h3, if_pos h5]; exact dotS_back h
        · by_cases h4 : k.1 = 4
          · have hs : ownS k.1 fl.2 = { r0 := (dotS fl.2).1.1, r1 := (dotS fl.2).1.2, val := (textS (dotS fl.2).2).1, st := (textS (dotS fl.2).2).2 } := by unfold ownS; rw [if_neg (by omega), if_neg h1, if_neg h3, if_pos h4]
            rw [hs] at h ⊢
            simp only at h ⊢
            have q2 := textS_back h
            have q1 := dotS_back q2
            unfold ownP; rw [if_neg h1, if_neg h3, if_neg h5, if_pos h4, List.append_assoc, bs_ba]; exact q1
          · have hs : ownS k.1 fl.2 = { val := (textS fl.2).1, st := (textS fl.2).2 } := by unfold ownS; rw [if_pos (by omega)]
            rw [hs] at h ⊢
            simp only at h ⊢
            unfold ownP; rw [if_neg h1, if_neg h3, if_neg h5, if_neg h4, bs_ba]; exact textS_back h
  have q7 := textS_back (st := id.2) (z := _) (by rw [hfl]; exact hown)
  rw [hfl] at q7
  have q6 := textS_back (st := ty.2) (z := _) (by rw [hid]; exact q7)
  rw [hid] at q6
  have q5 := textS_back (st := k.2) (z := _) (by rw [hty]; exact q6)
  rw [hty] at q5
  have q4 := (numS_back (st := v.2) (z := _) (by rw [hk]; exact q5)).1
  rw [hk] at q4
  have q3 := numsS_back n (st := t.2) (z := _) (by rw [hv]; exact q4)
  rw [hv] at q3
  have q2 := (numS_back (st := d.2) (z := _) (by rw [ht]; exact q3)).1
  rw [ht] at q2
  have q1 := dotS_back (st := st) (z := _) (by rw [hd]; exact q2)
  rw [hd] at q1
  rw [q1]
  simp [OpV.put, putP, headP, pns, pts]
end Go.Proofs.Ytaaaeonalomcgaa.Q
