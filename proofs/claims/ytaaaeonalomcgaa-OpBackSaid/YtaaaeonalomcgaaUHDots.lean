/- The printed functions on dots, vectors and names answer as plain ones. Condition: lists of at most 9223372036854775807 elements. -/
import Derived.Test.YtaaaeonalomcgaaUHVar
import Derived.Test.YtaaaeonalomcgaaUQ3
import Derived.Test.YtaaaeonalomcgaaUQ4
import Derived.Test.YtaaaeonalomcgaaUQ5
set_option linter.unusedVariables false
set_option linter.unusedSimpArgs false
namespace Go.Proofs.Ytaaaeonalomcgaa.Q
open Go.RowKit Go.Proofs.YtaaaeonalomcgaaW.PrintWords Go.Proofs.YtaaaeonalomcgaaW.PrintLast Go.Proofs.YtaaaeonalomcgaaW.PrintMore Sp
def nodesB (n : Int) : Bool := decide (1 ≤ n ∧ n ≤ 16)
theorem nodes_eq (n : Int) : dot_Nodes.f n = some (nodesB n) := by unfold dot_Nodes.f nodesB; split <;> simp_all; omega
def dotMayB (a b n : Int) : Bool := nodesB n && decide (0 ≤ a ∧ a < n ∧ 1 ≤ b ∧ b ≤ 1048575)
theorem dotMay_eq (a b n : Int) : dot_May.f a b n = some (dotMayB a b n) := by
  unfold dot_May.f dotMayB; rw [nodes_eq]; simp only [Option.bind_some]
  cases nodesB n with
  | false => simp
  | true =>
    simp only [if_true, Bool.true_and]
    by_cases h1 : a ≥ 0
    · rw [if_pos h1]
      by_cases h2 : a < n
      · rw [if_pos h2]
        by_cases h3 : b ≥ 1
        · rw [if_pos h3]; congr 1; apply Bool.eq_iff_iff.2; simp; omega
        · rw [if_neg h3]; congr 1; apply Bool.eq_iff_iff.2; simp; omega
      · rw [if_neg h2]; congr 1; apply Bool.eq_iff_iff.2; simp; omega
    · rw [if_neg h1]; congr 1; apply Bool.eq_iff_iff.2; simp; omega
def timeB (t : Int) : Bool := decide (1 ≤ t ∧ t ≤ 16777215)
theorem time_eq (t : Int) : dot_Time.f t = some (timeB t) := by
  unfold dot_Time.f timeB; split <;> (congr 1; apply Bool.eq_iff_iff.2; simp; omega)
theorem rd_getD (xs : List Int) (i : Nat) : rd xs i = xs.getD i 0 := by unfold rd; simp
theorem drop_getD {α : Type} (xs : List α) (i : Nat) (d : α) (h : i < xs.length) : xs.drop i = xs.getD i d :: xs.drop (i + 1) := by
  rw [List.drop_eq_getElem_cons h, List.getD_eq_getElem?_getD, List.getElem?_eq_getElem h]; rfl
def seqB (x : Int) : Bool := decide (0 ≤ x ∧ x ≤ 1048575)
def vecMayB (v : List Int) (n : Int) : Bool := nodesB n && decide ((v.length : Int) = n) && v.all seqB
theorem vecLoop_ev (v : List Int) (hv : v.length ≤ 9223372036854775807) (d : Nat) : ∀ i : Nat, i + d = v.length → Ev (fun k => vec_May.l0 k v (v.length : Int) i) ((v.drop i).all seqB) := by
  induction d with
  | zero =>
    intro i hi
    refine Ev.step (f := fun _ => some true) (fun k => ?_) (by rw [List.drop_of_length_le (by omega)]; exact Ev.now _)
    simp only [vec_May.l0]; rw [if_neg (by omega)]
  | succ d ih =>
    intro i hi
    rw [drop_getD v i 0 (by omega), List.all_cons]
    by_cases hc : seqB (v.getD i 0) = true
    · rw [hc, Bool.true_and]
      refine Ev.step (f := fun k => vec_May.l0 k v (v.length : Int) ((i + 1 : Nat) : Int)) (fun k => ?_) (ih (i + 1) (by omega))
      simp only [seqB, decide_eq_true_eq] at hc
      simp only [vec_May.l0]
      rw [if_pos (by omega), if_pos (by omega), if_pos (by omega), rd_getD, if_neg (by omega), if_neg (by omega), w64 (by omega) (by omega)]; rfl
    · rw [Bool.not_eq_true] at hc
      rw [hc, Bool.false_and]
      refine Ev.step (f := fun _ => some false) (fun k => ?_) (Ev.now _)
      simp only [seqB, decide_eq_false_iff_not] at hc
      simp only [vec_May.l0]
      rw [if_pos (by omega), if_pos (by omega), if_pos (by omega), rd_getD]
      by_cases h0 : v.getD i 0 < 0
      · rw [if_pos h0]
      · rw [if_neg h0, if_pos (by omega)]
theorem vecMay_ev (v : List Int) (hv : v.length ≤ 9223372036854775807) (n : Int) : Ev (fun k => vec_May.f k v n) (vecMayB v n) := by
  unfold vec_May.f vecMayB
  simp only [nodes_eq, Option.bind_some]
  have hstop : Ev (fun k => vec_May.j0 k v true) false := Ev.step (f := fun _ => some false) (fun k => by simp [vec_May.j0]) (Ev.now _)
  cases hb : nodesB n with
  | false => simpa using hstop
  | true =>
    simp only [if_true, Bool.true_and]
    by_cases hl : (v.length : Int) = n
    · rw [decide_eq_true hl, Bool.true_and]
      refine Ev.congr (f := fun k => vec_May.j0 k v false) (fun k => by rw [bne_eq_false_iff_eq.2 hl]) ?_
      refine Ev.step (f := fun k => vec_May.l0 k v (v.length : Int) ((0 : Nat) : Int)) (fun k => by simp [vec_May.j0]) ?_
      simpa using vecLoop_ev v hv v.length 0 (by omega)
    · rw [decide_eq_false hl, Bool.false_and]
      exact Ev.congr (f := fun k => vec_May.j0 k v true) (fun k => by rw [bne_iff_ne.2 hl]) hstop
def hasB (v : List Int) (a b : Int) : Bool := decide (0 ≤ a ∧ a < v.length ∧ 1 ≤ b ∧ b ≤ rd v a)
theorem has_eq (v : List Int) (a b : Int) : vec_Has.f v a b = some (hasB v a b) := by
  unfold vec_Has.f hasB
  by_cases h1 : a ≥ 0
  · rw [if_pos h1]
    by_cases h2 : a < v.length
    · rw [if_pos h2]
      by_cases h3 : b ≥ 1
      · rw [if_pos h3, if_pos h1]; congr 1; apply Bool.eq_iff_iff.2; simp; omega
      · rw [if_neg h3]; congr 1; apply Bool.eq_iff_iff.2; simp; omega
    · rw [if_neg h2]; congr 1; apply Bool.eq_iff_iff.2; simp; omega
  · rw [if_neg h1]; congr 1; apply Bool.eq_iff_iff.2; simp; omega
def cmpS (a b : Int) : Int := if a < b then -1 else if b < a then 1 else 0
theorem cmp_eq (a b : Int) : cmp_Compare_int.f a b = some (cmpS a b) := by
  unfold cmp_Compare_int.f cmp_isNaN_int.f cmpS; simp; split <;> (try split) <;> rfl
def cmpD (a0 a1 b0 b1 : Int) : Int := if cmpS a0 b0 = 0 then cmpS a1 b1 else cmpS a0 b0
theorem cmpD_ev (a0 a1 b0 b1 : Int) : Ev (fun k => dot_Compare.f k a0 a1 b0 b1) (cmpD a0 a1 b0 b1) := by
  unfold dot_Compare.f
  simp only [cmp_eq, Option.bind_some]
  refine ⟨3, fun k hk => ?_⟩
  obtain ⟨k, rfl⟩ : ∃ m, k = m + 3 := ⟨k - 3, by omega⟩
  have e1 : wrap64 1 = 1 := w64 (by decide) (by decide)
  have e2 : wrap64 2 = 2 := w64 (by decide) (by decide)
  unfold cmpD
  by_cases h : cmpS a0 b0 = 0
  · rw [if_pos h]
    by_cases h2 : cmpS a1 b1 = 0
    · simp [cmp_Or_int.f, cmp_Or_int.l0, rd, h, h2, e1, e2]
    · simp [cmp_Or_int.f, cmp_Or_int.l0, rd, h, h2, e1, e2]
  · rw [if_neg h]
    simp [cmp_Or_int.f, cmp_Or_int.l0, rd, h]
theorem cmpD_lt (a0 a1 b0 b1 : Int) : cmpD a0 a1 b0 b1 < 0 ↔ a0 < b0 ∨ a0 = b0 ∧ a1 < b1 := by
  unfold cmpD cmpS; (repeat' split) <;> omega
def ltD (a b : S23) : Bool := decide (a.f0 < b.f0 ∨ a.f0 = b.f0 ∧ a.f1 < b.f1)
def sortedB : List S23 → Bool
  | a :: b :: r => ltD a b && sortedB (b :: r)
  | _ => true
def dotsB (ds : List S23) (v : List Int) : Bool := ds.all (fun d => hasB v d.f0 d.f1) && sortedB ds && decide (ds.length ≤ 64)
theorem rdT_getD (xs : List S23) (i : Nat) : rd_T23 xs i = xs.getD i z23 := by unfold rd_T23; simp
theorem dotsLoop_ev (ds : List S23) (v : List Int) (hd : ds.length ≤ 9223372036854775807) (d : Nat) : ∀ i : Nat, i + d = ds.length →
    Ev (fun k => op_dots.l0 k ds v ds (ds.length : Int) i) ((ds.drop i).all (fun d => hasB v d.f0 d.f1) && sortedB (ds.drop (i - 1)) && decide (ds.length ≤ 64)) := by
  induction d with
  | zero =>
    intro i hi
    have hs : sortedB (ds.drop (i - 1)) = true := by
      have : (ds.drop (i - 1)).length ≤ 1 := by rw [List.length_drop]; omega
      match ds.drop (i - 1), this with
      | [], _ => rfl
      | [_], _ => rfl
    refine Ev.step (f := fun _ => some (decide (ds.length ≤ 64))) (fun k => ?_) (by rw [hs, List.drop_of_length_le (by omega)]; simpa using Ev.now _)
    simp only [op_dots.l0]; rw [if_neg (by omega)]; congr 1; apply Bool.eq_iff_iff.2; simp; omega
  | succ d ih =>
    intro i hi
    have hi' : i < ds.length := by omega
    rw [drop_getD ds i z23 hi', List.all_cons]
    by_cases hc : hasB v (ds.getD i z23).f0 (ds.getD i z23).f1 = true
    · rw [hc, Bool.true_and]
      have hih := ih (i + 1) (by omega)
      rw [Nat.add_sub_cancel] at hih
      by_cases h0 : i = 0
      · subst h0
        refine Ev.step (f := fun k => op_dots.l0 k ds v ds (ds.length : Int) ((0 + 1 : Nat) : Int)) (fun k => ?_) ?_
        · simp only [op_dots.l0]
          rw [if_pos (by omega), if_pos (by omega), if_pos (by omega), has_eq, rdT_getD]
          simp only [Option.bind_some, hc, if_true]
          rw [if_neg (by omega), w64 (by omega) (by omega)]; rfl
        · simpa using hih
      · have e3 : ((i : Int) - 1) = ((i - 1 : Nat) : Int) := by omega
        have hcmp := cmpD_ev (ds.getD (i - 1) z23).f0 (ds.getD (i - 1) z23).f1 (ds.getD i z23).f0 (ds.getD i z23).f1
        have hs : sortedB (ds.drop (i - 1)) = (ltD (ds.getD (i - 1) z23) (ds.getD i z23) && sortedB (ds.drop i)) := by
          rw [drop_getD ds (i - 1) z23 (by omega), show i - 1 + 1 = i from by omega, drop_getD ds i z23 hi']; rfl
        rw [hs]
        refine Ev.step (f := fun k => (dot_Compare.f k (ds.getD (i - 1) z23).f0 (ds.getD (i - 1) z23).f1 (ds.getD i z23).f0 (ds.getD i z23).f1).bind fun t => if t ≥ 0 then some false else op_dots.l0 k ds v ds (ds.length : Int) ((i + 1 : Nat) : Int)) (fun k => ?_) ?_
        · simp only [op_dots.l0]
          rw [if_pos (by omega), if_pos (by omega), if_pos (by omega), has_eq, rdT_getD]
          simp only [Option.bind_some, hc, if_true]
          rw [if_pos (by omega), w64 (x := (i : Int) - 1) (by omega) (by omega), if_pos (by omega), if_pos (by omega), w64 (x := (i : Int) + 1) (by omega) (by omega), e3, rdT_getD]; rfl
        · refine Ev.bind (f := fun k t => if t ≥ 0 then some false else op_dots.l0 k ds v ds (ds.length : Int) ((i + 1 : Nat) : Int)) hcmp ?_
          have hlt := cmpD_lt (ds.getD (i - 1) z23).f0 (ds.getD (i - 1) z23).f1 (ds.getD i z23).f0 (ds.getD i z23).f1
          by_cases hl : cmpD (ds.getD (i - 1) z23).f0 (ds.getD (i - 1) z23).f1 (ds.getD i z23).f0 (ds.getD i z23).f1 < 0
          · have e : ltD (ds.getD (i - 1) z23) (ds.getD i z23) = true := by unfold ltD; exact decide_eq_true (hlt.1 hl)
            rw [e, Bool.true_and]
            refine Ev.congr (fun k => if_neg (by omega)) ?_
            exact hih
          · have e : ltD (ds.getD (i - 1) z23) (ds.getD i z23) = false := by unfold ltD; exact decide_eq_false (mt hlt.2 hl)
            rw [e]
            refine Ev.congr (f := fun _ => some false) (fun k => if_pos (by omega)) ?_
            simpa using Ev.now _
    · rw [Bool.not_eq_true] at hc
      rw [hc]
      refine Ev.step (f := fun _ => some false) (fun k => ?_) (by simpa using Ev.now _)
      simp only [op_dots.l0]
      rw [if_pos (by omega), if_pos (by omega), if_pos (by omega), has_eq, rdT_getD]
      simp only [Option.bind_some]; rw [hc]; rfl
theorem dots_ev (ds : List S23) (v : List Int) (hd : ds.length ≤ 9223372036854775807) : Ev (fun k => op_dots.f k ds v) (dotsB ds v) := by
  unfold op_dots.f dotsB
  simpa using dotsLoop_ev ds v hd ds.length 0 (by omega)
theorem value_eq (s : ByteArray) : lww_Value.f s = some (decide (s.size ≤ 256)) := by unfold lww_Value.f; congr 1; apply Bool.eq_iff_iff.2; simp; omega
def numB (a b : Int) : Bool := decide (-1099511627776 ≤ a ∧ a ≤ 1099511627776 ∧ -1099511627776 ≤ b ∧ b ≤ 1099511627776)
theorem num_eq (a b : Int) : op_Num.f a b = some (numB a b) := by
  unfold op_Num.f numB mx mn
  (repeat' split) <;> (congr 1; apply Bool.eq_iff_iff.2; simp; omega)
def idB (s : ByteArray) : Bool := !s.toList.isEmpty && decide (s.size ≤ 256)
theorem id_eq (s : ByteArray) : op_Id.f s = some (idB s) := by
  unfold op_Id.f idB
  by_cases h : s.toList = []
  · rw [if_pos h]; simp [h]
  · rw [if_neg h]; congr 1
    have : s.toList.isEmpty = false := by cases hs : s.toList with | nil => exact absurd hs h | cons _ _ => rfl
    rw [this]; apply Bool.eq_iff_iff.2; simp; omega
def firstB (c : Int) : Bool := decide (97 ≤ c ∧ c ≤ 122 ∨ 65 ≤ c ∧ c ≤ 90 ∨ c = 95)
def digitB (c : Int) : Bool := decide (48 ≤ c ∧ c ≤ 57)
theorem first_eq (c : Int) : op_First.f c = some (firstB c) := by
  unfold op_First.f firstB
  (repeat' split) <;> (congr 1; apply Bool.eq_iff_iff.2; simp; omega)
theorem digit_eq (c : Int) : op_Digit.f c = some (digitB c) := by
  unfold op_Digit.f digitB
  split <;> (congr 1; apply Bool.eq_iff_iff.2; simp; omega)
def wordB (c : UInt8) : Bool := firstB c.toNat || digitB c.toNat
def nameB (s : ByteArray) : Bool := decide (0 < s.size ∧ s.size ≤ 32) && firstB ((bs s).getD 0 0).toNat && (bs s).all wordB
theorem nameLoop_ev (s : ByteArray) (hs : s.size ≤ 32) (d : Nat) : ∀ i : Nat, i + d = s.size → Ev (fun k => op_Name.l0 k s (s.size : Int) i) (((bs s).drop i).all wordB) := by
  induction d with
  | zero =>
    intro i hi
    refine Ev.step (f := fun _ => some true) (fun k => ?_) (by rw [List.drop_of_length_le (by rw [bs_length]; omega)]; exact Ev.now _)
    simp only [op_Name.l0]; rw [if_neg (by omega)]
  | succ d ih =>
    intro i hi
    rw [drop_bs s i (by omega), List.all_cons]
    have hc : ∀ k, op_Name.l0 (k + 1) s (s.size : Int) i = if wordB ((bs s).getD i 0) = true then op_Name.l0 k s (s.size : Int) ((i + 1 : Nat) : Int) else some false := by
      intro k
      simp only [op_Name.l0]
      rw [if_pos (by omega), if_pos (by omega), if_pos (by omega), first_eq, digit_eq, bt_bs s i (by omega), w64 (by omega) (by omega)]
      simp only [Option.bind_some, show ((i : Int) + 1) = ((i + 1 : Nat) : Int) from rfl]
      by_cases hf : firstB ((bs s).getD i 0).toNat = true
      · have hw : wordB ((bs s).getD i 0) = true := by unfold wordB; rw [hf]; rfl
        rw [if_pos hf, if_pos hw]
      · have hw : wordB ((bs s).getD i 0) = digitB ((bs s).getD i 0).toNat := by unfold wordB; rw [Bool.not_eq_true] at hf; rw [hf]; rfl
        rw [if_neg hf, hw]
    refine Ev.step (f := fun k => if wordB ((bs s).getD i 0) = true then op_Name.l0 k s (s.size : Int) ((i + 1 : Nat) : Int) else some false) hc ?_
    cases wordB ((bs s).getD i 0) with
    | true => simpa using ih (i + 1) (by omega)
    | false => simpa using Ev.now _
theorem name_ev (s : ByteArray) : Ev (fun k => op_Name.f k s) (nameB s) := by
  unfold op_Name.f nameB
  have hstop : Ev (fun k => op_Name.j0 k s true) false := Ev.step (f := fun _ => some false) (fun k => by simp [op_Name.j0]) (Ev.now _)
  have hlen : s.toList.length = s.size := by rw [ByteArray.toList_eq]; exact bs_length s
  by_cases h0 : s.toList = []
  · have : s.size = 0 := by rw [← hlen, h0]; rfl
    refine Ev.congr (fun k => if_pos h0) ?_
    rw [decide_eq_false (by omega)]; simpa using hstop
  · have hp : 0 < s.size := by rw [← hlen]; exact List.length_pos_iff.2 h0
    refine Ev.congr (fun k => if_neg h0) ?_
    by_cases h1 : (s.size : Int) > 32
    · refine Ev.congr (fun k => if_pos h1) ?_
      rw [decide_eq_false (by omega)]; simpa using hstop
    · refine Ev.congr (fun k => if_neg h1) ?_
      refine Ev.congr (f := fun k => op_Name.j0 k s (!(firstB ((bs s).getD 0 0).toNat))) (fun k => by rw [if_pos (by omega), first_eq, show (0 : Int) = ((0 : Nat) : Int) from rfl, bt_bs s 0 hp]; rfl) ?_
      rw [decide_eq_true (by omega), Bool.true_and]
      cases firstB ((bs s).getD 0 0).toNat with
      | false => simpa using hstop
      | true =>
        refine Ev.step (f := fun k => op_Name.l0 k s (s.size : Int) ((0 : Nat) : Int)) (fun k => by simp [op_Name.j0]) ?_
        simpa using nameLoop_ev s (by omega) s.size 0 (by omega)
end Go.Proofs.Ytaaaeonalomcgaa.Q
