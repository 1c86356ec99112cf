/- The printed functions of varint answer as the plain ones. Condition: texts of at most 140737488351232 bytes. -/
import Derived.Test.YtaaaeonalomcgaaUHSpec
import Derived.Test.YtaaaeonalomcgaaUQ8
set_option linter.unusedVariables false
namespace Go.Proofs.Ytaaaeonalomcgaa.Q
open Go.RowKit Go.Proofs.YtaaaeonalomcgaaW.PrintWords Go.Proofs.YtaaaeonalomcgaaW.PrintLast Go.Proofs.YtaaaeonalomcgaaW.PrintMore Sp
abbrev bs (s : ByteArray) : List UInt8 := s.data.toList
theorem bs_length (s : ByteArray) : (bs s).length = s.size := Array.length_toList
theorem w64 {x : Int} (h0 : -9223372036854775808 ≤ x) (h1 : x ≤ 9223372036854775807) : wrap64 x = x := by unfold wrap64; omega
theorem bt_bs (s : ByteArray) (i : Nat) (h : i < s.size) : bt s i = (((bs s).getD i 0).toNat : Int) := by
  have e : (bs s).getD i 0 = s[i] := by simp [List.getD_eq_getElem?_getD, Array.getElem?_eq_getElem (show i < s.data.size from h)]; rfl
  rw [e]; simp [bt, h]
theorem drop_bs (s : ByteArray) (i : Nat) (h : i < s.size) : (bs s).drop i = (bs s).getD i 0 :: (bs s).drop (i + 1) := by
  have h' : i < (bs s).length := by rw [bs_length]; exact h
  rw [List.drop_eq_getElem_cons h', List.getD_eq_getElem?_getD, List.getElem?_eq_getElem h']; rfl
def endS (s : ByteArray) (i n : Nat) : Int := match tm n ((bs s).drop i) with | some m => (i + m : Nat) | none => 0
theorem mn_eq (a b : Int) : mn a b = min a b := by unfold mn; omega
theorem ends_ev (s : ByteArray) (hs : s.size ≤ 140737488351232) (a : Nat) (ha : a ≤ s.size) (n : Nat) : ∀ (i : Nat), a ≤ i → i ≤ s.size → i + n = a + 9 →
    Ev (fun k => varint_ends.l0 k s a i) (endS s i n) := by
  induction n with
  | zero =>
    intro i h1 h2 h3
    refine Ev.step (f := fun _ => some 0) (fun k => ?_) (by unfold endS; simp only [tm]; exact Ev.now _)
    simp only [varint_ends.l0]
    rw [if_neg (by rw [mn_eq, w64 (by omega) (by omega)]; omega)]
  | succ n ih =>
    intro i h1 h2 h3
    by_cases hi : i < s.size
    · have hb := bt_bs s i hi
      by_cases hc : (bs s).getD i 0 < 128
      · refine Ev.step (f := fun _ => some ((i + 1 : Nat) : Int)) (fun k => ?_) ?_
        · simp only [varint_ends.l0]
          rw [if_pos (by rw [mn_eq, w64 (by omega) (by omega)]; omega), if_pos (by omega), if_pos (by omega), if_pos (by rw [hb]; have := (u8_lt128 _).1 hc; omega), w64 (by omega) (by omega)]
          simp
        · unfold endS; rw [drop_bs s i hi, tm, if_pos hc]; exact Ev.now _
      · refine Ev.step (f := fun k => varint_ends.l0 k s a ((i + 1 : Nat) : Int)) (fun k => ?_) ?_
        · simp only [varint_ends.l0]
          rw [if_pos (by rw [mn_eq, w64 (by omega) (by omega)]; omega), if_pos (by omega), if_pos (by omega), if_neg (by rw [hb]; have := mt (u8_lt128 _).2 hc; omega), w64 (by omega) (by omega)]
          simp
        · have e : endS s i (n + 1) = endS s (i + 1) n := by
            unfold endS; rw [drop_bs s i hi, tm, if_neg hc]
            cases tm n ((bs s).drop (i + 1)) with
            | none => rfl
            | some m => simp only [Option.map_some]; omega
          rw [e]; exact ih (i + 1) (by omega) (by omega) (by omega)
    · refine Ev.step (f := fun _ => some 0) (fun k => ?_) ?_
      · simp only [varint_ends.l0]
        rw [if_neg (by rw [mn_eq, w64 (by omega) (by omega)]; omega)]
      · unfold endS; rw [List.drop_of_length_le (by rw [bs_length]; omega)]; simp only [tm]; exact Ev.now _
theorem or7 (x c : Int) (hx : 0 ≤ x) (hx1 : x < 72057594037927936) (hc : 0 ≤ c) (hc1 : c < 256) : Go.bits .or .i64 (wrap64 (x * 128)) (wrap64 (Go.bits .and .u8 c 127)) = x * 128 + c % 128 := by
  have e1 : Go.bits .and .u8 c 127 = c % 128 := bits_mask .u8 8 (by decide) wraps_u8 7 (by decide) c hc hc1
  rw [e1, w64 (by omega) (by omega), w64 (by omega) (by omega)]
  refine bits_join .i64 63 (by decide) (fun n h0 h1 => ?_) 7 (x * 128) (c % 128) (by omega) ?_ (by omega) (by omega) (by omega) (by omega)
  · rw [IntKind.wrap_i64]; omega
  · show x * 128 % 128 = 0; omega
theorem val_ev (s : ByteArray) (hs : s.size ≤ 140737488351232) (a e : Nat) (he : e ≤ s.size) (hl : e ≤ a + 9) (d : Nat) : ∀ (i : Nat), a + d = i → i ≤ e →
    Ev (fun k => varint_Get.l0 k s a e (vl (((bs s).drop i).take (e - i)) : Nat) ((i : Int) - 1)) ((vl (((bs s).drop a).take (e - a)) : Nat), (e : Int), 0) := by
  induction d with
  | zero =>
    intro i hi hie
    obtain rfl : i = a := by omega
    refine Ev.step (f := fun _ => some (((vl (((bs s).drop i).take (e - i)) : Nat) : Int), (e : Int), (0 : Int))) (fun k => ?_) (Ev.now _)
    simp only [varint_Get.l0]
    rw [if_neg (by omega)]
  | succ d ih =>
    intro i hi hie
    obtain ⟨j, rfl⟩ : ∃ j, i = j + 1 := ⟨i - 1, by omega⟩
    have hj : j < s.size := by omega
    have hv : vl (((bs s).drop (j + 1)).take (e - (j + 1))) < 128 ^ 8 := by
      have h1 := vl_lt (((bs s).drop (j + 1)).take (e - (j + 1)))
      have h2 : (((bs s).drop (j + 1)).take (e - (j + 1))).length ≤ 8 := by simp; omega
      exact Nat.lt_of_lt_of_le h1 (Nat.pow_le_pow_right (by decide) h2)
    have hc := ((bs s).getD j 0).toNat_lt
    refine Ev.step (f := fun k => varint_Get.l0 k s a e (vl (((bs s).drop j).take (e - j)) : Nat) ((j : Int) - 1)) (fun k => ?_) (ih j (by omega) (by omega))
    simp only [varint_Get.l0]
    rw [if_pos (by omega), if_pos (by omega), if_pos (by omega), show ((j + 1 : Nat) : Int) - 1 = (j : Int) from by omega, bt_bs s j hj, or7 _ _ (by omega) (by omega) (by omega) (by omega), w64 (by omega) (by omega)]
    congr 1
    rw [drop_bs s j hj, show e - j = (e - (j + 1)) + 1 from by omega, List.take_succ_cons, vl]
    omega
def getS (s : ByteArray) (a : Nat) : Int × Int × Int :=
  match gn ((bs s).drop a) with
  | some (x, r) => (x, (s.size : Int) - r.length, 0)
  | none => (0, 0, if tm 9 ((bs s).drop a) = none ∧ s.size < a + 9 then 100 else 101)
theorem get_ev (s : ByteArray) (hs : s.size ≤ 140737488351232) (a : Nat) (ha : a ≤ s.size) : Ev (fun k => varint_Get.f k s a) (getS s a) := by
  unfold varint_Get.f
  refine Ev.congr (f := fun k => varint_Get.j0 k s a false) (fun k => by rw [if_neg (by omega), decide_eq_false (by omega)]) ?_
  refine Ev.step (f := fun k => (varint_ends.f k s a).bind fun t161 => (if t161 = 0 then (varint_Get.j1 k s a t161 (decide ((wrap64 ((s.size : Int) - a)) < 9))) else (varint_Get.j1 k s a t161 false))) (fun k => by simp [varint_Get.j0]) ?_
  refine Ev.bind (f := fun k t161 => (if t161 = 0 then (varint_Get.j1 k s a t161 (decide ((wrap64 ((s.size : Int) - a)) < 9))) else (varint_Get.j1 k s a t161 false))) (ends_ev s hs a ha 9 a (by omega) ha rfl) ?_
  unfold endS getS gn
  cases hm : tm 9 ((bs s).drop a) with
  | none =>
    simp only [if_true]
    refine Ev.step (f := fun _ => some (0, 0, if True ∧ s.size < a + 9 then 100 else 101)) (fun k => ?_) (by simpa using Ev.now _)
    simp only [varint_Get.j1, w64 (x := (s.size : Int) - a) (by omega) (by omega)]
    by_cases h9 : s.size < a + 9
    · rw [decide_eq_true (by omega)]; simp [h9]
    · rw [decide_eq_false (by omega)]; simp [h9]
  | some m =>
    have hb := tm_len _ _ _ hm
    have hlen : ((bs s).drop a).length = s.size - a := by rw [List.length_drop, bs_length]
    have hd : ((bs s).drop a).getD (m - 1) 0 = (bs s).getD (a + m - 1) 0 := by
      simp only [List.getD_eq_getElem?_getD, List.getElem?_drop]; rw [show a + (m - 1) = a + m - 1 from by omega]
    rw [hlen] at hb
    refine Ev.congr (f := fun k => varint_Get.j1 k s a ((a + m : Nat) : Int) false) (fun k => by simp only; rw [if_neg (by omega)]) ?_
    have hj2 : Ev (fun k => varint_Get.j2 k s a ((a + m : Nat) : Int)) ((vl (((bs s).drop a).take m) : Nat), ((a + m : Nat) : Int), 0) := by
      have h := val_ev s hs a (a + m) (by omega) (by omega) m (a + m) (by omega) (by omega)
      rw [show a + m - (a + m) = 0 from by omega, show a + m - a = m from by omega] at h
      refine Ev.step (f := fun k => varint_Get.l0 k s a ((a + m : Nat) : Int) 0 (((a + m : Nat) : Int) - 1)) (fun k => ?_) (by simpa [vl] using h)
      simp only [varint_Get.j2]; rw [w64 (by omega) (by omega)]
    simp only
    rw [hd]
    refine Ev.step (f := fun k => if (1 < m ∧ (bs s).getD (a + m - 1) 0 = 0) then some (0, 0, 101) else varint_Get.j2 k s a ((a + m : Nat) : Int)) (fun k => ?_) ?_
    · simp only [varint_Get.j1, Bool.false_eq_true, if_false]
      rw [if_neg (show ¬ ((a + m : Nat) : Int) = 0 by omega), w64 (x := ((a + m : Nat) : Int) - a) (by omega) (by omega), w64 (x := ((a + m : Nat) : Int) - 1) (by omega) (by omega)]
      by_cases h1 : 1 < m
      · rw [if_pos (show ((a + m : Nat) : Int) - a > 1 by omega), if_pos (show 0 ≤ ((a + m : Nat) : Int) - 1 by omega), if_pos (show ((a + m : Nat) : Int) - 1 < s.size by omega), show ((a + m : Nat) : Int) - 1 = ((a + m - 1 : Nat) : Int) from by omega, bt_bs s _ (by omega)]
        by_cases h0 : (bs s).getD (a + m - 1) 0 = 0
        · have e0 : ((((bs s).getD (a + m - 1) 0).toNat : Nat) : Int) = 0 := by rw [h0]; rfl
          rw [if_pos e0, if_pos ⟨h1, h0⟩]
        · have e0 : ¬ ((((bs s).getD (a + m - 1) 0).toNat : Nat) : Int) = 0 := fun h => h0 (by apply UInt8.toNat_inj.1; show _ = 0; omega)
          rw [if_neg e0, if_neg (fun h => h0 h.2)]
      · rw [if_neg (show ¬ ((a + m : Nat) : Int) - a > 1 by omega), if_neg (fun h => h1 h.1)]
    · by_cases h1 : 1 < m ∧ (bs s).getD (a + m - 1) 0 = 0
      · simp only [if_pos h1]; simpa using Ev.now _
      · simp only [if_neg h1]
        have e : ((s.size : Int) - (((bs s).drop a).drop m).length) = ((a + m : Nat) : Int) := by rw [List.length_drop, hlen]; omega
        simp only [e]; exact hj2
def getTextS (s : ByteArray) (a : Nat) : ByteArray × Int × Int :=
  match gn ((bs s).drop a) with
  | some (n, r) => if n > 65536 then (⟨#[]⟩, 0, 101) else if n > r.length then (⟨#[]⟩, 0, 100) else (⟨(r.take n).toArray⟩, (s.size : Int) - (r.drop n).length, 0)
  | none => (⟨#[]⟩, 0, (getS s a).2.2)
theorem gn_le {b : List UInt8} {x : Nat} {r : List UInt8} (h : gn b = some (x, r)) : r.length ≤ b.length := by
  rw [(gn_some h).1]; simp
theorem gn_drop {b : List UInt8} {x : Nat} {r : List UInt8} (h : gn b = some (x, r)) : r = b.drop (b.length - r.length) := by
  have := (gn_some h).1
  rw [this]; simp
theorem extract_eq (s : ByteArray) (i j : Nat) (h : j ≤ s.size) : s.extract i j = ⟨(((bs s).drop i).take (j - i)).toArray⟩ := by
  apply ByteArray.ext
  rw [ByteArray.data_extract]
  apply Array.toList_inj.1
  simp [List.take_drop]
theorem getText_ev (s : ByteArray) (hs : s.size ≤ 140737488351232) (a : Nat) (ha : a ≤ s.size) : Ev (fun k => varint_GetText.f k s a) (getTextS s a) := by
  have h := get_ev s hs a ha
  unfold varint_GetText.f getTextS
  refine Ev.bind h ?_
  cases hg : gn ((bs s).drop a) with
  | none =>
    have : (getS s a).2.2 ≠ 0 := by unfold getS; rw [hg]; simp only; split <;> decide
    simp only [if_neg this]; exact Ev.now _
  | some q =>
    obtain ⟨n, r⟩ := q
    have hn := (gn_some hg).2
    have hl := gn_le hg
    have hd := gn_drop hg
    have hlen : ((bs s).drop a).length = s.size - a := by rw [List.length_drop, bs_length]
    rw [hlen] at hl hd
    have e : getS s a = ((n : Int), (s.size : Int) - r.length, 0) := by unfold getS; rw [hg]
    simp only [e, if_true]
    by_cases h1 : n > 65536
    · rw [if_pos h1]; simp only [show (n : Int) > 65536 by omega, if_true]; exact Ev.now _
    · rw [if_neg h1]; simp only [show ¬ (n : Int) > 65536 by omega, if_false]
      have e2 : wrap64 ((s.size : Int) - ((s.size : Int) - r.length)) = r.length := by rw [w64 (by omega) (by omega)]; omega
      rw [e2]
      by_cases h2 : n > r.length
      · rw [if_pos h2]; simp only [show (n : Int) > (r.length : Int) by omega, if_true]; exact Ev.now _
      · rw [if_neg h2]; simp only [show ¬ (n : Int) > (r.length : Int) by omega, if_false]
        have e3 : wrap64 ((s.size : Int) - r.length + n) = (s.size : Int) - r.length + n := w64 (by omega) (by omega)
        rw [e3]
        simp only [show (0 : Int) ≤ (s.size : Int) - r.length by omega, show (s.size : Int) - r.length ≤ (s.size : Int) - r.length + n by omega, show (s.size : Int) - r.length + n ≤ (s.size : Int) by omega, if_true]
        have e4 : s.extract ((s.size : Int) - r.length).toNat ((s.size : Int) - r.length + n).toNat = ⟨(r.take n).toArray⟩ := by
          rw [extract_eq _ _ _ (by omega)]
          rw [hd, List.drop_drop]
          congr 3
          · congr 1; simp; omega
          · simp; omega
        rw [e4]
        have e5 : (s.size : Int) - r.length + n = (s.size : Int) - (r.drop n).length := by simp; omega
        rw [e5]; exact Ev.now _
end Go.Proofs.Ytaaaeonalomcgaa.Q
