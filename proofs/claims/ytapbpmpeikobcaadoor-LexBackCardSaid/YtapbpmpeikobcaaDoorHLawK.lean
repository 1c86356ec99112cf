/- LexBack answers true: the plain law under its printed walk (turned by mend.back.py). Condition: a text of at most 140737488351232 bytes. -/
import Derived.Laws.BitsLemmas
import Derived.Laws.Bits64
import Derived.Test.YtapbpmpeikobcaaDoorQ5
import Derived.Test.YtapbpmpeikobcaaDoorHLaw6
import Derived.Test.YtapbpmpeikobcaaDoorHLaw7
import Derived.Test.YtapbpmpeikobcaaDoorHLaw4
set_option linter.unusedVariables false
set_option linter.unusedSimpArgs false
namespace Go.Proofs.YtapbpmpeikobcaaDoor.Lx
theorem wr_len (t : Tok) (h : Valid t) : (wr t).length ≤ 520 := by
  rcases h with ⟨hk, hn, hi⟩ | ⟨hk, ht, h1, h2⟩ | ⟨hk, hl, hi⟩ | ⟨hk, hi, hm⟩
  · have hw : wr t = t.text := by unfold wr; rw [hk]; rfl
    rw [hw]
    cases hx : t.text with
    | nil => simp
    | cons c r => rw [hx] at hn; simp only [nameB, Bool.and_eq_true, decide_eq_true_eq] at hn; simp only [List.length_cons] at hn ⊢; omega
  · unfold wr; rw [hk, if_pos rfl]
    split
    · have := decL_len (-t.int).toNat 14 (by omega); simp; omega
    · have := decL_len t.int.toNat 14 (by omega); omega
  · have hw : wr t = Go.Proofs.YtapbpmpeikobcaaDoor.Q.wrT t.text := by unfold wr; rw [hk]; rfl
    have := Go.Proofs.YtapbpmpeikobcaaDoor.Q.wrT_len t.text
    rw [hw]; omega
  · have hw : wr t = t.text := by unfold wr; rw [hk]; rfl
    rw [hw]
    rcases hm with ⟨c, hc, _⟩ | hc <;> rw [hc] <;> simp
theorem sep_len (t : Tok) : (sep t).length ≤ 1 := by unfold sep; split <;> simp
theorem txt_snoc (g : Nat → List UInt8) : ∀ (ts : List Tok) (i : Nat) (t : Tok), txt g i (ts ++ [t]) = txt g i ts ++ g (i + ts.length) ++ (wr t ++ sep t)
  | [], i, t => by simp [txt]
  | x :: r, i, t => by
    rw [List.cons_append, txt, txt, txt_snoc g r (i + 1) t, List.length_cons, show i + 1 + r.length = i + (r.length + 1) from by omega]; simp
theorem again_snoc (g : Nat → List UInt8) : ∀ (ts : List Tok) (i p : Nat) (t : Tok), again g i p (ts ++ [t]) = again g i p ts ++ [⟨t.kind, t.text, t.int, p + (txt g i ts ++ g (i + ts.length)).length⟩]
  | [], i, p, t => by simp [again, txt]
  | x :: r, i, p, t => by
    rw [List.cons_append, again, again, again_snoc g r (i + 1) _ t, List.length_cons, show i + 1 + r.length = i + (r.length + 1) from by omega, txt]
    simp only [List.length_append, List.cons_append]
    congr 4
    omega
theorem txt_len (g : Nat → List UInt8) (hg : ∀ i, (g i).length ≤ 4) : ∀ (ts : List Tok) (i : Nat), (∀ t ∈ ts, Valid t) → (txt g i ts).length ≤ 525 * ts.length
  | [], _, _ => by simp [txt]
  | t :: r, i, h => by
    have ih := txt_len g hg r (i + 1) (fun x hx => h x (List.mem_cons_of_mem _ hx))
    have h1 := wr_len t (h t List.mem_cons_self)
    have h2 := sep_len t
    have h3 := hg i
    simp only [txt, List.length_append, List.length_cons]; omega
theorem again_get (g : Nat → List UInt8) : ∀ (ts : List Tok) (i p j : Nat) (h : j < ts.length), ∃ q : Nat, (again g i p ts)[j]? = some ⟨ts[j].kind, ts[j].text, ts[j].int, q⟩
  | [], _, _, j, h => by simp at h
  | t :: r, i, p, 0, h => ⟨_, rfl⟩
  | t :: r, i, p, j + 1, h => again_get g r (i + 1) _ j (by simpa using h)
end Go.Proofs.YtapbpmpeikobcaaDoor.Lx
namespace Go.Proofs.YtapbpmpeikobcaaDoor.Q
open Go.RowKit Go.Proofs.YtapbpmpeikobcaaDoorW.PrintWords Go.Proofs.YtapbpmpeikobcaaDoorW.PrintLast Go.Proofs.YtapbpmpeikobcaaDoorW.PrintMore

theorem mask_range (a : Int) (m : Nat) (hm : m < 4611686018427387904) : 0 ≤ Go.bits .and .i64 a (m : Int) ∧ Go.bits .and .i64 a (m : Int) ≤ m := by
  have hb : BitVec.ofInt IntKind.i64.bits (m : Int) = BitVec.ofNat IntKind.i64.bits m := BitVec.ofInt_natCast _ _
  have hm' : m % 2 ^ IntKind.i64.bits = m := Nat.mod_eq_of_lt (Nat.lt_of_lt_of_le hm (by decide +kernel))
  have e : Go.bits .and .i64 a (m : Int) = IntKind.i64.wrap (((BitVec.ofInt IntKind.i64.bits a).toNat &&& m : Nat) : Int) := by
    show IntKind.i64.wrap (((BitVec.ofInt IntKind.i64.bits a &&& BitVec.ofInt IntKind.i64.bits (m : Int)).toNat : Nat) : Int) = _
    rw [hb, BitVec.toNat_and, BitVec.toNat_ofNat, hm']
  have hle : (BitVec.ofInt IntKind.i64.bits a).toNat &&& m ≤ m := Nat.and_le_right
  rw [e]
  generalize (BitVec.ofInt IntKind.i64.bits a).toNat &&& m = y at hle ⊢
  rw [IntKind.wrap_i64]
  omega
theorem mask3 (a : Int) : 0 ≤ Go.bits .and .i64 a 3 ∧ Go.bits .and .i64 a 3 ≤ 3 := mask_range a 3 (by omega)
theorem u64_nonneg (x : Int) : 0 ≤ IntKind.u64.wrap x := by rw [IntKind.wrap_u64]; omega
def gapZ (z : Int) : List UInt8 := if z = 0 then [32] else if z = 1 then [10] else if z = 2 then [44, 44, 32] else [35, 120, 34, 10]
def gapR : List ByteArray := [(⟨#[32]⟩ : ByteArray), (⟨#[10]⟩ : ByteArray), (⟨#[44, 44, 32]⟩ : ByteArray), (⟨#[35, 120, 34, 10]⟩ : ByteArray)]
def zOf (gap : Int) (j : Nat) : Int := Go.bits .and .i64 (shr .i64 gap (IntKind.u64.wrap (Go.bits .and .i64 (j : Int) 15))) 3
def gapOf (gap : Int) (j : Nat) : List UInt8 := gapZ (zOf gap j)
theorem gapZ_gap (z : Int) : Lx.Gap (gapZ z) := by
  unfold gapZ
  split
  · exact Lx.gap1
  · split
    · exact Lx.gap2
    · split
      · exact Lx.gap3
      · exact Lx.gap4
theorem gapZ_len (z : Int) : (gapZ z).length ≤ 4 := by
  unfold gapZ; split
  · simp
  · split
    · simp
    · split <;> simp
theorem gapR_at (z : Int) (h0 : 0 ≤ z) (h1 : z ≤ 3) : rdOf ByteArray.empty gapR z = ba (gapZ z) := by
  have : z = 0 ∨ z = 1 ∨ z = 2 ∨ z = 3 := by omega
  rcases this with rfl | rfl | rfl | rfl <;> rfl
def posL (l : List Lx.Tok) : List Int := l.map fun t => (t.pos : Int)
/-- The rows are compared. -/
theorem cmp_ev (a us : List Lx.Tok) (hl : a.length ≤ 2048) (hlen : us.length = a.length) (hj : ∀ (j : Nat) (h : j < a.length), ∃ q : Nat, us[j]? = some ⟨a[j].kind, a[j].text, a[j].int, q⟩) (d : Nat) :
    ∀ i : Nat, i + d = a.length → Ev (fun k => tattlelaw13_LexBack.l1 k (a.map tk) (posL us) (us.map tk) (i : Int)) true := by
  induction d with
  | zero => intro i hi; exact Ev.step (f := fun _ => some true) (fun k => by simp only [tattlelaw13_LexBack.l1]; rw [if_neg (by rw [List.length_map]; omega)]) (Ev.now _)
  | succ d ih =>
    intro i hi
    refine Ev.step (f := fun k => tattlelaw13_LexBack.l1 k (a.map tk) (posL us) (us.map tk) ((i + 1 : Nat) : Int)) (fun k => ?_) (ih (i + 1) (by omega))
    obtain ⟨q, hq⟩ := hj i (by omega)
    have hiu : i < us.length := by omega
    have hui : us[i] = ⟨a[i].kind, a[i].text, a[i].int, q⟩ := by rw [List.getElem?_eq_getElem hiu] at hq; exact Option.some.inj hq
    have e1 : rd_T37 (a.map tk) (i : Int) = tk a[i] := rd_map _ _ (by omega)
    have e2 : rd_T37 (us.map tk) (i : Int) = tk us[i] := rd_map _ _ hiu
    have e3 : rd (posL us) (i : Int) = ((us[i].pos : Nat) : Int) := by
      unfold posL rd
      rw [Int.toNat_natCast, List.getD_eq_getElem?_getD, List.getElem?_map, List.getElem?_eq_getElem hiu]; rfl
    simp only [tattlelaw13_LexBack.l1]
    rw [e1, e2, e3, hui]
    rw [if_pos (by rw [List.length_map]; omega), if_pos (by omega), if_pos (by rw [List.length_map]; omega), if_pos (by rfl), if_pos (by rfl), if_pos (by rfl), if_pos (by unfold posL; rw [List.length_map]; omega), if_pos (by rfl), w64 (by omega) (by omega)]; rfl
/-- Behind the last token. -/
theorem last_ev (a : List Lx.Tok) (gap : Int) (hl : a.length ≤ 2048) (hv : ∀ t ∈ a, Lx.Valid t) :
    Ev (fun k => tattlelaw13_LexBack.l0 k gap (a.map tk) (ba (Lx.txt (gapOf gap) 0 a)) (posL (Lx.again (gapOf gap) 0 0 a)) (a.length : Int)) true := by
  have hL := Lx.L_txt (gapOf gap) (fun i => gapZ_gap _) a 0 0 hv
  have hlen := Lx.again_len (gapOf gap) a 0 0
  by_cases hbig : ((ba (Lx.txt (gapOf gap) 0 a)).size : Int) > 65536
  · refine Ev.step (f := fun _ => some true) (fun k => ?_) (Ev.now _)
    simp only [tattlelaw13_LexBack.l0]; rw [if_neg (by rw [List.length_map]; omega), if_pos hbig]
  · have hs : (Lx.txt (gapOf gap) 0 a).length ≤ 65536 := by rw [ba_size] at hbig; omega
    have hT : lex_Tokens.f (ba (Lx.txt (gapOf gap) 0 a)) = some ((Lx.again (gapOf gap) 0 0 a).map tk, 0) := f_ok (by
      rw [bs_ba]; unfold Lx.tokens; rw [if_neg (by omega), hL]; simp only []; rw [if_neg (by omega)])
    refine Ev.step (f := fun k => tattlelaw13_LexBack.j1 k (a.map tk) (posL (Lx.again (gapOf gap) 0 0 a)) ((Lx.again (gapOf gap) 0 0 a).map tk) false) (fun k => ?_) ?_
    · simp only [tattlelaw13_LexBack.l0]
      rw [if_neg (by rw [List.length_map]; omega), if_neg hbig, hT]
      simp only [Option.bind_some, num_f]
      rw [if_pos trivial]
      congr 1
      simp [hlen]
    · refine Ev.step (f := fun k => tattlelaw13_LexBack.l1 k (a.map tk) (posL (Lx.again (gapOf gap) 0 0 a)) ((Lx.again (gapOf gap) 0 0 a).map tk) ((0 : Nat) : Int)) (fun k => by simp only [tattlelaw13_LexBack.j1]; rfl) ?_
      exact cmp_ev a _ hl hlen (fun j h => Lx.again_get _ _ _ _ _ h) a.length 0 (by omega)
theorem round_ev (a : List Lx.Tok) (gap : Int) (hl : a.length ≤ 2048) (hv : ∀ t ∈ a, Lx.Valid t) (d : Nat) :
    ∀ (p q : List Lx.Tok), p ++ q = a → q.length = d → Ev (fun k => tattlelaw13_LexBack.l0 k gap (a.map tk) (ba (Lx.txt (gapOf gap) 0 p)) (posL (Lx.again (gapOf gap) 0 0 p)) (p.length : Int)) true := by
  induction d with
  | zero =>
    intro p q hpq hq
    cases q with
    | nil => rw [List.append_nil] at hpq; subst hpq; exact last_ev p gap hl hv
    | cons t r => simp at hq
  | succ d ih =>
    intro p q hpq hq
    cases q with
    | nil => simp at hq
    | cons t r =>
      have ih' := ih (p ++ [t]) r (by rw [← hpq]; simp) (by simpa using hq)
      have hpl : p.length < a.length := by rw [← hpq]; simp
      have hat : a[p.length] = t := by
        have : a[p.length]? = some t := by rw [← hpq]; simp
        rw [List.getElem?_eq_getElem hpl] at this; exact Option.some.inj this
      have ht : Lx.Valid t := hv t (by rw [← hpq]; simp)
      have hvp : ∀ x ∈ p, Lx.Valid x := fun x hx => hv x (by rw [← hpq]; simp [hx])
      have e1 : rd_T37 (a.map tk) (p.length : Int) = tk t := by rw [rd_map _ _ hpl, hat]
      have hz := mask3 (shr .i64 gap (IntKind.u64.wrap (Go.bits .and .i64 (p.length : Int) 15)))
      have hg : rdOf ByteArray.empty gapR (Go.bits .and .i64 (shr .i64 gap (IntKind.u64.wrap (Go.bits .and .i64 (p.length : Int) 15))) 3) = ba (gapOf gap p.length) := gapR_at _ hz.1 hz.2
      have hlen := Lx.txt_len (gapOf gap) (fun i => gapZ_len _) p 0 hvp
      have hgl := gapZ_len (zOf gap p.length)
      have hwl := Lx.wr_len t ht
      have hsn := Lx.txt_snoc (gapOf gap) p 0 t
      have hasn := Lx.again_snoc (gapOf gap) p 0 0 t
      rw [Nat.zero_add] at hsn hasn
      have hpos : posL (Lx.again (gapOf gap) 0 0 (p ++ [t])) = posL (Lx.again (gapOf gap) 0 0 p) ++ [((ba (Lx.txt (gapOf gap) 0 p) ++ ba (gapOf gap p.length)).size : Int)] := by
        rw [hasn]; unfold posL; rw [List.map_append, ba_append, ba_size, Nat.zero_add]; rfl
      have hpl2 : (posL (Lx.again (gapOf gap) 0 0 p)).length = p.length := by unfold posL; rw [List.length_map, Lx.again_len]
      have hgl' : (gapOf gap p.length).length ≤ 4 := hgl
      have htx : (if t.kind = 3 then (ba (Lx.txt (gapOf gap) 0 p) ++ ba (gapOf gap p.length)) ++ ba (Lx.wr t) else ((ba (Lx.txt (gapOf gap) 0 p) ++ ba (gapOf gap p.length)) ++ ba (Lx.wr t)) ++ (⟨#[32]⟩ : ByteArray)) = ba (Lx.txt (gapOf gap) 0 (p ++ [t])) := by
        rw [hsn]; unfold Lx.sep
        split
        · rw [ba_append, ba_append, List.append_nil]
        · rw [ba_append, ba_append, show (⟨#[32]⟩ : ByteArray) = ba [32] from rfl, ba_append, List.append_assoc]
      refine Ev.step (f := fun k => (tattlelaw13_written.f k (tk t).f0 (tk t).f1 (tk t).f2 (tk t).f3).bind fun y => (if (ba (Lx.txt (gapOf gap) 0 p) ++ ba (gapOf gap p.length)).size + y.size ≤ 9223372036854775807 then (if (tk t).f0 = 3 then tattlelaw13_LexBack.l0 k gap (a.map tk) ((ba (Lx.txt (gapOf gap) 0 p) ++ ba (gapOf gap p.length)) ++ y) (posL (Lx.again (gapOf gap) 0 0 (p ++ [t]))) (((p ++ [t]).length : Nat) : Int) else (if ((ba (Lx.txt (gapOf gap) 0 p) ++ ba (gapOf gap p.length)) ++ y).size + 1 ≤ 9223372036854775807 then tattlelaw13_LexBack.l0 k gap (a.map tk) (((ba (Lx.txt (gapOf gap) 0 p) ++ ba (gapOf gap p.length)) ++ y) ++ (⟨#[32]⟩ : ByteArray)) (posL (Lx.again (gapOf gap) 0 0 (p ++ [t]))) (((p ++ [t]).length : Nat) : Int) else none)) else none)) (fun k => ?_) ?_
      · simp only [tattlelaw13_LexBack.l0]
        rw [if_pos (by rw [List.length_map]; omega), Option.bind_some, if_pos (u64_nonneg _), if_pos hz.1, if_pos (by simp only [List.length_cons, List.length_nil]; omega)]
        rw [show ([(⟨#[32]⟩ : ByteArray), (⟨#[10]⟩ : ByteArray), (⟨#[44, 44, 32]⟩ : ByteArray), (⟨#[35, 120, 34, 10]⟩ : ByteArray)] : List ByteArray) = gapR from rfl, hg]
        rw [if_pos (by rw [ba_size, ba_size]; omega), if_pos (by omega), Option.bind_some, if_pos (by omega), e1, hpos, w64 (by omega) (by omega), List.length_append]
        rfl
      · refine Ev.bind (f := fun k y => (if (ba (Lx.txt (gapOf gap) 0 p) ++ ba (gapOf gap p.length)).size + y.size ≤ 9223372036854775807 then (if (tk t).f0 = 3 then tattlelaw13_LexBack.l0 k gap (a.map tk) ((ba (Lx.txt (gapOf gap) 0 p) ++ ba (gapOf gap p.length)) ++ y) (posL (Lx.again (gapOf gap) 0 0 (p ++ [t]))) (((p ++ [t]).length : Nat) : Int) else (if ((ba (Lx.txt (gapOf gap) 0 p) ++ ba (gapOf gap p.length)) ++ y).size + 1 ≤ 9223372036854775807 then tattlelaw13_LexBack.l0 k gap (a.map tk) (((ba (Lx.txt (gapOf gap) 0 p) ++ ba (gapOf gap p.length)) ++ y) ++ (⟨#[32]⟩ : ByteArray)) (posL (Lx.again (gapOf gap) 0 0 (p ++ [t]))) (((p ++ [t]).length : Nat) : Int) else none)) else none)) (written_ev t _ ht) ?_
        have s1 : (ba (Lx.txt (gapOf gap) 0 p) ++ ba (gapOf gap p.length)).size + (ba (Lx.wr t)).size ≤ 9223372036854775806 := by rw [ByteArray.size_append, ba_size, ba_size, ba_size]; omega
        rw [← htx] at ih'
        refine Ev.congr (fun k => if_pos (by omega)) ?_
        have hk : (tk t).f0 = t.kind := rfl
        rw [hk]
        split
        · rename_i h3; rw [if_pos h3] at ih'; exact ih'
        · rename_i h3; rw [if_neg h3] at ih'
          exact Ev.congr (fun k => if_pos (by rw [ByteArray.size_append]; omega)) ih'
theorem back_pure : tattlelaw13_LexBack.Pure := by
  intro s gap hz hw
  have key : Ev (fun k => tattlelaw13_LexBack.f k s gap) true := by
    unfold tattlelaw13_LexBack.f
    refine Ev.bind (f := fun k t189 => (if t189 = true then ((lex_Tokens.f s).bind fun bt190 => ((tattlelaw0_Num.f bt190.2).bind fun t194 => (if t194 = 0 then (tattlelaw13_LexBack.l0 k gap bt190.1 (⟨#[]⟩ : ByteArray) ([] : List Int) 0) else (some ((bt190.1.length : Int) == 0))))) else (some false))) awake_ev ?_
    refine Ev.congr (fun k => if_pos rfl) ?_
    cases hA : Lx.tokens (bs s) with
    | error x =>
      have hx := tokens_errs hA
      have hx2 : ¬ x = 0 := by simpa using hx
      rw [f_err hA]
      refine Ev.congr (f := fun _ => some true) (fun k => ?_) (Ev.now _)
      simp only [Option.bind_some, num_f]
      rw [if_neg hx2]; rfl
    | ok a =>
      have hok := Lx.tokens_ok hA
      rw [f_ok hA]
      refine Ev.congr (f := fun k => tattlelaw13_LexBack.l0 k gap (a.map tk) (ba (Lx.txt (gapOf gap) 0 [])) (posL (Lx.again (gapOf gap) 0 0 [])) (([] : List Lx.Tok).length : Int)) (fun k => ?_) ?_
      · simp only [Option.bind_some, num_f]
        rw [if_pos trivial]; rfl
      · exact round_ev a gap (by omega) (Lx.L_valid _ _ _ _ rfl hok.2.2) a.length [] a rfl rfl
  exact key.rounds
theorem back_walk (a0 : ByteArray) (a1 : Int) (w : World) (w0 : a0.size ≤ 140737488351232) (w1 : (Lit.int .i64 a1).wf = true) :
    Calls Tryd.prog 4 #[.string a0, .int .i64 a1] w fun e w' => e = .returned (.bool true) ∧ Below w.heap.size w w' := tattlelaw13_LexBack.walk back_pure a0 a1 w w0 w1
end Go.Proofs.YtapbpmpeikobcaaDoor.Q
