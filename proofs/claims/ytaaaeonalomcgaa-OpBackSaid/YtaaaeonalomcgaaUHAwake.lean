/- What awake answers: true. No condition. -/
import Derived.Test.YtaaaeonalomcgaaUHOne
import Derived.Test.YtaaaeonalomcgaaUQ7
set_option linter.unusedVariables false
set_option linter.unusedSimpArgs false
namespace Go.Proofs.Ytaaaeonalomcgaa.Q
open Go.RowKit Go.Proofs.YtaaaeonalomcgaaW.PrintWords Go.Proofs.YtaaaeonalomcgaaW.PrintLast Go.Proofs.YtaaaeonalomcgaaW.PrintMore Sp
def Lists (w : World) (A : Option Addr) (n c : Nat) (deps : List Int) (B : Option Addr) (m e : Nat) (ds : List S23) : Prop :=
  (n = deps.length ∧ m = ds.length) ∧ (Kd.C (Kd.int .i64) w A deps.length deps ∧ deps.length ≤ c) ∧ (Kd.C k23 w B ds.length ds ∧ ds.length ≤ e)
theorem Lists.below {w w1 : World} {A : Option Addr} {n c : Nat} {deps : List Int} {B : Option Addr} {m e : Nat} {ds : List S23} (h : Lists w A n c deps B m e ds) (hb : Below w.heap.size w w1) : Lists w1 A n c deps B m e ds :=
  ⟨h.1, ⟨Kd.C_below h.2.1.1 hb, h.2.1.2⟩, ⟨Kd.C_below h.2.2.1 hb, h.2.2.2⟩⟩
theorem lists_of {w : World} {base : Nat} {v3 v13 : Value} {deps : List Int} {ds : List S23} (h3 : Kd.R (Kd.int .i64) 3 w base (fun _ => True) v3 deps) (h13 : Kd.R k23 23 w base (fun _ => True) v13 ds) :
    ∃ A c B e, v3 = .slice A deps.length c ∧ v13 = .slice B ds.length e ∧ Lists w A deps.length c deps B ds.length e ds := by
  obtain ⟨A, c, h, hl, hC⟩ := Kd.R_reads h3
  obtain ⟨B, e, h', hl', hC'⟩ := Kd.R_reads h13
  exact ⟨A, c, B, e, h, h', ⟨rfl, rfl⟩, ⟨hC, hl⟩, ⟨hC', hl'⟩⟩
theorem one1_any (w : World) : Calls Try.prog 13 #[.int .i64 1] w fun e w' => ∃ (A : Option Addr) (c : Nat) (B : Option Addr) (d : Nat), e = .returned (.agg #[.int .i64 1, .int .i64 3, .int .i64 9, .slice A 2 c, .int .i64 1, .string ⟨#[84]⟩, .string ⟨#[105]⟩, .string ⟨#[102]⟩, .string ⟨#[]⟩, .int .i64 (-2), .int .i64 3, .int .i64 0, .int .i64 0, .slice B 0 d]) ∧ Lists w' A 2 c [4, 2] B 0 d [] ∧ Below w.heap.size w w' :=
  (one_any 1 w).mono fun e w' ⟨v3, v13, he, h3, h13, hb⟩ => by
    obtain ⟨A, c, B, d, rfl, rfl, hL⟩ := lists_of h3 h13
    exact ⟨A, c, B, d, he, hL, hb⟩
theorem one3_any (w : World) : Calls Try.prog 13 #[.int .i64 3] w fun e w' => ∃ (A : Option Addr) (c : Nat) (B : Option Addr) (d : Nat), e = .returned (.agg #[.int .i64 1, .int .i64 3, .int .i64 9, .slice A 2 c, .int .i64 3, .string ⟨#[84]⟩, .string ⟨#[105]⟩, .string ⟨#[102]⟩, .string ⟨#[]⟩, .int .i64 0, .int .i64 0, .int .i64 0, .int .i64 0, .slice B 2 d]) ∧ Lists w' A 2 c [4, 2] B 2 d [⟨0, 4⟩, ⟨1, 2⟩] ∧ Below w.heap.size w w' :=
  (one_any 3 w).mono fun e w' ⟨v3, v13, he, h3, h13, hb⟩ => by
    obtain ⟨A, c, B, d, rfl, rfl, hL⟩ := lists_of h3 h13
    exact ⟨A, c, B, d, he, hL, hb⟩
theorem one0_any (w : World) : Calls Try.prog 13 #[.int .i64 0] w fun e w' => ∃ (g c : Nat) (B : Option Addr) (d : Nat), e = .returned (.agg #[.int .i64 1, .int .i64 3, .int .i64 9, .slice (some ⟨g, 0, none⟩) 2 c, .int .i64 0, .string ⟨#[84]⟩, .string ⟨#[105]⟩, .string ⟨#[102]⟩, .string ⟨#[118]⟩, .int .i64 0, .int .i64 0, .int .i64 0, .int .i64 0, .slice B 0 d]) ∧ w'.ownsRow w.heap.size 3 1 (.slice (some ⟨g, 0, none⟩) 2 c) 2 [.int .i64 4, .int .i64 2] ∧ (Kd.C k23 w' B 0 [] ∧ 0 ≤ d) ∧ Below w.heap.size w w' :=
  (one_any 0 w).mono fun e w' ⟨v3, v13, he, h3, h13, hb⟩ => by
    obtain ⟨B, d, h', hl', hC'⟩ := Kd.R_reads h13
    subst h'
    have ho := Kd.own_of_R h3
    rcases ho.2 with ⟨rfl, h0⟩ | ⟨g, cap, cur, rfl, _⟩
    · cases h0
    · exact ⟨g, cap, B, d, he, ho, ⟨hC', hl'⟩, hb⟩
theorem put1_any {w : World} {A B : Option Addr} {c d : Nat} (h : Lists w A 2 c [4, 2] B 0 d []) :
    Calls Try.prog 8 #[.agg #[.int .i64 1, .int .i64 3, .int .i64 9, .slice A 2 c, .int .i64 1, .string ⟨#[84]⟩, .string ⟨#[105]⟩, .string ⟨#[102]⟩, .string ⟨#[]⟩, .int .i64 (-2), .int .i64 3, .int .i64 0, .int .i64 0, .slice B 0 d], .int .i64 2] w fun e w' => e = .returned (.tuple #[.string ⟨#[1, 3, 9, 4, 2, 1, 1, 84, 1, 105, 1, 102, 3, 6]⟩, .int .i64 0]) ∧ Below w.heap.size w w' := by
  have := put_yes 1 3 9 A c [4, 2] 1 ⟨#[84]⟩ ⟨#[105]⟩ ⟨#[102]⟩ ⟨#[]⟩ (-2) 3 0 0 B d [] 2 w h.2.1.1 h.2.1.2 h.2.2.1 h.2.2.2 may1
  have e : putP 1 3 9 [4, 2] 1 ⟨#[84]⟩ ⟨#[105]⟩ ⟨#[102]⟩ ⟨#[]⟩ (-2) 3 0 0 [] = [1, 3, 9, 4, 2, 1, 1, 84, 1, 105, 1, 102, 3, 6] := put1
  rw [e] at this
  exact this
theorem putBad_any {w : World} {A B : Option Addr} {c d : Nat} (h : Lists w A 2 c [4, 3] B 0 d []) :
    Calls Try.prog 8 #[.agg #[.int .i64 1, .int .i64 3, .int .i64 9, .slice A 2 c, .int .i64 0, .string ⟨#[84]⟩, .string ⟨#[105]⟩, .string ⟨#[102]⟩, .string ⟨#[118]⟩, .int .i64 0, .int .i64 0, .int .i64 0, .int .i64 0, .slice B 0 d], .int .i64 2] w fun e w' => e = .returned (.tuple #[.string ⟨#[]⟩, .int .i64 1100]) ∧ Below w.heap.size w w' :=
  put_no 1 3 9 A c [4, 3] 0 ⟨#[84]⟩ ⟨#[105]⟩ ⟨#[102]⟩ ⟨#[118]⟩ 0 0 0 0 B d [] 2 w h.2.1.1 h.2.1.2 h.2.2.1 h.2.2.2 mayBad
theorem mayBad_any {w : World} {A B : Option Addr} {c d : Nat} (h : Lists w A 2 c [4, 3] B 0 d []) :
    Calls Try.prog 10 #[.agg #[.int .i64 1, .int .i64 3, .int .i64 9, .slice A 2 c, .int .i64 0, .string ⟨#[84]⟩, .string ⟨#[105]⟩, .string ⟨#[102]⟩, .string ⟨#[118]⟩, .int .i64 0, .int .i64 0, .int .i64 0, .int .i64 0, .slice B 0 d], .int .i64 2] w fun e w' => e = .returned (.bool false) ∧ Below w.heap.size w w' := by
  have := may_any 1 3 9 A c [4, 3] 0 ⟨#[84]⟩ ⟨#[105]⟩ ⟨#[102]⟩ ⟨#[118]⟩ 0 0 0 0 B d [] 2 w h.2.1.1 h.2.1.2 h.2.2.1 h.2.2.2
  rw [show mayB 1 3 9 [4, 3] 0 ⟨#[84]⟩ ⟨#[105]⟩ ⟨#[102]⟩ ⟨#[118]⟩ 0 0 0 0 [] 2 = false from mayBad] at this
  exact this
theorem may3_any {w : World} {A B : Option Addr} {c d : Nat} (h : Lists w A 2 c [4, 2] B 2 d [⟨0, 4⟩, ⟨1, 2⟩]) :
    Calls Try.prog 10 #[.agg #[.int .i64 1, .int .i64 3, .int .i64 9, .slice A 2 c, .int .i64 3, .string ⟨#[84]⟩, .string ⟨#[105]⟩, .string ⟨#[102]⟩, .string ⟨#[]⟩, .int .i64 0, .int .i64 0, .int .i64 0, .int .i64 0, .slice B 2 d], .int .i64 2] w fun e w' => e = .returned (.bool true) ∧ Below w.heap.size w w' := by
  have := may_any 1 3 9 A c [4, 2] 3 ⟨#[84]⟩ ⟨#[105]⟩ ⟨#[102]⟩ ⟨#[]⟩ 0 0 0 0 B d [⟨0, 4⟩, ⟨1, 2⟩] 2 w h.2.1.1 h.2.1.2 h.2.2.1 h.2.2.2
  rw [show mayB 1 3 9 [4, 2] 3 ⟨#[84]⟩ ⟨#[105]⟩ ⟨#[102]⟩ ⟨#[]⟩ 0 0 0 0 [⟨0, 4⟩, ⟨1, 2⟩] 2 = true from may3] at this
  exact this
theorem same1_any {w : World} {A B C D : Option Addr} {c d c' d' : Nat} (h : Lists w A 2 c [4, 2] B 0 d []) (h' : Lists w C 2 c' [4, 2] D 0 d' []) :
    Calls Try.prog 12 #[.agg #[.int .i64 1, .int .i64 3, .int .i64 9, .slice A 2 c, .int .i64 1, .string ⟨#[84]⟩, .string ⟨#[105]⟩, .string ⟨#[102]⟩, .string ⟨#[]⟩, .int .i64 (-2), .int .i64 3, .int .i64 0, .int .i64 0, .slice B 0 d], .agg #[.int .i64 1, .int .i64 3, .int .i64 9, .slice C 2 c', .int .i64 1, .string ⟨#[84]⟩, .string ⟨#[105]⟩, .string ⟨#[102]⟩, .string ⟨#[]⟩, .int .i64 (-2), .int .i64 3, .int .i64 0, .int .i64 0, .slice D 0 d']] w fun e w' => e = .returned (.bool true) ∧ Below w.heap.size w w' :=
  same_any 1 3 9 [4, 2] 1 ⟨#[84]⟩ ⟨#[105]⟩ ⟨#[102]⟩ ⟨#[]⟩ (-2) 3 0 0 [] A B C D c d c' d' w h.2.1.1 h.2.1.2 h.2.2.1 h.2.2.2 h'.2.1.1 h'.2.1.2 h'.2.2.1 h'.2.2.2
theorem kind1_any {w : World} {A B : Option Addr} {c d : Nat} (h : Lists w A 2 c [4, 2] B 0 d []) :
    Calls Try.prog 14 #[.agg #[.int .i64 1, .int .i64 3, .int .i64 9, .slice A 2 c, .int .i64 1, .string ⟨#[84]⟩, .string ⟨#[105]⟩, .string ⟨#[102]⟩, .string ⟨#[]⟩, .int .i64 (-2), .int .i64 3, .int .i64 0, .int .i64 0, .slice B 0 d]] w fun e w' => e = .returned (.int .i64 1) ∧ Below w.heap.size w w' :=
  kind_any 1 3 9 [4, 2] 1 ⟨#[84]⟩ ⟨#[105]⟩ ⟨#[102]⟩ ⟨#[]⟩ (-2) 3 0 0 [] A B c d w h.2.1.1 h.2.1.2 h.2.2.1 h.2.2.2
theorem get_put1 : getOp ⟨#[1, 3, 9, 4, 2, 1, 1, 84, 1, 105, 1, 102, 3, 6]⟩ 2 = (oneV 1, 0) := by
  have hr := raw_put (o := oneV 1) (n := 2) may1 []
  rw [put1, List.append_nil] at hr
  unfold getOp
  rw [if_pos (by decide), show (2 : Int).toNat = 2 from rfl, show bs ⟨#[1, 3, 9, 4, 2, 1, 1, 84, 1, 105, 1, 102, 3, 6]⟩ = [1, 3, 9, 4, 2, 1, 1, 84, 1, 105, 1, 102, 3, 6] from rfl, hr, if_pos ⟨rfl, may1⟩]
theorem get_put1x : getOp ⟨#[1, 3, 9, 4, 2, 1, 1, 84, 1, 105, 1, 102, 3, 6, 120]⟩ 2 = ({}, 1100) := by
  have hr := raw_put (o := oneV 1) (n := 2) may1 [120]
  rw [put1] at hr
  unfold getOp
  rw [if_pos (by decide), show (2 : Int).toNat = 2 from rfl, show bs ⟨#[1, 3, 9, 4, 2, 1, 1, 84, 1, 105, 1, 102, 3, 6, 120]⟩ = [1, 3, 9, 4, 2, 1, 1, 84, 1, 105, 1, 102, 3, 6] ++ [120] from rfl, hr, if_neg (by simp)]
theorem get1_any (w : World) : Calls Try.prog 11 #[.string ⟨#[1, 3, 9, 4, 2, 1, 1, 84, 1, 105, 1, 102, 3, 6]⟩, .int .i64 2] w fun e w' => ∃ (A : Option Addr) (c : Nat) (B : Option Addr) (d : Nat), e = .returned (.tuple #[.agg #[.int .i64 1, .int .i64 3, .int .i64 9, .slice A 2 c, .int .i64 1, .string ⟨#[84]⟩, .string ⟨#[105]⟩, .string ⟨#[102]⟩, .string ⟨#[]⟩, .int .i64 (-2), .int .i64 3, .int .i64 0, .int .i64 0, .slice B 0 d], .int .i64 0]) ∧ Lists w' A 2 c [4, 2] B 0 d [] ∧ Below w.heap.size w w' := by
  have h := get_any ⟨#[1, 3, 9, 4, 2, 1, 1, 84, 1, 105, 1, 102, 3, 6]⟩ 2 w (by decide)
  rw [get_put1] at h
  refine h.mono fun e w' ⟨v3, v13, he, h3, h13, hb⟩ => ?_
  obtain ⟨A, c, B, d, rfl, rfl, hL⟩ := lists_of (deps := [4, 2]) (ds := []) (R_ints h3) (R_dots h13)
  exact ⟨A, c, B, d, he, hL, hb⟩
theorem get1x_any (w : World) : Calls Try.prog 11 #[.string (⟨#[1, 3, 9, 4, 2, 1, 1, 84, 1, 105, 1, 102, 3, 6]⟩ ++ ⟨#[120]⟩), .int .i64 2] w fun e w' => ∃ (A : Option Addr) (c : Nat) (B : Option Addr) (d : Nat), e = .returned (.tuple #[.agg #[.int .i64 0, .int .i64 0, .int .i64 0, .slice A 0 c, .int .i64 0, .string ⟨#[]⟩, .string ⟨#[]⟩, .string ⟨#[]⟩, .string ⟨#[]⟩, .int .i64 0, .int .i64 0, .int .i64 0, .int .i64 0, .slice B 0 d], .int .i64 1100]) ∧ Below w.heap.size w w' := by
  have h := get_any ⟨#[1, 3, 9, 4, 2, 1, 1, 84, 1, 105, 1, 102, 3, 6, 120]⟩ 2 w (by decide)
  rw [get_put1x] at h
  rw [show (⟨#[1, 3, 9, 4, 2, 1, 1, 84, 1, 105, 1, 102, 3, 6]⟩ : ByteArray) ++ ⟨#[120]⟩ = ⟨#[1, 3, 9, 4, 2, 1, 1, 84, 1, 105, 1, 102, 3, 6, 120]⟩ from by decide +kernel]
  refine h.mono fun e w' ⟨v3, v13, he, h3, h13, hb⟩ => ?_
  obtain ⟨A, c, B, d, rfl, rfl, hL⟩ := lists_of (deps := []) (ds := []) (R_ints h3) (R_dots h13)
  exact ⟨A, c, B, d, he, hb⟩
theorem own_cell {w : World} {base g c : Nat} (h : w.ownsRow base 3 1 (.slice (some ⟨g, 0, none⟩) 2 c) 2 [.int .i64 4, .int .i64 2]) : w.cell? ⟨g, 1, none⟩ = some (.int .i64 2) ∧ w.frozen? ⟨g, 1, none⟩ = false :=
  Kd.R_cell (h1 := fun _ => rfl) (enc := Value.int .i64) (0 : Int) (Kd.R_of_own (xs := [4, 2]) (ok := fun _ => True) h (fun _ _ => trivial)) 1 (by decide) (by decide)
theorem own_lists {w : World} {base g c : Nat} {B : Option Addr} {d : Nat} (h : w.ownsRow base 3 1 (.slice (some ⟨g, 0, none⟩) 2 c) 2 [.int .i64 4, .int .i64 2]) : Lists (w.setCell ⟨g, 1, none⟩ (.int .i64 3)) (some ⟨g, 0, none⟩) 2 c [4, 3] B 0 d [] := by
  have h2 := Kd.R_put (h1 := fun _ => rfl) (enc := Value.int .i64) (Kd.R_of_own (xs := [4, 2]) (ok := fun _ => True) h (fun _ _ => trivial)) 1 3
  obtain ⟨A, c', he, hl, hC⟩ := Kd.R_reads h2.1
  cases he
  exact ⟨⟨rfl, rfl⟩, ⟨hC, hl⟩, ⟨rfl, by simp, fun h => absurd h (Nat.lt_irrefl 0)⟩, Nat.zero_le _⟩
theorem new_row (w : World) (cs : Array Value) : ((w.alloc (.cells #[.int .i64 0, .int .i64 0, .int .i64 0, .slice none 0 0, .int .i64 0, .string ⟨#[]⟩, .string ⟨#[]⟩, .string ⟨#[]⟩, .string ⟨#[]⟩, .int .i64 0, .int .i64 0, .int .i64 0, .int .i64 0, .slice none 0 0] 29)).setRow w.heap.size cs).heap[w.heap.size]? = some (.cells cs 29 (0, 0)) ∧ Below w.heap.size w ((w.alloc (.cells #[.int .i64 0, .int .i64 0, .int .i64 0, .slice none 0 0, .int .i64 0, .string ⟨#[]⟩, .string ⟨#[]⟩, .string ⟨#[]⟩, .string ⟨#[]⟩, .int .i64 0, .int .i64 0, .int .i64 0, .int .i64 0, .slice none 0 0] 29)).setRow w.heap.size cs) :=
  ⟨row_blk (heap_alloc_new w _) cs, (((Chg.refl (fun _ => False) w).alloc _).row _ _ (.inr (Nat.le_refl _))).to_below (fun _ h => h.elim)⟩
theorem num_b (x : Int) (w : World) : Calls Try.prog 9 #[.int .i64 x] w fun e w' => e = .returned (.int .i64 x) ∧ Below w.heap.size w w' := (tattlelaw0_Num.calls x _ w rfl).mono fun _ _ ⟨h, k⟩ => ⟨h, k.below⟩
theorem load_arm {P : Program} {ops : Array Oper} {oi : Oper} {N : Option Tmp} {a : Act} {w : World} {K : Act → World → Prop} {Q : Exit → Act → World → Prop} {ty : TypeId} {x : Operand} {g t : Nat} {cs : Array Value} {d : TypeDesc} (hw : Region.wanted oi (yielded ops a.tmps) = true) (hN : oi.dst = N)
    (ho : oi.op = .load ty x) (hx : a.eval x = .pointer (some ⟨g, 0, none⟩)) (hg : w.heap[g]? = some (.cells cs t (0, 0))) (hu : P.underlying ty = some d) (hd : (match d with | .struct _ | .array _ _ => true | _ => false) = true) (hi : (P.info? ty).map (·.size) = some cs.size)
    (h : K (a.put N (.agg cs)) w) : if Region.wanted oi (yielded ops a.tmps) = true then Oper.wp P oi a w K Q else K (a.put N undef) w := by
  rw [if_pos hw]; subst hN; exact wp_load_row ty x ho g hx t cs (0, 0) d hg hu hd hi h
set_option maxHeartbeats 8000000 in
set_option maxRecDepth 100000 in
theorem awake_any (w : World) : Calls Try.prog 7 #[] w fun e w' => e = .returned (.bool true) ∧ Below w.heap.size w w' := by
  go_enter Try.func7, Try.ntmps7
  go_wp2_with fail
  refine (one1_any _).mono ?_
  rintro e w1 ⟨A1, c1, B1, d1, rfl, hL1, hb1⟩
  have L1 := Aside0.mk hL1; have BB1 := Aside0.mk hb1; clear hL1 hb1
  go_wp2_with fail
  refine (put1_any L1.out).mono ?_
  rintro e w2 ⟨rfl, hb2⟩
  have BB2 := Aside0.mk (below_step BB1.out hb2); clear hb2
  go_wp2_with fail
  refine (get1_any _).mono ?_
  rintro e w3 ⟨A3, c3, B3, d3, rfl, hL3, hb3⟩
  have L3 := Aside0.mk hL3; have BB3 := Aside0.mk (below_step BB2.out hb3); clear hL3 hb3
  go_wp2_with (refine wpList_store_row rfl 29 _ _ rfl w3.heap.size _ rfl rfl 29 _ (heap_alloc_new w3 _) (by kernel_rfl) (by rfl) (by simp [Value.oneCell']) ?_)
  obtain ⟨o1, ho1⟩ : ∃ o, o = w3.heap.size := ⟨_, rfl⟩
  have hN4 := fun cs => new_row w3 cs
  rw [← ho1] at hN4 ⊢
  generalize hW4 : (w3.alloc (Obj.cells #[.int .i64 0, .int .i64 0, .int .i64 0, .slice none 0 0, .int .i64 0, .string ⟨#[]⟩, .string ⟨#[]⟩, .string ⟨#[]⟩, .string ⟨#[]⟩, .int .i64 0, .int .i64 0, .int .i64 0, .int .i64 0, .slice none 0 0] 29)).setRow o1 #[.int .i64 1, .int .i64 3, .int .i64 9, .slice A3 2 c3, .int .i64 1, .string ⟨#[84]⟩, .string ⟨#[105]⟩, .string ⟨#[102]⟩, .string ⟨#[]⟩, .int .i64 (-2), .int .i64 3, .int .i64 0, .int .i64 0, .slice B3 0 d3] = w4
  have h4 := hN4 #[.int .i64 1, .int .i64 3, .int .i64 9, .slice A3 2 c3, .int .i64 1, .string ⟨#[84]⟩, .string ⟨#[105]⟩, .string ⟨#[102]⟩, .string ⟨#[]⟩, .int .i64 (-2), .int .i64 3, .int .i64 0, .int .i64 0, .slice B3 0 d3]
  rw [hW4] at h4
  have h42 : Below w3.heap.size w3 w4 := by have := h4.2; rwa [ho1] at this
  have O4 := Aside0.mk h4.1; have L4 := Aside0.mk (L3.out.below h42); have BB4 := Aside0.mk (below_step BB3.out h42)
  clear hN4 hW4 h4 h42 L1 ho1
  refine (get1x_any _).mono ?_
  rintro e w5 ⟨A5, c5, B5, d5, rfl, hb5⟩
  have O5 := Aside0.mk (blk_below O4.out hb5); have L5 := Aside0.mk (L4.out.below hb5); have BB5 := Aside0.mk (below_step BB4.out hb5); clear hb5
  go_wp2_with (refine wpList_store_row rfl 29 _ _ rfl w5.heap.size _ rfl rfl 29 _ (heap_alloc_new w5 _) (by kernel_rfl) (by rfl) (by simp [Value.oneCell']) ?_)
  obtain ⟨o2, ho2⟩ : ∃ o, o = w5.heap.size := ⟨_, rfl⟩
  have hN6 := fun cs => new_row w5 cs
  rw [← ho2] at hN6 ⊢
  generalize hW6 : (w5.alloc (Obj.cells #[.int .i64 0, .int .i64 0, .int .i64 0, .slice none 0 0, .int .i64 0, .string ⟨#[]⟩, .string ⟨#[]⟩, .string ⟨#[]⟩, .string ⟨#[]⟩, .int .i64 0, .int .i64 0, .int .i64 0, .int .i64 0, .slice none 0 0] 29)).setRow o2 #[.int .i64 0, .int .i64 0, .int .i64 0, .slice A5 0 c5, .int .i64 0, .string ⟨#[]⟩, .string ⟨#[]⟩, .string ⟨#[]⟩, .string ⟨#[]⟩, .int .i64 0, .int .i64 0, .int .i64 0, .int .i64 0, .slice B5 0 d5] = w6
  have h6 := hN6 #[.int .i64 0, .int .i64 0, .int .i64 0, .slice A5 0 c5, .int .i64 0, .string ⟨#[]⟩, .string ⟨#[]⟩, .string ⟨#[]⟩, .string ⟨#[]⟩, .int .i64 0, .int .i64 0, .int .i64 0, .int .i64 0, .slice B5 0 d5]
  rw [hW6] at h6
  have h62 : Below w5.heap.size w5 w6 := by have := h6.2; rwa [ho2] at this
  have O6 := Aside0.mk (blk_below O5.out h62); have L6 := Aside0.mk (L5.out.below h62); have BB6 := Aside0.mk (below_step BB5.out h62)
  clear hN6 hW6 h6 h62 O4 L4 O5 L5 ho2
  refine (one0_any _).mono ?_
  rintro e w7 ⟨g, c7, B7, d7, rfl, hown, hC13, hb7⟩
  have O7 := Aside0.mk (blk_below O6.out hb7); have L7 := Aside0.mk (L6.out.below hb7); have BB7 := Aside0.mk (below_step BB6.out hb7); have HOWN := Aside0.mk hown; have H13 := Aside0.mk hC13; have B67 := Aside0.mk hb7; clear hb7 hown hC13
  have hcell := own_cell HOWN.out
  go_wp2_with (first | (refine wpList_store_row rfl 29 _ _ rfl w7.heap.size _ rfl rfl 29 _ (heap_alloc_new w7 _) (by kernel_rfl) (by rfl) (by simp [Value.oneCell']) ?_; obtain ⟨o3, ho3⟩ : ∃ o, o = w7.heap.size := ⟨_, rfl⟩; have hN8 := fun cs => new_row w7 cs; rw [← ho3] at hN8 ⊢; generalize hW8 : (w7.alloc (Obj.cells #[.int .i64 0, .int .i64 0, .int .i64 0, .slice none 0 0, .int .i64 0, .string ⟨#[]⟩, .string ⟨#[]⟩, .string ⟨#[]⟩, .string ⟨#[]⟩, .int .i64 0, .int .i64 0, .int .i64 0, .int .i64 0, .slice none 0 0] 29)).setRow o3 #[.int .i64 1, .int .i64 3, .int .i64 9, .slice (some ⟨g, 0, none⟩) 2 c7, .int .i64 0, .string ⟨#[84]⟩, .string ⟨#[105]⟩, .string ⟨#[102]⟩, .string ⟨#[118]⟩, .int .i64 0, .int .i64 0, .int .i64 0, .int .i64 0, .slice B7 0 d7] = w8; have h8 := hN8 #[.int .i64 1, .int .i64 3, .int .i64 9, .slice (some ⟨g, 0, none⟩) 2 c7, .int .i64 0, .string ⟨#[84]⟩, .string ⟨#[105]⟩, .string ⟨#[102]⟩, .string ⟨#[118]⟩, .int .i64 0, .int .i64 0, .int .i64 0, .int .i64 0, .slice B7 0 d7]; rw [hW8] at h8; have h82 : Below w7.heap.size w7 w8 := (by have := h8.2; rwa [ho3] at this); have O8 := Aside0.mk (blk_below O7.out h82); have P8 := Aside0.mk h8.1; have L8 := Aside0.mk (L7.out.below h82); have BB8 := Aside0.mk (below_step BB7.out h82); have OWN8 := Aside0.mk (pw_own_below HOWN.out h82); have B68 := Aside0.mk (below_step B67.out h82); have hl3 := (blk_cell h8.1 3).trans rfl; have hce := (own_cell OWN8.out).1; have hfe := (own_cell OWN8.out).2; clear hN8 hW8 h8 h82 O7 L7 ho3) | (refine wpList_load_row rfl 29 _ rfl o3 rfl 29 _ (0, 0) _ (blk_far P8.out (p := ⟨g, 1, none⟩) (fun e => own_far OWN8.out P8.out (by decide) g rfl e.symm) _) Try.underlying29 rfl (by kernel_rfl) ?_) | (go_at_call 8; refine (putBad_any (own_lists OWN8.out)).mono ?_; rintro e w10 ⟨rfl, hb10⟩; have B10 := Aside0.mk (below_step (B68.out.setCell (p := ⟨g, 1, none⟩) (own_base OWN8.out g rfl) _) hb10); have P10 := Aside0.mk (blk_below (blk_far P8.out (p := ⟨g, 1, none⟩) (fun e => own_far OWN8.out P8.out (by decide) g rfl e.symm) _) hb10); have LB10 := Aside0.mk ((own_lists (B := B7) (d := d7) OWN8.out).below hb10); clear hb10) | fail "arm")
  have HO0 := Aside0.mk (blk_below O6.out B10.out); have HL0 := Aside0.mk (L6.out.below B10.out); have HP0 := Aside0.mk P10.out; have HLB0 := Aside0.mk LB10.out; have HB0 := Aside0.mk (below_step BB6.out B10.out)
  clear B10 P10 LB10 B68 B67 OWN8 O8 P8 L8 BB8 hl3 hce hfe H13 HOWN BB7 O6 L6 BB6 BB5 BB4 BB3 BB2 BB1 L3 hcell
  refine start_ (n := 42) (S := fun w' => w'.cell? ⟨o1, 0, none⟩ = some (.int .i64 1) ∧ w'.cell? ⟨o1, 1, none⟩ = some (.int .i64 3) ∧ w'.cell? ⟨o1, 2, none⟩ = some (.int .i64 9) ∧ w'.cell? ⟨o1, 3, none⟩ = some (.slice A3 2 c3) ∧ w'.cell? ⟨o1, 4, none⟩ = some (.int .i64 1) ∧ w'.cell? ⟨o1, 5, none⟩ = some (.string ⟨#[84]⟩) ∧ w'.cell? ⟨o1, 6, none⟩ = some (.string ⟨#[105]⟩) ∧ w'.cell? ⟨o1, 7, none⟩ = some (.string ⟨#[102]⟩) ∧ w'.cell? ⟨o1, 8, none⟩ = some (.string ⟨#[]⟩) ∧ w'.cell? ⟨o1, 9, none⟩ = some (.int .i64 (-2)) ∧ w'.cell? ⟨o1, 10, none⟩ = some (.int .i64 3) ∧ w'.cell? ⟨o1, 11, none⟩ = some (.int .i64 0) ∧ w'.cell? ⟨o1, 12, none⟩ = some (.int .i64 0) ∧ w'.cell? ⟨o1, 13, none⟩ = some (.slice B3 0 d3)) (ds := []) #[false, false, false, false, false, false, false, false, false, false, false, false, false, false, false, false, false, false, false, false, false, false, false, false, false, false, false, false, false, false, false, false, false, false, false, false, false, false, false, false, false, false] (by kernel_rfl) rfl rfl ⟨(blk_cell (blk_drew HO0.out) 0).trans rfl, (blk_cell (blk_drew HO0.out) 1).trans rfl, (blk_cell (blk_drew HO0.out) 2).trans rfl, (blk_cell (blk_drew HO0.out) 3).trans rfl, (blk_cell (blk_drew HO0.out) 4).trans rfl, (blk_cell (blk_drew HO0.out) 5).trans rfl, (blk_cell (blk_drew HO0.out) 6).trans rfl, (blk_cell (blk_drew HO0.out) 7).trans rfl, (blk_cell (blk_drew HO0.out) 8).trans rfl, (blk_cell (blk_drew HO0.out) 9).trans rfl, (blk_cell (blk_drew HO0.out) 10).trans rfl, (blk_cell (blk_drew HO0.out) 11).trans rfl, (blk_cell (blk_drew HO0.out) 12).trans rfl, (blk_cell (blk_drew HO0.out) 13).trans rfl⟩ (fun hHeld => ?_)
  refine pure_ (i := 0) (N := some 35) (v := ?_) (a' := ?_) #[true, false, false, false, false, false, false, false, false, false, false, false, false, false, false, false, false, false, false, false, false, false, false, false, false, false, false, false, false, false, false, false, false, false, false, false, false, false, false, false, false, false] rfl rfl (by kernel_rfl) (fun _ _ _ h => h) (Or.inl ⟨by rfl, ?_⟩) ?_ ?_
  rotate_left
  · intro w'
    go_simp
    with_reducible rfl
  rotate_left
  · simp only [Act.put, List.setIfInBounds_toArray, List.set_cons_zero, List.set_cons_succ, i64_w, i32_w]
    rfl
  refine pure_ (i := 1) (N := some 36) (v := ?_) (a' := ?_) #[true, true, false, false, false, false, false, false, false, false, false, false, false, false, false, false, false, false, false, false, false, false, false, false, false, false, false, false, false, false, false, false, false, false, false, false, false, false, false, false, false, false] rfl rfl (by kernel_rfl) (fun _ _ _ h => h) (Or.inl ⟨by rfl, ?_⟩) ?_ ?_
  rotate_left
  · intro w'
    go_simp
    with_reducible rfl
  rotate_left
  · simp only [Act.put, List.setIfInBounds_toArray, List.set_cons_zero, List.set_cons_succ, i64_w, i32_w]
    rfl
  refine pure_ (i := 2) (N := some 37) (v := ?_) (a' := ?_) #[true, true, true, false, false, false, false, false, false, false, false, false, false, false, false, false, false, false, false, false, false, false, false, false, false, false, false, false, false, false, false, false, false, false, false, false, false, false, false, false, false, false] rfl rfl (by kernel_rfl) (fun _ _ _ h => h) (Or.inl ⟨by rfl, ?_⟩) ?_ ?_
  rotate_left
  · intro w'
    go_simp
    with_reducible rfl
  rotate_left
  · simp only [Act.put, List.setIfInBounds_toArray, List.set_cons_zero, List.set_cons_succ, i64_w, i32_w]
    rfl
  refine pure_ (i := 3) (N := some 38) (v := ?_) (a' := ?_) #[true, true, true, true, false, false, false, false, false, false, false, false, false, false, false, false, false, false, false, false, false, false, false, false, false, false, false, false, false, false, false, false, false, false, false, false, false, false, false, false, false, false] rfl rfl (by kernel_rfl) (fun _ _ _ h => h) (Or.inl ⟨by rfl, ?_⟩) ?_ ?_
  rotate_left
  · intro w'
    go_simp
    with_reducible rfl
  rotate_left
  · simp only [Act.put, List.setIfInBounds_toArray, List.set_cons_zero, List.set_cons_succ, i64_w, i32_w]
    rfl
  refine one_ (i := 4) (N := some 39) #[true, true, true, true, true, false, false, false, false, false, false, false, false, false, false, false, false, false, false, false, false, false, false, false, false, false, false, false, false, false, false, false, false, false, false, false, false, false, false, false, false, false] rfl rfl (by kernel_rfl) (by decide) (fun K hK => ?_)
  refine goes_ Try.func9 (by kernel_rfl) rfl #[.int .i64 0] (by rfl) rfl rfl (by simp only [List.map_toArray, List.map_cons, List.map_nil]; rfl) ?_
  with_reducible refine (num_b 0 _).mono ?_
  rintro e u10 ⟨rfl, hb1⟩
  refine ⟨_, rfl, ?_⟩
  have HO1 := Aside0.mk (blk_below (by exact HO0.out) hb1)
  have HL1 := Aside0.mk (HL0.out.below (by first | exact hb1 | exact ((Below.refl _ _).drew).trans hb1))
  have HP1 := Aside0.mk (blk_below (by exact HP0.out) hb1)
  have HLB1 := Aside0.mk (HLB0.out.below (by first | exact hb1 | exact ((Below.refl _ _).drew).trans hb1))
  have HB1 := Aside0.mk (below_step (w := w) (by first | exact HB0.out | exact HB0.out.drew) hb1)
  clear hb1
  refine hK.out _ _ ⟨(blk_cell HO1.out 0).trans rfl, (blk_cell HO1.out 1).trans rfl, (blk_cell HO1.out 2).trans rfl, (blk_cell HO1.out 3).trans rfl, (blk_cell HO1.out 4).trans rfl, (blk_cell HO1.out 5).trans rfl, (blk_cell HO1.out 6).trans rfl, (blk_cell HO1.out 7).trans rfl, (blk_cell HO1.out 8).trans rfl, (blk_cell HO1.out 9).trans rfl, (blk_cell HO1.out 10).trans rfl, (blk_cell HO1.out 11).trans rfl, (blk_cell HO1.out 12).trans rfl, (blk_cell HO1.out 13).trans rfl⟩ (fun hHeld => ?_)
  clear hK K
  refine norm_ (a' := ?_) ?_ ?_
  rotate_left
  · show Act.put _ (some 39) _ = _
    simp only [Act.put, List.setIfInBounds_toArray, List.set_cons_zero, List.set_cons_succ, i64_w, i32_w]
    rfl
  refine pure_ (i := 5) (N := some 40) (v := ?_) (a' := ?_) #[true, true, true, true, true, true, false, false, false, false, false, false, false, false, false, false, false, false, false, false, false, false, false, false, false, false, false, false, false, false, false, false, false, false, false, false, false, false, false, false, false, false] rfl rfl (by kernel_rfl) (fun _ _ _ h => h) (Or.inl ⟨by rfl, ?_⟩) ?_ ?_
  rotate_left
  · intro w'
    go_simp
    with_reducible rfl
  rotate_left
  · simp only [Act.put, List.setIfInBounds_toArray, List.set_cons_zero, List.set_cons_succ, i64_w, i32_w]
    rfl
  refine pure_ (i := 6) (N := some 41) (v := ?_) (a' := ?_) #[true, true, true, true, true, true, true, false, false, false, false, false, false, false, false, false, false, false, false, false, false, false, false, false, false, false, false, false, false, false, false, false, false, false, false, false, false, false, false, false, false, false] rfl rfl (by kernel_rfl) (fun _ _ _ h => h) (Or.inl ⟨by rfl, ?_⟩) ?_ ?_
  rotate_left
  · intro w'
    go_simp
    with_reducible rfl
  rotate_left
  · simp only [Act.put, List.setIfInBounds_toArray, List.set_cons_zero, List.set_cons_succ, i64_w, i32_w]
    rfl
  refine pure_ (i := 7) (N := some 42) (v := ?_) (a' := ?_) #[true, true, true, true, true, true, true, true, false, false, false, false, false, false, false, false, false, false, false, false, false, false, false, false, false, false, false, false, false, false, false, false, false, false, false, false, false, false, false, false, false, false] rfl rfl (by kernel_rfl) (fun _ _ _ h => h) (Or.inl ⟨by rfl, ?_⟩) ?_ ?_
  rotate_left
  · intro w'
    go_simp
    with_reducible rfl
  rotate_left
  · simp only [Act.put, List.setIfInBounds_toArray, List.set_cons_zero, List.set_cons_succ, i64_w, i32_w]
    rfl
  refine take_ (i := 8) (N := some 43) (v := ?_) (a' := ?_) #[true, true, true, true, true, true, true, true, true, false, false, false, false, false, false, false, false, false, false, false, false, false, false, false, false, false, false, false, false, false, false, false, false, false, false, false, false, false, false, false, false, false] rfl rfl (by kernel_rfl) (fun _ _ _ h => h) (Or.inl ⟨by rfl, ?_⟩) hHeld ?_ ?_
  rotate_left
  · rintro w' ⟨s0, s1, s2, s3, s4, s5, s6, s7, s8, s9, s10, s11, s12, s13⟩
    go_simp
    with_reducible rfl
  rotate_left
  · simp only [Act.put, List.setIfInBounds_toArray, List.set_cons_zero, List.set_cons_succ, i64_w, i32_w]
    rfl
  refine one_ (i := 9) (N := some 44) #[true, true, true, true, true, true, true, true, true, true, false, false, false, false, false, false, false, false, false, false, false, false, false, false, false, false, false, false, false, false, false, false, false, false, false, false, false, false, false, false, false, false] rfl rfl (by kernel_rfl) (by decide) (fun K hK => ?_)
  refine goes_ Try.func13 (by kernel_rfl) rfl #[.int .i64 1] (by rfl) rfl rfl (by simp only [List.map_toArray, List.map_cons, List.map_nil]; rfl) ?_
  with_reducible refine (one1_any _).mono ?_
  rintro e u20 ⟨A20, c20, B20, d20, rfl, hLx2, hb2⟩
  refine ⟨_, rfl, ?_⟩
  have HO2 := Aside0.mk (blk_below (by exact HO1.out) hb2)
  have HL2 := Aside0.mk (HL1.out.below (by first | exact hb2 | exact ((Below.refl _ _).drew).trans hb2))
  have HP2 := Aside0.mk (blk_below (by exact HP1.out) hb2)
  have HLB2 := Aside0.mk (HLB1.out.below (by first | exact hb2 | exact ((Below.refl _ _).drew).trans hb2))
  have HB2 := Aside0.mk (below_step (w := w) (by first | exact HB1.out | exact HB1.out.drew) hb2)
  have HLX := Aside0.mk hLx2; clear hLx2
  clear hb2
  refine hK.out _ _ ⟨(blk_cell HO2.out 0).trans rfl, (blk_cell HO2.out 1).trans rfl, (blk_cell HO2.out 2).trans rfl, (blk_cell HO2.out 3).trans rfl, (blk_cell HO2.out 4).trans rfl, (blk_cell HO2.out 5).trans rfl, (blk_cell HO2.out 6).trans rfl, (blk_cell HO2.out 7).trans rfl, (blk_cell HO2.out 8).trans rfl, (blk_cell HO2.out 9).trans rfl, (blk_cell HO2.out 10).trans rfl, (blk_cell HO2.out 11).trans rfl, (blk_cell HO2.out 12).trans rfl, (blk_cell HO2.out 13).trans rfl⟩ (fun hHeld => ?_)
  clear hK K
  refine norm_ (a' := ?_) ?_ ?_
  rotate_left
  · show Act.put _ (some 44) _ = _
    simp only [Act.put, List.setIfInBounds_toArray, List.set_cons_zero, List.set_cons_succ, i64_w, i32_w]
    rfl
  refine one_ (i := 10) (N := some 45) #[true, true, true, true, true, true, true, true, true, true, true, false, false, false, false, false, false, false, false, false, false, false, false, false, false, false, false, false, false, false, false, false, false, false, false, false, false, false, false, false, false, false] rfl rfl (by kernel_rfl) (by decide) (fun K hK => ?_)
  refine goes_ Try.func12 (by kernel_rfl) rfl #[.agg #[.int .i64 1, .int .i64 3, .int .i64 9, .slice A3 2 c3, .int .i64 1, .string ⟨#[84]⟩, .string ⟨#[105]⟩, .string ⟨#[102]⟩, .string ⟨#[]⟩, .int .i64 (-2), .int .i64 3, .int .i64 0, .int .i64 0, .slice B3 0 d3], .agg #[.int .i64 1, .int .i64 3, .int .i64 9, .slice A20 2 c20, .int .i64 1, .string ⟨#[84]⟩, .string ⟨#[105]⟩, .string ⟨#[102]⟩, .string ⟨#[]⟩, .int .i64 (-2), .int .i64 3, .int .i64 0, .int .i64 0, .slice B20 0 d20]] (by rfl) rfl rfl (by simp only [List.map_toArray, List.map_cons, List.map_nil]; rfl) ?_
  with_reducible refine (same1_any HL2.out HLX.out).mono ?_
  rintro e u30 ⟨rfl, hb3⟩
  refine ⟨_, rfl, ?_⟩
  have HO3 := Aside0.mk (blk_below (by exact HO2.out) hb3)
  have HL3 := Aside0.mk (HL2.out.below (by first | exact hb3 | exact ((Below.refl _ _).drew).trans hb3))
  have HP3 := Aside0.mk (blk_below (by exact HP2.out) hb3)
  have HLB3 := Aside0.mk (HLB2.out.below (by first | exact hb3 | exact ((Below.refl _ _).drew).trans hb3))
  have HB3 := Aside0.mk (below_step (w := w) (by first | exact HB2.out | exact HB2.out.drew) hb3)
  clear hb3
  refine hK.out _ _ ⟨(blk_cell HO3.out 0).trans rfl, (blk_cell HO3.out 1).trans rfl, (blk_cell HO3.out 2).trans rfl, (blk_cell HO3.out 3).trans rfl, (blk_cell HO3.out 4).trans rfl, (blk_cell HO3.out 5).trans rfl, (blk_cell HO3.out 6).trans rfl, (blk_cell HO3.out 7).trans rfl, (blk_cell HO3.out 8).trans rfl, (blk_cell HO3.out 9).trans rfl, (blk_cell HO3.out 10).trans rfl, (blk_cell HO3.out 11).trans rfl, (blk_cell HO3.out 12).trans rfl, (blk_cell HO3.out 13).trans rfl⟩ (fun hHeld => ?_)
  clear hK K
  refine norm_ (a' := ?_) ?_ ?_
  rotate_left
  · show Act.put _ (some 45) _ = _
    simp only [Act.put, List.setIfInBounds_toArray, List.set_cons_zero, List.set_cons_succ, i64_w, i32_w]
    rfl
  refine pure_ (i := 11) (N := some 46) (v := ?_) (a' := ?_) #[true, true, true, true, true, true, true, true, true, true, true, true, false, false, false, false, false, false, false, false, false, false, false, false, false, false, false, false, false, false, false, false, false, false, false, false, false, false, false, false, false, false] rfl rfl (by kernel_rfl) (fun _ _ _ h => h) (Or.inl ⟨by rfl, ?_⟩) ?_ ?_
  rotate_left
  · intro w'
    go_simp
    with_reducible rfl
  rotate_left
  · simp only [Act.put, List.setIfInBounds_toArray, List.set_cons_zero, List.set_cons_succ, i64_w, i32_w]
    rfl
  refine pure_ (i := 12) (N := some 47) (v := ?_) (a' := ?_) #[true, true, true, true, true, true, true, true, true, true, true, true, true, false, false, false, false, false, false, false, false, false, false, false, false, false, false, false, false, false, false, false, false, false, false, false, false, false, false, false, false, false] rfl rfl (by kernel_rfl) (fun _ _ _ h => h) (Or.inl ⟨by rfl, ?_⟩) ?_ ?_
  rotate_left
  · intro w'
    go_simp
    with_reducible rfl
  rotate_left
  · simp only [Act.put, List.setIfInBounds_toArray, List.set_cons_zero, List.set_cons_succ, i64_w, i32_w]
    rfl
  refine pure_ (i := 13) (N := some 48) (v := ?_) (a' := ?_) #[true, true, true, true, true, true, true, true, true, true, true, true, true, true, false, false, false, false, false, false, false, false, false, false, false, false, false, false, false, false, false, false, false, false, false, false, false, false, false, false, false, false] rfl rfl (by kernel_rfl) (fun _ _ _ h => h) (Or.inl ⟨by rfl, ?_⟩) ?_ ?_
  rotate_left
  · intro w'
    go_simp
    with_reducible rfl
  rotate_left
  · simp only [Act.put, List.setIfInBounds_toArray, List.set_cons_zero, List.set_cons_succ, i64_w, i32_w]
    rfl
  refine one_ (i := 14) (N := some 49) #[true, true, true, true, true, true, true, true, true, true, true, true, true, true, true, false, false, false, false, false, false, false, false, false, false, false, false, false, false, false, false, false, false, false, false, false, false, false, false, false, false, false] rfl rfl (by kernel_rfl) (by decide) (fun K hK => ?_)
  refine goes_ Try.func9 (by kernel_rfl) rfl #[.int .i64 0] (by rfl) rfl rfl (by simp only [List.map_toArray, List.map_cons, List.map_nil]; rfl) ?_
  with_reducible refine (num_b 0 _).mono ?_
  rintro e u40 ⟨rfl, hb4⟩
  refine ⟨_, rfl, ?_⟩
  have HO4 := Aside0.mk (blk_below (by exact HO3.out) hb4)
  have HL4 := Aside0.mk (HL3.out.below (by first | exact hb4 | exact ((Below.refl _ _).drew).trans hb4))
  have HP4 := Aside0.mk (blk_below (by exact HP3.out) hb4)
  have HLB4 := Aside0.mk (HLB3.out.below (by first | exact hb4 | exact ((Below.refl _ _).drew).trans hb4))
  have HB4 := Aside0.mk (below_step (w := w) (by first | exact HB3.out | exact HB3.out.drew) hb4)
  clear hb4
  refine hK.out _ _ ⟨(blk_cell HO4.out 0).trans rfl, (blk_cell HO4.out 1).trans rfl, (blk_cell HO4.out 2).trans rfl, (blk_cell HO4.out 3).trans rfl, (blk_cell HO4.out 4).trans rfl, (blk_cell HO4.out 5).trans rfl, (blk_cell HO4.out 6).trans rfl, (blk_cell HO4.out 7).trans rfl, (blk_cell HO4.out 8).trans rfl, (blk_cell HO4.out 9).trans rfl, (blk_cell HO4.out 10).trans rfl, (blk_cell HO4.out 11).trans rfl, (blk_cell HO4.out 12).trans rfl, (blk_cell HO4.out 13).trans rfl⟩ (fun hHeld => ?_)
  clear hK K
  refine norm_ (a' := ?_) ?_ ?_
  rotate_left
  · show Act.put _ (some 49) _ = _
    simp only [Act.put, List.setIfInBounds_toArray, List.set_cons_zero, List.set_cons_succ, i64_w, i32_w]
    rfl
  refine pure_ (i := 15) (N := some 50) (v := ?_) (a' := ?_) #[true, true, true, true, true, true, true, true, true, true, true, true, true, true, true, true, false, false, false, false, false, false, false, false, false, false, false, false, false, false, false, false, false, false, false, false, false, false, false, false, false, false] rfl rfl (by kernel_rfl) (fun _ _ _ h => h) (Or.inl ⟨by rfl, ?_⟩) ?_ ?_
  rotate_left
  · intro w'
    go_simp
    with_reducible rfl
  rotate_left
  · simp only [Act.put, List.setIfInBounds_toArray, List.set_cons_zero, List.set_cons_succ, i64_w, i32_w]
    rfl
  refine pure_ (i := 16) (N := some 51) (v := ?_) (a' := ?_) #[true, true, true, true, true, true, true, true, true, true, true, true, true, true, true, true, true, false, false, false, false, false, false, false, false, false, false, false, false, false, false, false, false, false, false, false, false, false, false, false, false, false] rfl rfl (by kernel_rfl) (fun _ _ _ h => h) (Or.inl ⟨by rfl, ?_⟩) ?_ ?_
  rotate_left
  · intro w'
    go_simp
    with_reducible rfl
  rotate_left
  · simp only [Act.put, List.setIfInBounds_toArray, List.set_cons_zero, List.set_cons_succ, i64_w, i32_w]
    rfl
  refine pure_ (i := 17) (N := some 52) (v := ?_) (a' := ?_) #[true, true, true, true, true, true, true, true, true, true, true, true, true, true, true, true, true, true, false, false, false, false, false, false, false, false, false, false, false, false, false, false, false, false, false, false, false, false, false, false, false, false] rfl rfl (by kernel_rfl) (fun _ _ _ h => h) (Or.inl ⟨by rfl, ?_⟩) ?_ ?_
  rotate_left
  · intro w'
    go_simp
    with_reducible rfl
  rotate_left
  · simp only [Act.put, List.setIfInBounds_toArray, List.set_cons_zero, List.set_cons_succ, i64_w, i32_w]
    rfl
  refine pure_ (i := 18) (N := some 53) (v := ?_) (a' := ?_) #[true, true, true, true, true, true, true, true, true, true, true, true, true, true, true, true, true, true, true, false, false, false, false, false, false, false, false, false, false, false, false, false, false, false, false, false, false, false, false, false, false, false] rfl rfl (by kernel_rfl) (fun _ _ _ h => h) (Or.inl ⟨by rfl, ?_⟩) ?_ ?_
  rotate_left
  · intro w'
    go_simp
    with_reducible rfl
  rotate_left
  · simp only [Act.put, List.setIfInBounds_toArray, List.set_cons_zero, List.set_cons_succ, i64_w, i32_w]
    rfl
  refine one_ (i := 19) (N := some 54) #[true, true, true, true, true, true, true, true, true, true, true, true, true, true, true, true, true, true, true, true, false, false, false, false, false, false, false, false, false, false, false, false, false, false, false, false, false, false, false, false, false, false] rfl rfl (by kernel_rfl) (by decide) (fun K hK => ?_)
  refine goes_ Try.func9 (by kernel_rfl) rfl #[.int .i64 1100] (by rfl) rfl rfl (by simp only [List.map_toArray, List.map_cons, List.map_nil]; rfl) ?_
  with_reducible refine (num_b 1100 _).mono ?_
  rintro e u50 ⟨rfl, hb5⟩
  refine ⟨_, rfl, ?_⟩
  have HO5 := Aside0.mk (blk_below (by exact HO4.out) hb5)
  have HL5 := Aside0.mk (HL4.out.below (by first | exact hb5 | exact ((Below.refl _ _).drew).trans hb5))
  have HP5 := Aside0.mk (blk_below (by exact HP4.out) hb5)
  have HLB5 := Aside0.mk (HLB4.out.below (by first | exact hb5 | exact ((Below.refl _ _).drew).trans hb5))
  have HB5 := Aside0.mk (below_step (w := w) (by first | exact HB4.out | exact HB4.out.drew) hb5)
  clear hb5
  refine hK.out _ _ ⟨(blk_cell HO5.out 0).trans rfl, (blk_cell HO5.out 1).trans rfl, (blk_cell HO5.out 2).trans rfl, (blk_cell HO5.out 3).trans rfl, (blk_cell HO5.out 4).trans rfl, (blk_cell HO5.out 5).trans rfl, (blk_cell HO5.out 6).trans rfl, (blk_cell HO5.out 7).trans rfl, (blk_cell HO5.out 8).trans rfl, (blk_cell HO5.out 9).trans rfl, (blk_cell HO5.out 10).trans rfl, (blk_cell HO5.out 11).trans rfl, (blk_cell HO5.out 12).trans rfl, (blk_cell HO5.out 13).trans rfl⟩ (fun hHeld => ?_)
  clear hK K
  refine norm_ (a' := ?_) ?_ ?_
  rotate_left
  · show Act.put _ (some 54) _ = _
    simp only [Act.put, List.setIfInBounds_toArray, List.set_cons_zero, List.set_cons_succ, i64_w, i32_w]
    rfl
  refine pure_ (i := 20) (N := some 55) (v := ?_) (a' := ?_) #[true, true, true, true, true, true, true, true, true, true, true, true, true, true, true, true, true, true, true, true, true, false, false, false, false, false, false, false, false, false, false, false, false, false, false, false, false, false, false, false, false, false] rfl rfl (by kernel_rfl) (fun _ _ _ h => h) (Or.inl ⟨by rfl, ?_⟩) ?_ ?_
  rotate_left
  · intro w'
    go_simp
    with_reducible rfl
  rotate_left
  · simp only [Act.put, List.setIfInBounds_toArray, List.set_cons_zero, List.set_cons_succ, i64_w, i32_w]
    rfl
  refine pure_ (i := 21) (N := some 56) (v := ?_) (a' := ?_) #[true, true, true, true, true, true, true, true, true, true, true, true, true, true, true, true, true, true, true, true, true, true, false, false, false, false, false, false, false, false, false, false, false, false, false, false, false, false, false, false, false, false] rfl rfl (by kernel_rfl) (fun _ _ _ h => h) (Or.inl ⟨by rfl, ?_⟩) ?_ ?_
  rotate_left
  · intro w'
    go_simp
    with_reducible rfl
  rotate_left
  · simp only [Act.put, List.setIfInBounds_toArray, List.set_cons_zero, List.set_cons_succ, i64_w, i32_w]
    rfl
  refine pure_ (i := 22) (N := some 57) (v := ?_) (a' := ?_) #[true, true, true, true, true, true, true, true, true, true, true, true, true, true, true, true, true, true, true, true, true, true, true, false, false, false, false, false, false, false, false, false, false, false, false, false, false, false, false, false, false, false] rfl rfl (by kernel_rfl) (fun _ _ _ h => h) (Or.inl ⟨by rfl, ?_⟩) ?_ ?_
  rotate_left
  · intro w'
    go_simp
    with_reducible rfl
  rotate_left
  · simp only [Act.put, List.setIfInBounds_toArray, List.set_cons_zero, List.set_cons_succ, i64_w, i32_w]
    rfl
  refine pure_ (i := 23) (N := some 58) (v := ?_) (a' := ?_) #[true, true, true, true, true, true, true, true, true, true, true, true, true, true, true, true, true, true, true, true, true, true, true, true, false, false, false, false, false, false, false, false, false, false, false, false, false, false, false, false, false, false] rfl rfl (by kernel_rfl) (fun _ _ _ h => h) (Or.inl ⟨by rfl, ?_⟩) ?_ ?_
  rotate_left
  · intro w'
    go_simp
    with_reducible rfl
  rotate_left
  · simp only [Act.put, List.setIfInBounds_toArray, List.set_cons_zero, List.set_cons_succ, i64_w, i32_w]
    rfl
  refine one_ (i := 24) (N := some 59) #[true, true, true, true, true, true, true, true, true, true, true, true, true, true, true, true, true, true, true, true, true, true, true, true, true, false, false, false, false, false, false, false, false, false, false, false, false, false, false, false, false, false] rfl rfl (by kernel_rfl) (by decide) (fun K hK => ?_)
  refine goes_ Try.func9 (by kernel_rfl) rfl #[.int .i64 1100] (by rfl) rfl rfl (by simp only [List.map_toArray, List.map_cons, List.map_nil]; rfl) ?_
  with_reducible refine (num_b 1100 _).mono ?_
  rintro e u60 ⟨rfl, hb6⟩
  refine ⟨_, rfl, ?_⟩
  have HO6 := Aside0.mk (blk_below (by exact HO5.out) hb6)
  have HL6 := Aside0.mk (HL5.out.below (by first | exact hb6 | exact ((Below.refl _ _).drew).trans hb6))
  have HP6 := Aside0.mk (blk_below (by exact HP5.out) hb6)
  have HLB6 := Aside0.mk (HLB5.out.below (by first | exact hb6 | exact ((Below.refl _ _).drew).trans hb6))
  have HB6 := Aside0.mk (below_step (w := w) (by first | exact HB5.out | exact HB5.out.drew) hb6)
  clear hb6
  refine hK.out _ _ ⟨(blk_cell HO6.out 0).trans rfl, (blk_cell HO6.out 1).trans rfl, (blk_cell HO6.out 2).trans rfl, (blk_cell HO6.out 3).trans rfl, (blk_cell HO6.out 4).trans rfl, (blk_cell HO6.out 5).trans rfl, (blk_cell HO6.out 6).trans rfl, (blk_cell HO6.out 7).trans rfl, (blk_cell HO6.out 8).trans rfl, (blk_cell HO6.out 9).trans rfl, (blk_cell HO6.out 10).trans rfl, (blk_cell HO6.out 11).trans rfl, (blk_cell HO6.out 12).trans rfl, (blk_cell HO6.out 13).trans rfl⟩ (fun hHeld => ?_)
  clear hK K
  refine norm_ (a' := ?_) ?_ ?_
  rotate_left
  · show Act.put _ (some 59) _ = _
    simp only [Act.put, List.setIfInBounds_toArray, List.set_cons_zero, List.set_cons_succ, i64_w, i32_w]
    rfl
  refine pure_ (i := 25) (N := some 60) (v := ?_) (a' := ?_) #[true, true, true, true, true, true, true, true, true, true, true, true, true, true, true, true, true, true, true, true, true, true, true, true, true, true, false, false, false, false, false, false, false, false, false, false, false, false, false, false, false, false] rfl rfl (by kernel_rfl) (fun _ _ _ h => h) (Or.inl ⟨by rfl, ?_⟩) ?_ ?_
  rotate_left
  · intro w'
    go_simp
    with_reducible rfl
  rotate_left
  · simp only [Act.put, List.setIfInBounds_toArray, List.set_cons_zero, List.set_cons_succ, i64_w, i32_w]
    rfl
  refine pure_ (i := 26) (N := some 61) (v := ?_) (a' := ?_) #[true, true, true, true, true, true, true, true, true, true, true, true, true, true, true, true, true, true, true, true, true, true, true, true, true, true, true, false, false, false, false, false, false, false, false, false, false, false, false, false, false, false] rfl rfl (by kernel_rfl) (fun _ _ _ h => h) (Or.inl ⟨by rfl, ?_⟩) ?_ ?_
  rotate_left
  · intro w'
    go_simp
    with_reducible rfl
  rotate_left
  · simp only [Act.put, List.setIfInBounds_toArray, List.set_cons_zero, List.set_cons_succ, i64_w, i32_w]
    rfl
  refine pure_ (i := 27) (N := some 62) (v := ?_) (a' := ?_) #[true, true, true, true, true, true, true, true, true, true, true, true, true, true, true, true, true, true, true, true, true, true, true, true, true, true, true, true, false, false, false, false, false, false, false, false, false, false, false, false, false, false] rfl rfl (by kernel_rfl) (fun _ _ _ h => h) (Or.inl ⟨by rfl, ?_⟩) ?_ ?_
  rotate_left
  · intro w'
    go_simp
    with_reducible rfl
  rotate_left
  · simp only [Act.put, List.setIfInBounds_toArray, List.set_cons_zero, List.set_cons_succ, i64_w, i32_w]
    rfl
  refine take_ (i := 28) (N := some 63) (v := ?_) (a' := ?_) #[true, true, true, true, true, true, true, true, true, true, true, true, true, true, true, true, true, true, true, true, true, true, true, true, true, true, true, true, true, false, false, false, false, false, false, false, false, false, false, false, false, false] rfl rfl (by kernel_rfl) (fun _ _ _ h => h) (Or.inl ⟨by rfl, ?_⟩) hHeld ?_ ?_
  rotate_left
  · rintro w' ⟨s0, s1, s2, s3, s4, s5, s6, s7, s8, s9, s10, s11, s12, s13⟩
    go_simp
    with_reducible rfl
  rotate_left
  · simp only [Act.put, List.setIfInBounds_toArray, List.set_cons_zero, List.set_cons_succ, i64_w, i32_w]
    rfl
  refine one_ (i := 29) (N := some 64) #[true, true, true, true, true, true, true, true, true, true, true, true, true, true, true, true, true, true, true, true, true, true, true, true, true, true, true, true, true, true, false, false, false, false, false, false, false, false, false, false, false, false] rfl rfl (by kernel_rfl) (by decide) (fun K hK => ?_)
  refine goes_ Try.func14 (by kernel_rfl) rfl #[.agg #[.int .i64 1, .int .i64 3, .int .i64 9, .slice A3 2 c3, .int .i64 1, .string ⟨#[84]⟩, .string ⟨#[105]⟩, .string ⟨#[102]⟩, .string ⟨#[]⟩, .int .i64 (-2), .int .i64 3, .int .i64 0, .int .i64 0, .slice B3 0 d3]] (by rfl) rfl rfl (by simp only [List.map_toArray, List.map_cons, List.map_nil]; rfl) ?_
  with_reducible refine (kind1_any HL6.out).mono ?_
  rintro e u70 ⟨rfl, hb7⟩
  refine ⟨_, rfl, ?_⟩
  have HO7 := Aside0.mk (blk_below (by exact HO6.out) hb7)
  have HL7 := Aside0.mk (HL6.out.below (by first | exact hb7 | exact ((Below.refl _ _).drew).trans hb7))
  have HP7 := Aside0.mk (blk_below (by exact HP6.out) hb7)
  have HLB7 := Aside0.mk (HLB6.out.below (by first | exact hb7 | exact ((Below.refl _ _).drew).trans hb7))
  have HB7 := Aside0.mk (below_step (w := w) (by first | exact HB6.out | exact HB6.out.drew) hb7)
  clear hb7
  refine hK.out _ _ ⟨(blk_cell HO7.out 0).trans rfl, (blk_cell HO7.out 1).trans rfl, (blk_cell HO7.out 2).trans rfl, (blk_cell HO7.out 3).trans rfl, (blk_cell HO7.out 4).trans rfl, (blk_cell HO7.out 5).trans rfl, (blk_cell HO7.out 6).trans rfl, (blk_cell HO7.out 7).trans rfl, (blk_cell HO7.out 8).trans rfl, (blk_cell HO7.out 9).trans rfl, (blk_cell HO7.out 10).trans rfl, (blk_cell HO7.out 11).trans rfl, (blk_cell HO7.out 12).trans rfl, (blk_cell HO7.out 13).trans rfl⟩ (fun hHeld => ?_)
  clear hK K
  refine norm_ (a' := ?_) ?_ ?_
  rotate_left
  · show Act.put _ (some 64) _ = _
    simp only [Act.put, List.setIfInBounds_toArray, List.set_cons_zero, List.set_cons_succ, i64_w, i32_w]
    rfl
  refine pure_ (i := 30) (N := some 65) (v := ?_) (a' := ?_) #[true, true, true, true, true, true, true, true, true, true, true, true, true, true, true, true, true, true, true, true, true, true, true, true, true, true, true, true, true, true, true, false, false, false, false, false, false, false, false, false, false, false] rfl rfl (by kernel_rfl) (fun _ _ _ h => h) (Or.inl ⟨by rfl, ?_⟩) ?_ ?_
  rotate_left
  · intro w'
    go_simp
    with_reducible rfl
  rotate_left
  · simp only [Act.put, List.setIfInBounds_toArray, List.set_cons_zero, List.set_cons_succ, i64_w, i32_w]
    rfl
  refine pure_ (i := 31) (N := some 66) (v := ?_) (a' := ?_) #[true, true, true, true, true, true, true, true, true, true, true, true, true, true, true, true, true, true, true, true, true, true, true, true, true, true, true, true, true, true, true, true, false, false, false, false, false, false, false, false, false, false] rfl rfl (by kernel_rfl) (fun _ _ _ h => h) (Or.inl ⟨by rfl, ?_⟩) ?_ ?_
  rotate_left
  · intro w'
    go_simp
    with_reducible rfl
  rotate_left
  · simp only [Act.put, List.setIfInBounds_toArray, List.set_cons_zero, List.set_cons_succ, i64_w, i32_w]
    rfl
  refine pure_ (i := 32) (N := some 67) (v := ?_) (a' := ?_) #[true, true, true, true, true, true, true, true, true, true, true, true, true, true, true, true, true, true, true, true, true, true, true, true, true, true, true, true, true, true, true, true, true, false, false, false, false, false, false, false, false, false] rfl rfl (by kernel_rfl) (fun _ _ _ h => h) (Or.inl ⟨by rfl, ?_⟩) ?_ ?_
  rotate_left
  · intro w'
    go_simp
    with_reducible rfl
  rotate_left
  · simp only [Act.put, List.setIfInBounds_toArray, List.set_cons_zero, List.set_cons_succ, i64_w, i32_w]
    rfl
  refine one_ (i := 33) (N := some 68) #[true, true, true, true, true, true, true, true, true, true, true, true, true, true, true, true, true, true, true, true, true, true, true, true, true, true, true, true, true, true, true, true, true, true, false, false, false, false, false, false, false, false] rfl rfl (by kernel_rfl) (by decide) (fun K hK => ?_)
  refine goes_ Try.func13 (by kernel_rfl) rfl #[.int .i64 3] (by rfl) rfl rfl (by simp only [List.map_toArray, List.map_cons, List.map_nil]; rfl) ?_
  with_reducible refine (one3_any _).mono ?_
  rintro e u80 ⟨A80, c80, B80, d80, rfl, hLx8, hb8⟩
  refine ⟨_, rfl, ?_⟩
  have HO8 := Aside0.mk (blk_below (by exact HO7.out) hb8)
  have HL8 := Aside0.mk (HL7.out.below (by first | exact hb8 | exact ((Below.refl _ _).drew).trans hb8))
  have HP8 := Aside0.mk (blk_below (by exact HP7.out) hb8)
  have HLB8 := Aside0.mk (HLB7.out.below (by first | exact hb8 | exact ((Below.refl _ _).drew).trans hb8))
  have HB8 := Aside0.mk (below_step (w := w) (by first | exact HB7.out | exact HB7.out.drew) hb8)
  have HLY := Aside0.mk hLx8; clear hLx8
  clear hb8
  refine hK.out _ _ ⟨(blk_cell HO8.out 0).trans rfl, (blk_cell HO8.out 1).trans rfl, (blk_cell HO8.out 2).trans rfl, (blk_cell HO8.out 3).trans rfl, (blk_cell HO8.out 4).trans rfl, (blk_cell HO8.out 5).trans rfl, (blk_cell HO8.out 6).trans rfl, (blk_cell HO8.out 7).trans rfl, (blk_cell HO8.out 8).trans rfl, (blk_cell HO8.out 9).trans rfl, (blk_cell HO8.out 10).trans rfl, (blk_cell HO8.out 11).trans rfl, (blk_cell HO8.out 12).trans rfl, (blk_cell HO8.out 13).trans rfl⟩ (fun hHeld => ?_)
  clear hK K
  refine norm_ (a' := ?_) ?_ ?_
  rotate_left
  · show Act.put _ (some 68) _ = _
    simp only [Act.put, List.setIfInBounds_toArray, List.set_cons_zero, List.set_cons_succ, i64_w, i32_w]
    rfl
  refine one_ (i := 34) (N := some 69) #[true, true, true, true, true, true, true, true, true, true, true, true, true, true, true, true, true, true, true, true, true, true, true, true, true, true, true, true, true, true, true, true, true, true, true, false, false, false, false, false, false, false] rfl rfl (by kernel_rfl) (by decide) (fun K hK => ?_)
  refine goes_ Try.func10 (by kernel_rfl) rfl #[.agg #[.int .i64 1, .int .i64 3, .int .i64 9, .slice A80 2 c80, .int .i64 3, .string ⟨#[84]⟩, .string ⟨#[105]⟩, .string ⟨#[102]⟩, .string ⟨#[]⟩, .int .i64 0, .int .i64 0, .int .i64 0, .int .i64 0, .slice B80 2 d80], .int .i64 2] (by rfl) rfl rfl (by simp only [List.map_toArray, List.map_cons, List.map_nil]; rfl) ?_
  with_reducible refine (may3_any HLY.out).mono ?_
  rintro e u90 ⟨rfl, hb9⟩
  refine ⟨_, rfl, ?_⟩
  have HO9 := Aside0.mk (blk_below (by exact HO8.out) hb9)
  have HL9 := Aside0.mk (HL8.out.below (by first | exact hb9 | exact ((Below.refl _ _).drew).trans hb9))
  have HP9 := Aside0.mk (blk_below (by exact HP8.out) hb9)
  have HLB9 := Aside0.mk (HLB8.out.below (by first | exact hb9 | exact ((Below.refl _ _).drew).trans hb9))
  have HB9 := Aside0.mk (below_step (w := w) (by first | exact HB8.out | exact HB8.out.drew) hb9)
  clear hb9
  refine hK.out _ _ ⟨(blk_cell HO9.out 0).trans rfl, (blk_cell HO9.out 1).trans rfl, (blk_cell HO9.out 2).trans rfl, (blk_cell HO9.out 3).trans rfl, (blk_cell HO9.out 4).trans rfl, (blk_cell HO9.out 5).trans rfl, (blk_cell HO9.out 6).trans rfl, (blk_cell HO9.out 7).trans rfl, (blk_cell HO9.out 8).trans rfl, (blk_cell HO9.out 9).trans rfl, (blk_cell HO9.out 10).trans rfl, (blk_cell HO9.out 11).trans rfl, (blk_cell HO9.out 12).trans rfl, (blk_cell HO9.out 13).trans rfl⟩ (fun hHeld => ?_)
  clear hK K
  refine norm_ (a' := ?_) ?_ ?_
  rotate_left
  · show Act.put _ (some 69) _ = _
    simp only [Act.put, List.setIfInBounds_toArray, List.set_cons_zero, List.set_cons_succ, i64_w, i32_w]
    rfl
  refine pure_ (i := 35) (N := some 70) (v := ?_) (a' := ?_) #[true, true, true, true, true, true, true, true, true, true, true, true, true, true, true, true, true, true, true, true, true, true, true, true, true, true, true, true, true, true, true, true, true, true, true, true, false, false, false, false, false, false] rfl rfl (by kernel_rfl) (fun _ _ _ h => h) (Or.inl ⟨by rfl, ?_⟩) ?_ ?_
  rotate_left
  · intro w'
    go_simp
    with_reducible rfl
  rotate_left
  · simp only [Act.put, List.setIfInBounds_toArray, List.set_cons_zero, List.set_cons_succ, i64_w, i32_w]
    rfl
  refine pure_ (i := 36) (N := some 71) (v := ?_) (a' := ?_) #[true, true, true, true, true, true, true, true, true, true, true, true, true, true, true, true, true, true, true, true, true, true, true, true, true, true, true, true, true, true, true, true, true, true, true, true, true, false, false, false, false, false] rfl rfl (by kernel_rfl) (fun _ _ _ h => h) (Or.inl ⟨by rfl, ?_⟩) ?_ ?_
  rotate_left
  · intro w'
    go_simp
    with_reducible rfl
  rotate_left
  · simp only [Act.put, List.setIfInBounds_toArray, List.set_cons_zero, List.set_cons_succ, i64_w, i32_w]
    rfl
  refine one_ (i := 37) (N := some 72) #[true, true, true, true, true, true, true, true, true, true, true, true, true, true, true, true, true, true, true, true, true, true, true, true, true, true, true, true, true, true, true, true, true, true, true, true, true, true, false, false, false, false] rfl rfl (by kernel_rfl) (by decide) (fun K hK => ?_)
  refine load_arm (cs := #[.int .i64 1, .int .i64 3, .int .i64 9, .slice (some ⟨g, 0, none⟩) 2 c7, .int .i64 0, .string ⟨#[84]⟩, .string ⟨#[105]⟩, .string ⟨#[102]⟩, .string ⟨#[118]⟩, .int .i64 0, .int .i64 0, .int .i64 0, .int .i64 0, .slice B7 0 d7]) (by rfl) rfl rfl rfl HP9.out Try.underlying29 rfl (by kernel_rfl) ?_
  refine hK.out _ _ ⟨(blk_cell HO9.out 0).trans rfl, (blk_cell HO9.out 1).trans rfl, (blk_cell HO9.out 2).trans rfl, (blk_cell HO9.out 3).trans rfl, (blk_cell HO9.out 4).trans rfl, (blk_cell HO9.out 5).trans rfl, (blk_cell HO9.out 6).trans rfl, (blk_cell HO9.out 7).trans rfl, (blk_cell HO9.out 8).trans rfl, (blk_cell HO9.out 9).trans rfl, (blk_cell HO9.out 10).trans rfl, (blk_cell HO9.out 11).trans rfl, (blk_cell HO9.out 12).trans rfl, (blk_cell HO9.out 13).trans rfl⟩ (fun hHeld => ?_)
  clear hK K
  refine norm_ (a' := ?_) ?_ ?_
  rotate_left
  · show Act.put _ (some 72) _ = _
    simp only [Act.put, List.setIfInBounds_toArray, List.set_cons_zero, List.set_cons_succ, i64_w, i32_w]
    rfl
  refine one_ (i := 38) (N := some 73) #[true, true, true, true, true, true, true, true, true, true, true, true, true, true, true, true, true, true, true, true, true, true, true, true, true, true, true, true, true, true, true, true, true, true, true, true, true, true, true, false, false, false] rfl rfl (by kernel_rfl) (by decide) (fun K hK => ?_)
  refine goes_ Try.func10 (by kernel_rfl) rfl #[.agg #[.int .i64 1, .int .i64 3, .int .i64 9, .slice (some ⟨g, 0, none⟩) 2 c7, .int .i64 0, .string ⟨#[84]⟩, .string ⟨#[105]⟩, .string ⟨#[102]⟩, .string ⟨#[118]⟩, .int .i64 0, .int .i64 0, .int .i64 0, .int .i64 0, .slice B7 0 d7], .int .i64 2] (by rfl) rfl rfl (by simp only [List.map_toArray, List.map_cons, List.map_nil]; rfl) ?_
  with_reducible refine (mayBad_any HLB9.out).mono ?_
  rintro e u100 ⟨rfl, hb10⟩
  refine ⟨_, rfl, ?_⟩
  have HO10 := Aside0.mk (blk_below (by exact HO9.out) hb10)
  have HL10 := Aside0.mk (HL9.out.below (by first | exact hb10 | exact ((Below.refl _ _).drew).trans hb10))
  have HP10 := Aside0.mk (blk_below (by exact HP9.out) hb10)
  have HLB10 := Aside0.mk (HLB9.out.below (by first | exact hb10 | exact ((Below.refl _ _).drew).trans hb10))
  have HB10 := Aside0.mk (below_step (w := w) (by first | exact HB9.out | exact HB9.out.drew) hb10)
  clear hb10
  refine hK.out _ _ ⟨(blk_cell HO10.out 0).trans rfl, (blk_cell HO10.out 1).trans rfl, (blk_cell HO10.out 2).trans rfl, (blk_cell HO10.out 3).trans rfl, (blk_cell HO10.out 4).trans rfl, (blk_cell HO10.out 5).trans rfl, (blk_cell HO10.out 6).trans rfl, (blk_cell HO10.out 7).trans rfl, (blk_cell HO10.out 8).trans rfl, (blk_cell HO10.out 9).trans rfl, (blk_cell HO10.out 10).trans rfl, (blk_cell HO10.out 11).trans rfl, (blk_cell HO10.out 12).trans rfl, (blk_cell HO10.out 13).trans rfl⟩ (fun hHeld => ?_)
  clear hK K
  refine norm_ (a' := ?_) ?_ ?_
  rotate_left
  · show Act.put _ (some 73) _ = _
    simp only [Act.put, List.setIfInBounds_toArray, List.set_cons_zero, List.set_cons_succ, i64_w, i32_w]
    rfl
  refine pure_ (i := 39) (N := some 74) (v := ?_) (a' := ?_) #[true, true, true, true, true, true, true, true, true, true, true, true, true, true, true, true, true, true, true, true, true, true, true, true, true, true, true, true, true, true, true, true, true, true, true, true, true, true, true, true, false, false] rfl rfl (by kernel_rfl) (fun _ _ _ h => h) (Or.inl ⟨by rfl, ?_⟩) ?_ ?_
  rotate_left
  · intro w'
    go_simp
    with_reducible rfl
  rotate_left
  · simp only [Act.put, List.setIfInBounds_toArray, List.set_cons_zero, List.set_cons_succ, i64_w, i32_w]
    rfl
  refine pure_ (i := 40) (N := some 75) (v := ?_) (a' := ?_) #[true, true, true, true, true, true, true, true, true, true, true, true, true, true, true, true, true, true, true, true, true, true, true, true, true, true, true, true, true, true, true, true, true, true, true, true, true, true, true, true, true, false] rfl rfl (by kernel_rfl) (fun _ _ _ h => h) (Or.inl ⟨by rfl, ?_⟩) ?_ ?_
  rotate_left
  · intro w'
    go_simp
    with_reducible rfl
  rotate_left
  · simp only [Act.put, List.setIfInBounds_toArray, List.set_cons_zero, List.set_cons_succ, i64_w, i32_w]
    rfl
  refine pure_ (i := 41) (N := some 0) (v := ?_) (a' := ?_) #[true, true, true, true, true, true, true, true, true, true, true, true, true, true, true, true, true, true, true, true, true, true, true, true, true, true, true, true, true, true, true, true, true, true, true, true, true, true, true, true, true, true] rfl rfl (by kernel_rfl) (fun _ _ _ h => h) (Or.inl ⟨by rfl, ?_⟩) ?_ ?_
  rotate_left
  · intro w'
    go_simp
    with_reducible rfl
  rotate_left
  · simp only [Act.put, List.setIfInBounds_toArray, List.set_cons_zero, List.set_cons_succ, i64_w, i32_w]
    rfl
  refine done_ (by kernel_rfl) ?_
  go_wp2
  go_ret
  exact ⟨rfl, HB10.out⟩
def tattlelaw11_awake.f : Option (Bool) := some true
theorem tattlelaw11_awake.calls (r : Bool) (w : World) (h : tattlelaw11_awake.f = some r) :
    Calls Try.prog 7 #[] w fun e w' => e = .returned (.bool r) ∧ Below w.heap.size w w' := by
  obtain rfl := Option.some.inj h
  exact awake_any w
end Go.Proofs.Ytaaaeonalomcgaa.Q
