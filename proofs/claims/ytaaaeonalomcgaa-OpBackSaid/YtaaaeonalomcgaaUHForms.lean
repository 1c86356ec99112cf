/- What OpForms answers: true, whatever it is given. No condition. -/
import Derived.Test.YtaaaeonalomcgaaUHAwake
import Derived.Test.YtaaaeonalomcgaaUHBad
import Derived.Test.YtaaaeonalomcgaaUHMask
import Derived.Deep.CutBlock
set_option linter.unusedVariables false
set_option linter.unusedSimpArgs false
namespace Go.Proofs.Ytaaaeonalomcgaa.Q
open Go.RowKit Go.Proofs.YtaaaeonalomcgaaW.PrintWords Go.Proofs.YtaaaeonalomcgaaW.PrintLast Go.Proofs.YtaaaeonalomcgaaW.PrintMore Sp
def BadAt (w : World) (o : Nat) : Prop := ∃ (d0 d1 t : Int) (A : Option Addr) (n c : Nat) (deps : List Int) (k : Int) (ty id fl val : ByteArray) (n0 n1 r0 r1 : Int) (B : Option Addr) (m e : Nat) (ds : List S23),
  IsOp w o d0 d1 t (.slice A n c) k ty id fl val n0 n1 r0 r1 (.slice B m e) ∧ Lists w A n c deps B m e ds ∧ mayB d0 d1 t deps k ty id fl val n0 n1 r0 r1 ds 2 = false
theorem one4_any (w : World) : Calls Try.prog 13 #[.int .i64 4] w fun e w' => ∃ (g c : Nat) (B : Option Addr) (d : Nat), e = .returned (.agg #[.int .i64 1, .int .i64 3, .int .i64 9, .slice (some ⟨g, 0, none⟩) 2 c, .int .i64 4, .string ⟨#[84]⟩, .string ⟨#[105]⟩, .string ⟨#[102]⟩, .string ⟨#[118]⟩, .int .i64 0, .int .i64 0, .int .i64 0, .int .i64 1, .slice B 0 d]) ∧ w'.ownsRow w.heap.size 3 1 (.slice (some ⟨g, 0, none⟩) 2 c) 2 [.int .i64 4, .int .i64 2] ∧ (Kd.C k23 w' B 0 [] ∧ 0 ≤ d) ∧ Below w.heap.size w w' :=
  (one_any 4 w).mono fun e w' ⟨v3, v13, he, h3, h13, hb⟩ => by
    obtain ⟨B, d, h', hl', hC'⟩ := Kd.R_reads h13
    subst h'
    have ho := Kd.own_of_R h3
    rcases ho.2 with ⟨rfl, h0⟩ | ⟨g, cap, cur, rfl, _⟩
    · cases h0
    · exact ⟨g, cap, B, d, he, ho, ⟨hC', hl'⟩, hb⟩
section
variable {w : World} {d0 d1 t : Int} {A : Option Addr} {n c : Nat} {deps : List Int} {k : Int} {ty id_ fl val : ByteArray} {n0 n1 r0 r1 : Int} {B : Option Addr} {m e : Nat} {ds : List S23} {x : Int}
theorem may_at {b : Bool} (hL : Lists w A n c deps B m e ds) (hb : mayB d0 d1 t deps k ty id_ fl val n0 n1 r0 r1 ds x = b) :
    Calls Try.prog 10 #[.agg #[.int .i64 d0, .int .i64 d1, .int .i64 t, .slice A n c, .int .i64 k, .string ty, .string id_, .string fl, .string val, .int .i64 n0, .int .i64 n1, .int .i64 r0, .int .i64 r1, .slice B m e], .int .i64 x] w fun e w' => e = .returned (.bool b) ∧ Below w.heap.size w w' := by
  obtain ⟨⟨rfl, rfl⟩, h1, h2⟩ := hL
  have := may_any d0 d1 t A c deps k ty id_ fl val n0 n1 r0 r1 B e ds x w h1.1 h1.2 h2.1 h2.2
  rw [hb] at this
  exact this
theorem putBad_at (hL : Lists w A n c deps B m e ds) (hb : mayB d0 d1 t deps k ty id_ fl val n0 n1 r0 r1 ds x = false) :
    Calls Try.prog 8 #[.agg #[.int .i64 d0, .int .i64 d1, .int .i64 t, .slice A n c, .int .i64 k, .string ty, .string id_, .string fl, .string val, .int .i64 n0, .int .i64 n1, .int .i64 r0, .int .i64 r1, .slice B m e], .int .i64 x] w fun e w' => e = .returned (.tuple #[.string ⟨#[]⟩, .int .i64 1100]) ∧ Below w.heap.size w w' := by
  obtain ⟨⟨rfl, rfl⟩, h1, h2⟩ := hL
  exact put_no d0 d1 t A c deps k ty id_ fl val n0 n1 r0 r1 B e ds x w h1.1 h1.2 h2.1 h2.2 hb
end
theorem zeros_string (W : World) (m : Nat) (hm : m ≤ 1000) :
    (convert 42 9 (.slice (some ⟨W.heap.size, 0, none⟩) m m)).run Try.prog (W.alloc (.cells (madeCells #[.int .u8 0] m) 5)) = .ok (.string (strOfNums (List.replicate m 0))) (W.alloc (.cells (madeCells #[.int .u8 0] m) 5)) := by
  have ho := own_made' W W.heap.size 5 .u8 m (Nat.le_refl _) (by omega)
  have e1 : (List.replicate m (0 : Int)).length = m := by simp
  obtain ⟨A, c, he, hl, hC⟩ := Kd.R_reads (Kd.R_of_own (h1 := fun _ => rfl) (enc := Value.int .u8) (xs := List.replicate m (0 : Int)) (ok := fun _ => True) (by rw [e1]; rwa [e1] at ho) (fun _ _ => trivial))
  rw [e1] at he hC
  cases he
  exact Kd.C_string Try.underlying42 Try.underlying5 Try.underlying9 hC
theorem zeros_size (m : Nat) : (strOfNums (List.replicate m 0)).size = m := by simp [strOfNums, ByteArray.size]
theorem own_cells {w : World} {base g c : Nat} {a b : Int} (h : w.ownsRow base 3 1 (.slice (some ⟨g, 0, none⟩) 2 c) 2 [.int .i64 a, .int .i64 b]) : w.cell? ⟨g, 0, none⟩ = some (.int .i64 a) ∧ w.cell? ⟨g, 1, none⟩ = some (.int .i64 b) ∧ ∀ i, w.frozen? ⟨g, i, none⟩ = false := by
  have r := Kd.R_of_own (h1 := fun _ => rfl) (enc := Value.int .i64) (xs := [a, b]) (ok := fun _ => True) h (fun _ _ => trivial)
  rcases h.2 with ⟨h0, _⟩ | ⟨g', cap, cur, he, _, hh, _⟩
  · cases h0
  · cases he
    exact ⟨(Kd.R_cell (h1 := fun _ => rfl) (enc := Value.int .i64) (0 : Int) r 0 (by simp) (by simp)).1, (Kd.R_cell (h1 := fun _ => rfl) (enc := Value.int .i64) (0 : Int) r 1 (by simp) (by simp)).1, fun i => blk_frozen hh i⟩
theorem own_setO {w : World} {base n : Nat} {v : Value} {xs : List Value} (h : w.ownsRow base 3 1 v n xs) {o : Nat} {cells : Array Value} (hb : w.heap[o]? = some (.cells cells 29 (0, 0))) (i : Nat) (u : Value) : (w.setCell ⟨o, i, none⟩ u).ownsRow base 3 1 v n xs :=
  own_move h (fun k hk => Below.heap_setCell w ⟨o, i, none⟩ u k (own_far h hb (by decide) k hk))
theorem lists_own {w : World} {base g c : Nat} {xs : List Int} {B : Option Addr} {d : Nat} (h : w.ownsRow base 3 1 (.slice (some ⟨g, 0, none⟩) xs.length c) xs.length (xs.map (Value.int .i64))) : Lists w (some ⟨g, 0, none⟩) xs.length c xs B 0 d [] := by
  obtain ⟨A, c', he, hl, hC⟩ := Kd.R_reads (Kd.R_of_own (h1 := fun _ => rfl) (xs := xs) (ok := fun _ => True) h (fun _ _ => trivial))
  cases he
  exact ⟨⟨rfl, rfl⟩, ⟨hC, hl⟩, ⟨rfl, by simp, fun h => absurd h (Nat.lt_irrefl 0)⟩, Nat.zero_le _⟩
theorem own_put2 {w : World} {base g c : Nat} {a b : Int} (h : w.ownsRow base 3 1 (.slice (some ⟨g, 0, none⟩) 2 c) 2 [.int .i64 a, .int .i64 b]) (x : Int) : (w.setCell ⟨g, 1, none⟩ (.int .i64 x)).ownsRow base 3 1 (.slice (some ⟨g, 0, none⟩) 2 c) 2 [.int .i64 a, .int .i64 x] :=
  Kd.own_of_R (Kd.R_put (h1 := fun _ => rfl) (enc := Value.int .i64) (Kd.R_of_own (xs := [a, b]) (ok := fun _ => True) h (fun _ _ => trivial)) 1 x).1
theorem own_put1 {w : World} {base g c : Nat} {a b : Int} (h : w.ownsRow base 3 1 (.slice (some ⟨g, 0, none⟩) 2 c) 2 [.int .i64 a, .int .i64 b]) (x : Int) : (w.setCell ⟨g, 0, none⟩ (.int .i64 x)).ownsRow base 3 1 (.slice (some ⟨g, 0, none⟩) 2 c) 2 [.int .i64 x, .int .i64 b] :=
  Kd.own_of_R (Kd.R_put (h1 := fun _ => rfl) (enc := Value.int .i64) (Kd.R_of_own (xs := [a, b]) (ok := fun _ => True) h (fun _ _ => trivial)) 0 x).1
theorem rest14 (a : Int) : 0 ≤ (IntKind.u64.wrap a).tmod 14 ∧ (IntKind.u64.wrap a).tmod 14 < 14 := by
  have e : Int.tmod (IntKind.u64.wrap a) 14 = (IntKind.u64.wrap a) % 14 := by rw [IntKind.wrap_u64]; exact tmod_of_emod _ _
  rw [e]; omega
set_option maxHeartbeats 8000000 in
set_option maxRecDepth 100000 in
theorem forms_any (a0 a1 : Int) (w : World) : Calls Try.prog 4 #[.int .i64 a0, .int .i64 a1] w fun e w' => e = .returned (.bool true) ∧ Below w.heap.size w w' := by
  go_enter Try.func4, Try.ntmps4
  go_wp2_with fail
  refine (awake_any _).mono ?_
  rintro e w1 ⟨rfl, hb1⟩
  have BB1 := Aside0.mk hb1; clear hb1
  go_wp2_with fail
  refine (one4_any _).mono ?_
  rintro e w3 ⟨g, c3, B3, d3, rfl, hown, hC13, hb3⟩
  have HW1 : Aside0 (w.heap.size ≤ w1.heap.size) := ⟨BB1.out.size⟩
  have GG : Aside0 (w.heap.size ≤ g) := ⟨Nat.le_trans BB1.out.size (own_base hown g rfl)⟩
  have HOWN := Aside0.mk hown; have BB3 := Aside0.mk (below_step BB1.out hb3); clear hown hC13 hb3 BB1
  have GO' : Aside0 (w.heap.size ≤ w3.heap.size) := ⟨BB3.out.size⟩
  go_upto_block 0 with (first | (refine wpList_store_row rfl 29 _ _ rfl w3.heap.size _ rfl rfl 29 _ (heap_alloc_new w3 _) (by kernel_rfl) (by rfl) (by simp [Value.oneCell']) ?_; obtain ⟨o, ho⟩ : ∃ o, o = w3.heap.size := ⟨_, rfl⟩; rw [← ho] at GO'; have hN4 := fun cs => new_row w3 cs; rw [← ho] at hN4 ⊢; generalize hW4 : (w3.alloc (Obj.cells #[.int .i64 0, .int .i64 0, .int .i64 0, .slice none 0 0, .int .i64 0, .string ⟨#[]⟩, .string ⟨#[]⟩, .string ⟨#[]⟩, .string ⟨#[]⟩, .int .i64 0, .int .i64 0, .int .i64 0, .int .i64 0, .slice none 0 0] 29)).setRow o #[.int .i64 1, .int .i64 3, .int .i64 9, .slice (some ⟨g, 0, none⟩) 2 c3, .int .i64 4, .string ⟨#[84]⟩, .string ⟨#[105]⟩, .string ⟨#[102]⟩, .string ⟨#[118]⟩, .int .i64 0, .int .i64 0, .int .i64 0, .int .i64 1, .slice B3 0 d3] = w4; have h4 := hN4 #[.int .i64 1, .int .i64 3, .int .i64 9, .slice (some ⟨g, 0, none⟩) 2 c3, .int .i64 4, .string ⟨#[84]⟩, .string ⟨#[105]⟩, .string ⟨#[102]⟩, .string ⟨#[118]⟩, .int .i64 0, .int .i64 0, .int .i64 0, .int .i64 1, .slice B3 0 d3]; rw [hW4] at h4; have h42 : Below w3.heap.size w3 w4 := (by have := h4.2; rwa [ho] at this); have P4 := Aside0.mk h4.1; have BB4 := Aside0.mk (below_step BB3.out h42); have OWN4 := Aside0.mk (pw_own_below HOWN.out h42); have GO := GO'; clear hN4 hW4 h4 h42 ho GO') | fail "arm")
  obtain ⟨hm0, hm1⟩ := rest14 a0
  obtain ⟨hb0, hb1⟩ := mask63 a1
  have hw1 : wrap64 (1 + Go.bits .and .i64 a1 63) = 1 + Go.bits .and .i64 a1 63 := w64 (by omega) (by omega)
  rw [hw1]
  clear hw1
  obtain ⟨d, hd⟩ : ∃ d, d = 1 + Go.bits .and .i64 a1 63 := ⟨_, rfl⟩
  rw [← hd]
  have hd1 : 1 ≤ d := by omega
  have hd2 : d ≤ 64 := by omega
  clear hd
  generalize Go.bits .and .i64 a1 63 = b
  generalize (IntKind.u64.wrap a0).tmod 14 = m at hm0 hm1 ⊢
  clear hb0 hb1
  go_cut [] (fun wx => Aside0 (BadAt wx o) ∧ Aside0 (Below w.heap.size w wx))
  case first =>
    have hm : m = 0 ∨ m = 1 ∨ m = 2 ∨ m = 3 ∨ m = 4 ∨ m = 5 ∨ m = 6 ∨ m = 7 ∨ m = 8 ∨ m = 9 ∨ m = 10 ∨ m = 11 ∨ m = 12 ∨ m = 13 := by omega
    clear hm0 hm1 HOWN BB3
    have n1 : wrap64 (1 + d) = 1 + d := w64 (by omega) (by omega)
    have n2 : wrap64 (1 - d) = 1 - d := w64 (by omega) (by omega)
    have n3 : wrap64 (16777215 + d) = 16777215 + d := w64 (by omega) (by omega)
    have n4 : wrap64 (-d) = -d := w64 (by omega) (by omega)
    have n5 : wrap64 (2 + d) = 2 + d := w64 (by omega) (by omega)
    have n6 : wrap64 (5 + d) = 5 + d := w64 (by omega) (by omega)
    have n7 : wrap64 (256 + d) = 256 + d := w64 (by omega) (by omega)
    have N1 := Aside0.mk n1; have N2 := Aside0.mk n2; have N3 := Aside0.mk n3; have N4 := Aside0.mk n4; have N5 := Aside0.mk n5; have N6 := Aside0.mk n6; have N7 := Aside0.mk n7
    clear n1 n2 n3 n4 n5 n6 n7
    rcases hm with rfl | rfl | rfl | rfl | rfl | rfl | rfl | rfl | rfl | rfl | rfl | rfl | rfl | rfl
    · have hf := blk_frozen P4.out 0
      have hc := (blk_cell P4.out 0).trans rfl
      go_wp2_with fail
      go_meet
      case rel => exact ⟨⟨(1 + d), 3, 9, (some ⟨g, 0, none⟩), 2, c3, [4, 2], 4, ⟨#[84]⟩, ⟨#[105]⟩, ⟨#[102]⟩, ⟨#[118]⟩, 0, 0, 0, 1, B3, 0, d3, [], blk_put P4.out 0 _ rfl, lists_own (xs := [4, 2]) (own_setO OWN4.out P4.out 0 _), bad_dot (by simp [dotMayB]; omega)⟩, ⟨BB4.out.setCell (p := ⟨o, 0, none⟩) GO.out _⟩⟩
    · have hf := blk_frozen P4.out 1
      have hc := (blk_cell P4.out 1).trans rfl
      go_wp2_with fail
      go_meet
      case rel => exact ⟨⟨1, (1 - d), 9, (some ⟨g, 0, none⟩), 2, c3, [4, 2], 4, ⟨#[84]⟩, ⟨#[105]⟩, ⟨#[102]⟩, ⟨#[118]⟩, 0, 0, 0, 1, B3, 0, d3, [], blk_put P4.out 1 _ rfl, lists_own (xs := [4, 2]) (own_setO OWN4.out P4.out 1 _), bad_dot (by simp [dotMayB]; omega)⟩, ⟨BB4.out.setCell (p := ⟨o, 1, none⟩) GO.out _⟩⟩
    · have hf := blk_frozen P4.out 2
      have hc := (blk_cell P4.out 2).trans rfl
      go_wp2_with fail
      go_meet
      case rel => exact ⟨⟨1, 3, (1 - d), (some ⟨g, 0, none⟩), 2, c3, [4, 2], 4, ⟨#[84]⟩, ⟨#[105]⟩, ⟨#[102]⟩, ⟨#[118]⟩, 0, 0, 0, 1, B3, 0, d3, [], blk_put P4.out 2 _ rfl, lists_own (xs := [4, 2]) (own_setO OWN4.out P4.out 2 _), bad_time (by simp [timeB]; omega)⟩, ⟨BB4.out.setCell (p := ⟨o, 2, none⟩) GO.out _⟩⟩
    · have hf := blk_frozen P4.out 2
      have hc := (blk_cell P4.out 2).trans rfl
      go_wp2_with fail
      go_meet
      case rel => exact ⟨⟨1, 3, (16777215 + d), (some ⟨g, 0, none⟩), 2, c3, [4, 2], 4, ⟨#[84]⟩, ⟨#[105]⟩, ⟨#[102]⟩, ⟨#[118]⟩, 0, 0, 0, 1, B3, 0, d3, [], blk_put P4.out 2 _ rfl, lists_own (xs := [4, 2]) (own_setO OWN4.out P4.out 2 _), bad_time (by simp [timeB]; omega)⟩, ⟨BB4.out.setCell (p := ⟨o, 2, none⟩) GO.out _⟩⟩
    · have hl3 := (blk_cell P4.out 3).trans rfl
      have hneo : some o ≠ Value.ownBlock (.slice (some ⟨g, 0, none⟩) 2 c3) := fun e => own_far OWN4.out P4.out (by decide) o e.symm rfl
      have Hneo := Aside0.mk hneo; clear hneo
      have HR4 : Aside0 (Kd.R (Kd.int .i64) 3 w4 w.heap.size (fun _ => True) (.slice (some ⟨g, 0, none⟩) 2 c3) [4, 2]) := ⟨Kd.R_lower (Kd.R_of_own (h1 := fun _ => rfl) (enc := Value.int .i64) (xs := [4, 2]) (ok := fun _ => True) OWN4.out (fun _ _ => trivial)) HW1.out⟩
      go_wp2_with (first | ((with_reducible refine gate_builtin (b := .append) (xs := #[.tmp 48, .tmp 49]) rfl ?_); at_builtin; refine Kd.R_append (Kd.int .i64) (w0 := w) w.heap.size rfl (.tmp 48) (.tmp 49) 24 3 (.int .i64 0) 8 rfl Try.underlying24 info3 rfl (by decide) (by omega) (.slice (some ⟨g, 0, none⟩) 2 c3) [4, 2] 0 [.int .i64 0] (fun _ => True) (fun _ => False) rfl rfl (by exact rfl) (fun _ hk => hk.elim) (fun _ _ => trivial) HR4.out BB4.out (by exact BB4.out.size) (by decide) ?_; intro v1 w5 ho5 hb5 hg5 hat5; obtain ⟨A5, c5, rfl, hl5, hC5⟩ := Kd.R_reads ho5; have hP5 := blk_grown P4.out hg5 Hneo.out; have hd5 := (blk_cell hP5 3).trans rfl; have hf5 := blk_frozen hP5 3; have hR6 := Kd.R_set ho5 hP5 (by intro q hq; simp [Kd.int, Kd.scalar] at hq; omega) 3 (.slice A5 3 c5); have P5 := Aside0.mk hP5; have R6 := Aside0.mk hR6; have BB5 := Aside0.mk hb5; clear hP5 hg5 hat5 hR6 ho5 hb5 hl5 hC5) | fail "arm")
      go_meet
      case rel =>
        obtain ⟨A6, c6, he6, hl6, hC6⟩ := Kd.R_reads R6.out
        cases he6
        exact ⟨⟨1, 3, 9, A5, 3, c5, [4, 2, 0], 4, ⟨#[84]⟩, ⟨#[105]⟩, ⟨#[102]⟩, ⟨#[118]⟩, 0, 0, 0, 1, B3, 0, d3, [], blk_put P5.out 3 _ rfl, ⟨⟨rfl, rfl⟩, ⟨hC6, hl6⟩, ⟨rfl, by simp, fun h => absurd h (Nat.lt_irrefl 0)⟩, Nat.zero_le _⟩, bad_vec (by decide +kernel)⟩, ⟨BB5.out.setCell (p := ⟨o, 3, none⟩) GO.out _⟩⟩
    · have hl3 := (blk_cell P4.out 3).trans rfl
      have hce := own_cells OWN4.out
      have hce0 := hce.1; have hce1 := hce.2.1; have hfe := hce.2.2; clear hce
      go_wp2_with fail
      all_goals (go_meet)
      case rel => exact ⟨⟨1, 3, 9, (some ⟨g, 0, none⟩), 2, c3, [-d, 2], 4, ⟨#[84]⟩, ⟨#[105]⟩, ⟨#[102]⟩, ⟨#[118]⟩, 0, 0, 0, 1, B3, 0, d3, [], blk_far P4.out (p := ⟨g, 0, none⟩) (fun e => own_far OWN4.out P4.out (by decide) g rfl e.symm) _, lists_own (xs := [-d, 2]) (own_put1 OWN4.out _), bad_vec (by simp [vecMayB, seqB]; omega)⟩, ⟨BB4.out.setCell (p := ⟨g, 0, none⟩) GG.out _⟩⟩
    · have hl3 := (blk_cell P4.out 3).trans rfl
      have hce := own_cells OWN4.out
      have hce0 := hce.1; have hce1 := hce.2.1; have hfe := hce.2.2; clear hce
      go_wp2_with fail
      all_goals (go_meet)
      case rel => exact ⟨⟨1, 3, 9, (some ⟨g, 0, none⟩), 2, c3, [4, 2 + d], 4, ⟨#[84]⟩, ⟨#[105]⟩, ⟨#[102]⟩, ⟨#[118]⟩, 0, 0, 0, 1, B3, 0, d3, [], blk_far P4.out (p := ⟨g, 1, none⟩) (fun e => own_far OWN4.out P4.out (by decide) g rfl e.symm) _, lists_own (xs := [4, 2 + d]) (own_put2 OWN4.out _), bad_rd (by simp [rd]; omega)⟩, ⟨BB4.out.setCell (p := ⟨g, 1, none⟩) GG.out _⟩⟩
    · have hf := blk_frozen P4.out 4
      have hc := (blk_cell P4.out 4).trans rfl
      go_wp2_with fail
      go_meet
      case rel => exact ⟨⟨1, 3, 9, (some ⟨g, 0, none⟩), 2, c3, [4, 2], (5 + d), ⟨#[84]⟩, ⟨#[105]⟩, ⟨#[102]⟩, ⟨#[118]⟩, 0, 0, 0, 1, B3, 0, d3, [], blk_put P4.out 4 _ rfl, lists_own (xs := [4, 2]) (own_setO OWN4.out P4.out 4 _), bad_own (own_off (by omega))⟩, ⟨BB4.out.setCell (p := ⟨o, 4, none⟩) GO.out _⟩⟩
    · have hf := blk_frozen P4.out 4
      have hc := (blk_cell P4.out 4).trans rfl
      go_wp2_with fail
      go_meet
      case rel => exact ⟨⟨1, 3, 9, (some ⟨g, 0, none⟩), 2, c3, [4, 2], (-d), ⟨#[84]⟩, ⟨#[105]⟩, ⟨#[102]⟩, ⟨#[118]⟩, 0, 0, 0, 1, B3, 0, d3, [], blk_put P4.out 4 _ rfl, lists_own (xs := [4, 2]) (own_setO OWN4.out P4.out 4 _), bad_own (own_off (by omega))⟩, ⟨BB4.out.setCell (p := ⟨o, 4, none⟩) GO.out _⟩⟩
    · have hf := blk_frozen P4.out 5
      have hc := (blk_cell P4.out 5).trans rfl
      go_wp2_with fail
      go_meet
      case rel => exact ⟨⟨1, 3, 9, (some ⟨g, 0, none⟩), 2, c3, [4, 2], 4, ⟨#[49, 120]⟩, ⟨#[105]⟩, ⟨#[102]⟩, ⟨#[118]⟩, 0, 0, 0, 1, B3, 0, d3, [], blk_put P4.out 5 _ rfl, lists_own (xs := [4, 2]) (own_setO OWN4.out P4.out 5 _), bad_ty (by decide +kernel)⟩, ⟨BB4.out.setCell (p := ⟨o, 5, none⟩) GO.out _⟩⟩
    · have hf := blk_frozen P4.out 7
      have hc := (blk_cell P4.out 7).trans rfl
      go_wp2_with fail
      go_meet
      case rel => exact ⟨⟨1, 3, 9, (some ⟨g, 0, none⟩), 2, c3, [4, 2], 4, ⟨#[84]⟩, ⟨#[105]⟩, ⟨#[]⟩, ⟨#[118]⟩, 0, 0, 0, 1, B3, 0, d3, [], blk_put P4.out 7 _ rfl, lists_own (xs := [4, 2]) (own_setO OWN4.out P4.out 7 _), bad_fl (by decide +kernel)⟩, ⟨BB4.out.setCell (p := ⟨o, 7, none⟩) GO.out _⟩⟩
    · have hf := blk_frozen P4.out 6
      have hc := (blk_cell P4.out 6).trans rfl
      go_wp2_with fail
      go_meet
      case rel => exact ⟨⟨1, 3, 9, (some ⟨g, 0, none⟩), 2, c3, [4, 2], 4, ⟨#[84]⟩, ⟨#[]⟩, ⟨#[102]⟩, ⟨#[118]⟩, 0, 0, 0, 1, B3, 0, d3, [], blk_put P4.out 6 _ rfl, lists_own (xs := [4, 2]) (own_setO OWN4.out P4.out 6 _), bad_id (by decide +kernel)⟩, ⟨BB4.out.setCell (p := ⟨o, 6, none⟩) GO.out _⟩⟩
    · have hf := blk_frozen (blk_alloc P4.out (.cells (madeCells #[.int .u8 0] (256 + d).toNat) 5)) 6
      have hc := (blk_cell (blk_alloc P4.out (.cells (madeCells #[.int .u8 0] (256 + d).toNat) 5)) 6).trans rfl
      have hmk := print_make_int (P := Try.prog) 42 5 (.int .u8 0) 1 Try.underlying42 info5 rfl (by decide) (256 + d) (by omega) (by omega)
      have hcv := zeros_string w4 (256 + d).toNat (by omega)
      go_wp2_with fail
      go_meet
      case rel => exact ⟨⟨1, 3, 9, (some ⟨g, 0, none⟩), 2, c3, [4, 2], 4, ⟨#[84]⟩, (strOfNums (List.replicate (256 + d).toNat 0)), ⟨#[102]⟩, ⟨#[118]⟩, 0, 0, 0, 1, B3, 0, d3, [], blk_put (blk_alloc P4.out _) 6 _ rfl, lists_own (xs := [4, 2]) (own_setO (OWN4.out.alloc _) (blk_alloc P4.out _) 6 _), bad_id (id_long (by rw [zeros_size]; omega))⟩, ⟨(below_alloc BB4.out _).setCell (p := ⟨o, 6, none⟩) GO.out _⟩⟩
    · have hf := blk_frozen (blk_alloc P4.out (.cells (madeCells #[.int .u8 0] (256 + d).toNat) 5)) 8
      have hc := (blk_cell (blk_alloc P4.out (.cells (madeCells #[.int .u8 0] (256 + d).toNat) 5)) 8).trans rfl
      have hmk := print_make_int (P := Try.prog) 42 5 (.int .u8 0) 1 Try.underlying42 info5 rfl (by decide) (256 + d) (by omega) (by omega)
      have hcv := zeros_string w4 (256 + d).toNat (by omega)
      go_wp2_with fail
      go_meet
      case rel => exact ⟨⟨1, 3, 9, (some ⟨g, 0, none⟩), 2, c3, [4, 2], 4, ⟨#[84]⟩, ⟨#[105]⟩, ⟨#[102]⟩, (strOfNums (List.replicate (256 + d).toNat 0)), 0, 0, 0, 1, B3, 0, d3, [], blk_put (blk_alloc P4.out _) 8 _ rfl, lists_own (xs := [4, 2]) (own_setO (OWN4.out.alloc _) (blk_alloc P4.out _) 8 _), bad_own (own_long (by rw [zeros_size]; omega))⟩, ⟨(below_alloc BB4.out _).setCell (p := ⟨o, 8, none⟩) GO.out _⟩⟩
  case rest =>
    clear hm0 hm1 hd1 hd2 P4 OWN4 BB4 HOWN BB3 GG HW1 GO
    obtain ⟨⟨d0, d1, t, A, n, c, deps, k, ty, id_, fl, val, n0, n1, r0, r1, B, m', e', ds, hOp, hL, hbad⟩⟩ := hcut.1
    have HB5 := hcut.2
    have HOP5 := Aside0.mk hOp; have HL5 := Aside0.mk hL; have HBAD := Aside0.mk hbad; clear hOp hL hbad hcut
    go_wp2_with (refine wpList_load_row rfl 29 _ rfl o rfl 29 _ (0, 0) _ HOP5.out Try.underlying29 rfl (by kernel_rfl) ?_)
    refine (putBad_at HL5.out HBAD.out).mono ?_
    rintro e w6 ⟨rfl, hb6⟩
    have HL6 := Aside0.mk (HL5.out.below hb6); have HB6 := Aside0.mk (below_step HB5.out hb6); have HOP6 := Aside0.mk (blk_below HOP5.out hb6)
    clear hb6 HL5 HB5 HOP5
    go_wp2_with (refine wpList_load_row rfl 29 _ rfl o rfl 29 _ (0, 0) _ HOP6.out Try.underlying29 rfl (by kernel_rfl) ?_)
    refine (may_at (b := false) HL6.out HBAD.out).mono ?_
    rintro e w7 ⟨rfl, hb7⟩
    have HL7 := Aside0.mk (HL6.out.below hb7); have HB7 := Aside0.mk (below_step HB6.out hb7); have HOP7 := Aside0.mk (blk_below HOP6.out hb7)
    clear hb7 HL6 HB6 HOP6
    go_wp2_with fail
    refine (num_b 1100 _).mono ?_
    rintro e w8 ⟨rfl, hb8⟩
    have HL8 := Aside0.mk (HL7.out.below hb8); have HB8 := Aside0.mk (below_step HB7.out hb8); have HOP8 := Aside0.mk (blk_below HOP7.out hb8)
    clear hb8 HL7 HB7 HOP7
    go_wp2_with fail
    refine (one4_any _).mono ?_
    rintro e w9 ⟨g9, c9, B9, e9, rfl, hown, hC, hb9⟩
    have HL9 := Aside0.mk (HL8.out.below hb9); have HB9 := Aside0.mk (below_step HB8.out hb9); have HOP9 := Aside0.mk (blk_below HOP8.out hb9)
    have HW9 := Aside0.mk hown; clear hown hC
    clear hb9 HL8 HB8 HOP8
    go_wp2_with fail
    refine (may_at (b := true) (lists_own (xs := [4, 2]) HW9.out) (by decide +kernel)).mono ?_
    rintro e w10 ⟨rfl, hb10⟩
    have HL10 := Aside0.mk (HL9.out.below hb10); have HB10 := Aside0.mk (below_step HB9.out hb10); have HOP10 := Aside0.mk (blk_below HOP9.out hb10)
    clear hb10 HL9 HB9 HOP9
    go_wp2_with fail
    refine (one4_any _).mono ?_
    rintro e w11 ⟨g11, c11, B11, e11, rfl, hown, hC, hb11⟩
    have HL11 := Aside0.mk (HL10.out.below hb11); have HB11 := Aside0.mk (below_step HB10.out hb11); have HOP11 := Aside0.mk (blk_below HOP10.out hb11)
    have HW11 := Aside0.mk hown; clear hown hC
    clear hb11 HL10 HB10 HOP10
    go_wp2_with fail
    refine (may_at (b := false) (lists_own (xs := [4, 2]) HW11.out) (by decide +kernel)).mono ?_
    rintro e w12 ⟨rfl, hb12⟩
    have HL12 := Aside0.mk (HL11.out.below hb12); have HB12 := Aside0.mk (below_step HB11.out hb12); have HOP12 := Aside0.mk (blk_below HOP11.out hb12)
    clear hb12 HL11 HB11 HOP11
    go_wp2_with fail
    go_ret
    exact ⟨rfl, HB12.out⟩
end Go.Proofs.Ytaaaeonalomcgaa.Q
