/- LexTexts answers true. Condition: texts of at most 140737488351232 bytes. -/
import Derived.Test.YtapbpmpeikobcaaDoorHLaw3
import Derived.Test.YtapbpmpeikobcaaDoorHLex
set_option linter.unusedVariables false
set_option linter.unusedSimpArgs false
namespace Go.Proofs.YtapbpmpeikobcaaDoor.Q
open Go.RowKit Go.Proofs.YtapbpmpeikobcaaDoorW.PrintWords Go.Proofs.YtapbpmpeikobcaaDoorW.PrintLast Go.Proofs.YtapbpmpeikobcaaDoorW.PrintMore

def tkc (x : S37) : List Value := [.int .i64 x.f0, .string x.f1, .int .i64 x.f2, .int .i64 x.f3]
theorem flat4 {α : Type} (f : α → List Value) (hf : ∀ x, (f x).length = 4) : ∀ (xs : List α) (j i : Nat) (x : α), xs[j]? = some x → i < 4 → (xs.flatMap f)[j * 4 + i]? = (f x)[i]?
  | [], j, i, x, h, _ => by simp at h
  | y :: r, 0, i, x, h, hi => by
    simp at h; subst h
    rw [List.flatMap_cons, List.getElem?_append_left (by rw [hf]; omega)]; congr 1; omega
  | y :: r, j + 1, i, x, h, hi => by
    simp at h
    rw [List.flatMap_cons, List.getElem?_append_right (by rw [hf]; omega), hf]
    rw [show (j + 1) * 4 + i - 4 = j * 4 + i from by omega]
    exact flat4 f hf r j i x h hi
theorem C_toks {w : World} {b e : Nat} {xs : List S37} {cs : Array Value} {fr : Nat × Nat} (h : w.heap[b]? = some (.cells cs e fr)) (hcs : cs.toList = xs.flatMap tkc) (hl : xs.length ≤ 9223372036854775807) : Kd.C k37 w (some ⟨b, 0, none⟩) xs.length xs := by
  refine ⟨rfl, hl, fun _ => ⟨⟨b, 0, none⟩, rfl, fun j p hj => ⟨tkc p, rfl, k37_mk w p, fun i u hu => ?_⟩⟩⟩
  have hi : i < 4 := by have := (List.getElem?_eq_some_iff.1 hu).1; exact this
  refine World.news_of_block h (j * 4 + i) _ ?_
  rw [hcs, flat4 tkc (fun _ => rfl) xs j i p hj hi]; exact hu
theorem same_any (xs : List S37) (A B : Option Addr) (c d : Nat) (w : World) (h1 : Kd.C k37 w A xs.length xs) (hc : xs.length ≤ c) (h2 : Kd.C k37 w B xs.length xs) (hd : xs.length ≤ d) :
    Calls Tryd.prog 10 #[.slice A xs.length c, .slice B xs.length d] w fun e w' => e = .returned (.bool true) ∧ Drawn0 w w' := by
  obtain ⟨k, hk⟩ := (same_ev xs h1.2.1).rounds
  exact tattlelaw0_SameTokens.calls k A c xs B d xs true w h1 hc h2 hd hk
theorem num_any (x : Int) (w : World) : Calls Tryd.prog 11 #[.int .i64 x] w fun e w' => e = .returned (.int .i64 x) ∧ Drawn0 w w' := tattlelaw0_Num.calls x x w rfl
theorem texts_big (s t : ByteArray) (w : World) (h : 256 < s.size ∨ 256 < t.size) : Calls Tryd.prog 7 #[.string s, .string t] w fun e w' => e = .returned (.bool true) ∧ Below w.heap.size w w' := by
  by_cases h1 : 256 < s.size
  · clear h
    go_enter Tryd.func7, Tryd.ntmps7
    go_wp2_with fail
    refine (awake_any _).mono ?_
    rintro e w1 ⟨rfl, hb⟩
    have HB := Aside0.mk hb; clear hb
    go_wp2_with fail
    go_ret
    exact ⟨rfl, HB.out⟩
  · have h2 : 256 < t.size := by omega
    have h3 : s.size ≤ 256 := by omega
    clear h h1
    go_enter Tryd.func7, Tryd.ntmps7
    go_wp2_with fail
    refine (awake_any _).mono ?_
    rintro e w1 ⟨rfl, hb⟩
    have HB := Aside0.mk hb; clear hb
    go_wp2_with fail
    go_ret
    exact ⟨rfl, HB.out⟩
set_option maxRecDepth 20000 in
theorem texts_small (s t : ByteArray) (w : World) (hs : s.size ≤ 256) (ht : t.size ≤ 256) : Calls Tryd.prog 7 #[.string s, .string t] w fun e w' => e = .returned (.bool true) ∧ Below w.heap.size w w' := by
  obtain ⟨a, ha⟩ : ∃ a, ba (wrT (bs s)) = a := ⟨_, rfl⟩
  obtain ⟨b, hb⟩ : ∃ b, ba (wrT (bs t)) = b := ⟨_, rfl⟩
  have hws := written_text s 0 0
  have hwt := written_text t 0 0
  rw [ha] at hws
  rw [hb] at hwt
  have hla : a.size ≤ 514 := by rw [← ha, ba_size]; have := wrT_len (bs s); rw [bs_length] at this; omega
  have hlb : b.size ≤ 514 := by rw [← hb, ba_size]; have := wrT_len (bs t); rw [bs_length] at this; omega
  obtain ⟨T, hT⟩ : ∃ T : List S37, [⟨2, s, 0, 0⟩, ⟨2, t, 0, (a.size : Int)⟩, ⟨0, ⟨#[120]⟩, 0, (a.size : Int) + b.size⟩] = T := ⟨_, rfl⟩
  have htok : lex_Tokens.f (a ++ b ++ (⟨#[120]⟩ : ByteArray)) = some (T, 0) := by
    have e : bs (a ++ b ++ (⟨#[120]⟩ : ByteArray)) = wrT (bs s) ++ wrT (bs t) ++ [120] := by
      rw [← ha, ← hb, show (⟨#[120]⟩ : ByteArray) = ba [120] from rfl, ba_append, ba_append, bs_ba]
    unfold lex_Tokens.f
    rw [e, tokens_texts _ _ (by rw [bs_length]; exact hs) (by rw [bs_length]; exact ht)]
    simp only [List.map_cons, List.map_nil, tk, ba_bs]
    rw [← hT, ← ha, ← hb, ba_size, ba_size]
    rfl
  have HWs := Aside0.mk hws; have HWt := Aside0.mk hwt; have HTk := Aside0.mk htok; have HT := Aside0.mk hT; clear ha hb hws hwt htok hT
  go_enter Tryd.func7, Tryd.ntmps7
  go_wp2_with fail
  refine (awake_any _).mono ?_
  rintro e w1 ⟨rfl, hb⟩
  have HB := Aside0.mk hb; clear hb
  go_wp2_with fail
  refine (HWs.out w1 (by omega)).mono ?_
  rintro e w2 ⟨rfl, hb⟩
  have HB2 := Aside0.mk (HB.out.trans (hb.mono HB.out.size)); clear hb HB
  go_wp2_with fail
  refine (HWt.out w2 (by omega)).mono ?_
  rintro e w3 ⟨rfl, hb⟩
  have HB3 := Aside0.mk (HB2.out.trans (hb.mono HB2.out.size)); clear hb HB2
  go_wp2_with fail
  refine (lex_Tokens.calls _ _ _ w3 HTk.out).mono ?_
  rintro e w4 ⟨v, rfl, hO, hb⟩
  obtain ⟨A, c, hv⟩ := Kd.R_slice hO
  have hT3 : T.length = 3 := by rw [← HT.out]; rfl
  rw [hT3] at hv
  subst hv
  have HT3 := Aside0.mk hT3; clear hT3
  have HB4 := Aside0.mk (HB3.out.trans (hb.mono HB3.out.size)); have HO := Aside0.mk hO; clear hb HB3 hO
  go_wp2_with fail
  refine (num_any _ _).mono ?_
  rintro e w5 ⟨rfl, ⟨n, rfl⟩⟩
  have hr := Kd.R_reads' HO.out
  have hblk := heap_alloc_new w4 (.cells #[.int .i64 2, .string s, .int .i64 0, .int .i64 0, .int .i64 2, .string t, .int .i64 0, .int .i64 (a.size : Int), .int .i64 0, .string ⟨#[120]⟩, .int .i64 0, .int .i64 ((a.size : Int) + (b.size : Int))] 37)
  have hb5 : Below w4.heap.size w4 ((w4.alloc (.cells #[.int .i64 2, .string s, .int .i64 0, .int .i64 0, .int .i64 2, .string t, .int .i64 0, .int .i64 (a.size : Int), .int .i64 0, .string ⟨#[120]⟩, .int .i64 0, .int .i64 ((a.size : Int) + (b.size : Int))] 37)).drewN n) := pw_below_drewN ((Below.refl _ _).alloc (Nat.le_refl _) _) n
  have hsame := same_any T A (some ⟨w4.heap.size, 0, none⟩) c 3 ((w4.alloc (.cells #[.int .i64 2, .string s, .int .i64 0, .int .i64 0, .int .i64 2, .string t, .int .i64 0, .int .i64 (a.size : Int), .int .i64 0, .string ⟨#[120]⟩, .int .i64 0, .int .i64 ((a.size : Int) + (b.size : Int))] 37)).drewN n)
    (Kd.C_below hr.2.2 hb5) (by rw [HT3.out]; exact hr.2.1) (C_toks (w := ((w4.alloc _).drewN n)) hblk (by rw [← HT.out]; rfl) (by rw [HT3.out]; decide)) (by rw [HT3.out]; exact Nat.le_refl 3)
  rw [HT3.out] at hsame
  have HS := Aside0.mk hsame; clear hsame hr hblk hb5
  go_wp2_with fail
  refine (HS.out).mono ?_
  rintro e w6 ⟨rfl, ⟨m, rfl⟩⟩
  go_wp2_with fail
  go_ret
  exact ⟨rfl, pw_below_drewN (HB4.out.alloc HB4.out.size _) (n + m)⟩
theorem texts_walk (s t : ByteArray) (w : World) (h1 : s.size ≤ 140737488351232) (h2 : t.size ≤ 140737488351232) : Calls Tryd.prog 7 #[.string s, .string t] w fun e w' => e = .returned (.bool true) ∧ Below w.heap.size w w' := by
  by_cases h : 256 < s.size ∨ 256 < t.size
  · exact texts_big s t w h
  · exact texts_small s t w (by omega) (by omega)
end Go.Proofs.YtapbpmpeikobcaaDoor.Q
