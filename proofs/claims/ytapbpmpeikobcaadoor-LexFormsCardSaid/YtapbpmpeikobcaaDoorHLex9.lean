/- What the lexer's all leaves: all tokens, or the first error. Condition: a text of at most 65536 bytes. -/
import Derived.Test.YtapbpmpeikobcaaDoorHLex8
set_option linter.unusedVariables false
set_option linter.unusedSimpArgs false
namespace Go.Proofs.YtapbpmpeikobcaaDoor.Q
open Go.RowKit Go.Proofs.YtapbpmpeikobcaaDoorW.PrintWords Go.Proofs.YtapbpmpeikobcaaDoorW.PrintLast Go.Proofs.YtapbpmpeikobcaaDoorW.PrintMore

theorem token_any (B g : Nat) (s : ByteArray) (p : Nat) (ts : List Lx.Tok) (w : World) (hs : s.size ≤ 70000) (h : LxSt B w g s p ts) (hl : ts.length ≤ 70000) (hp : p < s.size) :
    Calls Tryd.prog 24 #[.pointer (some ⟨g, 0, none⟩)] w (TokPost B w g s p ts (Lx.token ((bs s).drop p))) := by
  cases hf : Lx.isFirst s[p] with
  | true =>
    by_cases hn : Lx.run Lx.isWord ((bs s).drop p) ≤ 32
    · exact token_name B g s p ts w hs h hl hp hf hn
    · exact token_nameX B g s p ts w hs h hl hp hf hn
  | false =>
    by_cases h45 : (s[p]).toNat = 45
    · by_cases hz : Lx.run Lx.isDigit ((bs s).drop (p + 1)) = 0
      · exact token_num_neg_none B g s p ts w hs h hl hp hf h45 hz
      · by_cases h15 : 15 < Lx.run Lx.isDigit ((bs s).drop (p + 1))
        · exact token_num_neg_long B g s p ts w hs h hl hp hf h45 hz h15
        · by_cases hw : 0 < Lx.run Lx.isWord ((bs s).drop ((p + 1) + Lx.run Lx.isDigit ((bs s).drop (p + 1))))
          · exact token_num_neg_word B g s p ts w hs h hl hp hf h45 hz h15 hw
          · exact token_num_neg_ok B g s p ts w hs h hl hp hf h45 hz h15 hw
    · cases hdg : Lx.isDigit s[p] with
      | true =>
        have hz : ¬ Lx.run Lx.isDigit ((bs s).drop p) = 0 := by rw [bs_drop s p hp, Lx.run_yes hdg]; omega
        by_cases h15 : 15 < Lx.run Lx.isDigit ((bs s).drop p)
        · exact token_num_pos_long B g s p ts w hs h hl hp hf h45 hdg hz h15
        · by_cases hw : 0 < Lx.run Lx.isWord ((bs s).drop (p + Lx.run Lx.isDigit ((bs s).drop p)))
          · exact token_num_pos_word B g s p ts w hs h hl hp hf h45 hdg hz h15 hw
          · exact token_num_pos_ok B g s p ts w hs h hl hp hf h45 hdg hz h15 hw
      | false =>
        by_cases h34 : (s[p]).toNat = 34
        · cases hu : Lx.unesc ((bs s).drop (p + 1)) with
          | none => exact token_text_none B g s p ts w hs h hl hp hf h45 hdg h34 hu
          | some q =>
            obtain ⟨o, k⟩ := q
            by_cases ho : o.length ≤ 256
            · exact token_text_ok B g s p ts w hs h hl hp hf h45 hdg h34 o k hu ho
            · exact token_text_long B g s p ts w hs h hl hp hf h45 hdg h34 o k hu ho
        · cases hmk : Lx.isMark s[p] with
          | true => exact token_mark B g s p ts w hs h hl hp hf h45 hdg h34 hmk
          | false =>
            by_cases hdt : ((bs s).drop p).take 3 = [46, 46, 46]
            · exact token_dots B g s p ts w hs h hl hp hf h45 hdg h34 hmk hdt
            · exact token_none B g s p ts w hs h hl hp hf h45 hdg h34 hmk hdt
end Go.Proofs.YtapbpmpeikobcaaDoor.Q
