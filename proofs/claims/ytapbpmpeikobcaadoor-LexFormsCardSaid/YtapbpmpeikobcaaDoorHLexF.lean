/- What lex.Tokens answers, as a plain function of a text. No condition. -/
import Derived.Test.YtapbpmpeikobcaaDoorHSpec
import Derived.Test.YtapbpmpeikobcaaDoorQ0
set_option linter.unusedVariables false
namespace Go.Proofs.YtapbpmpeikobcaaDoor.Q
open Go.RowKit Go.Proofs.YtapbpmpeikobcaaDoorW.PrintWords Go.Proofs.YtapbpmpeikobcaaDoorW.PrintLast Go.Proofs.YtapbpmpeikobcaaDoorW.PrintMore

def bs (s : ByteArray) : List UInt8 := s.data.toList
def ba (l : List UInt8) : ByteArray := ⟨l.toArray⟩
theorem bs_length (s : ByteArray) : (bs s).length = s.size := by unfold bs; rw [Array.length_toList]; rfl
theorem bs_ba (l : List UInt8) : bs (ba l) = l := by simp [bs, ba]
theorem ba_bs (s : ByteArray) : ba (bs s) = s := by simp [bs, ba]
theorem ba_size (l : List UInt8) : (ba l).size = l.length := by simp [ba, ByteArray.size]
/-- A token as the machine holds it. -/
def tk (t : Lx.Tok) : S37 := ⟨t.kind, ba t.text, t.int, (t.pos : Int)⟩
def lex_Tokens.f (a0 : ByteArray) : Option ((List (S37)) × Int) :=
  some (match Lx.tokens (bs a0) with
    | .error e => ([], e)
    | .ok ts => (ts.map tk, 0))
end Go.Proofs.YtapbpmpeikobcaaDoor.Q
