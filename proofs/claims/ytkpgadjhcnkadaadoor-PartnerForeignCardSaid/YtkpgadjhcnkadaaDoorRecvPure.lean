/- partner.Receive as a plain function. -/
import Derived.Test.YtkpgadjhcnkadaaDoorRecvFns
set_option linter.unusedSimpArgs false
set_option linter.unusedVariables false
namespace Go.Proofs.YtkpgadjhcnkadaaDoor
open Go.RowKit

def recvF (id : Int) (l : List (Int × Held)) (m : Msg) : Option Msg × List (Int × Held) :=
  if validM m = false ∨ m.partner ≠ id ∨ (m.kind ≠ 1 ∧ m.kind ≠ 2) then (none, l)
  else if m.seq < (mapAt l m.story).seq then (some (rejM id (mapAt l m.story).seq m.story (sumB (mapAt l m.story).text)), l)
  else if m.seq = (mapAt l m.story).seq then (some (ackM id m.seq m.story (sumB (mapAt l m.story).text)), l)
  else if m.kind = 2 then (some (ackM id m.seq m.story 0), mapPut l m.story ⟨m.seq, .empty, false⟩)
  else if (delivF (mapAt l m.story) m).2 = false then (some (rejM id m.seq m.story (sumB (mapAt l m.story).text)), l)
  else (some (ackM id m.seq m.story m.version), mapPut l m.story ⟨m.seq, (delivF (mapAt l m.story) m).1, true⟩)
end Go.Proofs.YtkpgadjhcnkadaaDoor
