/- The program's plain data, as Lean types; how their values stand in cells (printed by pr.py). -/
import Derived.Test.YtnenodamppageaaArr
import Derived.Test.YtnenodamppageaaSrt
namespace Go.Proofs.Ytnenodamppageaa
open Go Go.Proofs.Ytnenodamppageaa.AM
structure ApiTok where
  Kind : Int
  Ch : Int
  At : Int
  deriving DecidableEq
instance : Inhabited ApiTok := ⟨⟨0, 0, 0⟩⟩
@[push_cast] def ApiTok.enc (x : ApiTok) : List AV := [aint x.Kind, .val (.int .u8 x.Ch), aint x.At]
structure Stylusref33Word where
  At : Int
  Text : ByteArray
  deriving DecidableEq
instance : Inhabited Stylusref33Word := ⟨⟨0, ByteArray.mk #[]⟩⟩
@[push_cast] def Stylusref33Word.enc (x : Stylusref33Word) : List AV := [aint x.At, astr x.Text]
end Go.Proofs.Ytnenodamppageaa
