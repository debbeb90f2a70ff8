/- The program's plain data, as Lean types; how their values stand in cells (printed by pr.py). -/
import Derived.Test.YtggcmnoacplbkaaDoorLid
namespace Go.Proofs.YtggcmnoacplbkaaDoor
open Go Go.Proofs.YtggcmnoacplbkaaDoor.AM
structure PatchReader where
  rest : ByteArray
  line : Int
  deriving DecidableEq
instance : Inhabited PatchReader := ⟨⟨ByteArray.mk #[], 0⟩⟩
@[push_cast] def PatchReader.enc (x : PatchReader) : List AV := [astr x.rest, aint x.line]
structure ApiChange where
  Page : Int
  Lines : List ByteArray
  deriving DecidableEq
instance : Inhabited ApiChange := ⟨⟨0, []⟩⟩
@[push_cast] def ApiChange.enc (x : ApiChange) : List AV := [aint x.Page, .isl 1 (x.Lines.map AM.encStr)]
structure ApiPatch where
  Pages : Int
  Changes : List ApiChange
  deriving DecidableEq
instance : Inhabited ApiPatch := ⟨⟨0, []⟩⟩
@[push_cast] def ApiPatch.enc (x : ApiPatch) : List AV := [aint x.Pages, .isl 2 (x.Changes.map ApiChange.enc)]
structure PatchBook where
  Patch : ApiPatch
  out : List (List ByteArray)
  deriving DecidableEq
instance : Inhabited PatchBook := ⟨⟨default, []⟩⟩
@[push_cast] def PatchBook.enc (x : PatchBook) : List AV := ApiPatch.enc x.Patch ++ [.isl 1 (x.out.map (encSl 1 AM.encStr))]
end Go.Proofs.YtggcmnoacplbkaaDoor
