/- ItemsGlues: a part of its proof (packed by a program). -/
import Derived.Test.YtpkhmfedaaoalaaGreatDoorAwk
set_option linter.all false
namespace Go.Proofs.YtpkhmfedaaoalaaGreatDoor
open Go Go.Proofs.YtpkhmfedaaoalaaGreatDoor.AM
def nodes1:List Za:=[⟨112,(ByteArray.mk #[]),0,2⟩,⟨46,(ByteArray.mk #[97,32,98]),3,1⟩]
def toks1:List Ze:=[⟨2,112,0⟩,⟨1,97,3⟩,⟨1,32,4⟩,⟨1,98,5⟩,⟨3,112,5⟩]
theorem parse1 {Q:((List Za)×Int×Int)→Prop} (h:Q (nodes1,0,0)):Xc.w (ByteArray.mk #[123,112,32,97,32,98,125]) Q:=⟨(nodes1,0,0),J0 Xca (f:=400) (by kernel_rfl),h⟩
theorem norm1 {Q:((List Za)×Int)→Prop} (h:Q (nodes1,0)):Wb.w nodes1 Q:=⟨(nodes1,0),J0 Xca (f:=400) (by kernel_rfl),h⟩
theorem flat1 {Q:((List Ze)×Int)→Prop} (h:Q (toks1,0)):Wa.w nodes1 Q:=⟨(toks1,0),J0 Xca (f:=400) (by kernel_rfl),h⟩
end Go.Proofs.YtpkhmfedaaoalaaGreatDoor
