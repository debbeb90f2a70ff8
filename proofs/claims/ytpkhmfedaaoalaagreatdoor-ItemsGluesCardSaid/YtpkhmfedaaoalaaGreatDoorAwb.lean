/- ItemsGlues: a part of its proof (packed by a program). -/
import Derived.Test.YtpkhmfedaaoalaaGreatDoorAwk
set_option linter.all false
namespace Go.Proofs.YtpkhmfedaaoalaaGreatDoor
open Go Go.Proofs.YtpkhmfedaaoalaaGreatDoor.AM
def nodes2:List Za:=[⟨112,(ByteArray.mk #[]),0,5⟩,⟨46,(ByteArray.mk #[97]),3,1⟩,⟨110,(ByteArray.mk #[]),4,2⟩,⟨46,(ByteArray.mk #[120]),7,1⟩,⟨46,(ByteArray.mk #[46]),9,1⟩]
def toks2:List Ze:=[⟨2,112,0⟩,⟨1,97,3⟩,⟨2,110,4⟩,⟨1,120,7⟩,⟨3,110,7⟩,⟨1,46,9⟩,⟨3,112,9⟩]
theorem parse2 {Q:((List Za)×Int×Int)→Prop} (h:Q (nodes2,0,0)):Xc.w (ByteArray.mk #[123,112,32,97,123,110,32,120,125,46,125]) Q:=⟨(nodes2,0,0),J0 Xca (f:=400) (by kernel_rfl),h⟩
theorem norm2 {Q:((List Za)×Int)→Prop} (h:Q (nodes2,0)):Wb.w nodes2 Q:=⟨(nodes2,0),J0 Xca (f:=400) (by kernel_rfl),h⟩
theorem Wda {Q:((List Ze)×Int)→Prop} (h:Q (toks2,0)):Wa.w nodes2 Q:=⟨(toks2,0),J0 Xca (f:=400) (by kernel_rfl),h⟩
end Go.Proofs.YtpkhmfedaaoalaaGreatDoor
