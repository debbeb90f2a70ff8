/- ItemsGlues: a part of its proof (packed by a program). -/
import Derived.Test.YtpkhmfedaaoalaaGreatDoorAwk
set_option linter.all false
namespace Go.Proofs.YtpkhmfedaaoalaaGreatDoor
open Go Go.Proofs.YtpkhmfedaaoalaaGreatDoor.AM
def nodes4:List Za:=[⟨112,(ByteArray.mk #[]),0,4⟩,⟨46,(ByteArray.mk #[108,101]),3,1⟩,⟨101,(ByteArray.mk #[]),5,2⟩,⟨46,(ByteArray.mk #[116,116,101,114]),8,1⟩]
def toks4:List Ze:=[⟨2,112,0⟩,⟨1,108,3⟩,⟨1,101,4⟩,⟨2,101,5⟩,⟨1,116,8⟩,⟨1,116,9⟩,⟨1,101,10⟩,⟨1,114,11⟩,⟨3,101,11⟩,⟨3,112,11⟩]
theorem parse4 {Q:((List Za)×Int×Int)→Prop} (h:Q (nodes4,0,0)):Xc.w (ByteArray.mk #[123,112,32,108,101,123,101,32,116,116,101,114,125,125]) Q:=⟨(nodes4,0,0),J0 Xca (f:=400) (by kernel_rfl),h⟩
theorem norm4 {Q:((List Za)×Int)→Prop} (h:Q (nodes4,0)):Wb.w nodes4 Q:=⟨(nodes4,0),J0 Xca (f:=400) (by kernel_rfl),h⟩
theorem flat4 {Q:((List Ze)×Int)→Prop} (h:Q (toks4,0)):Wa.w nodes4 Q:=⟨(toks4,0),J0 Xca (f:=400) (by kernel_rfl),h⟩
end Go.Proofs.YtpkhmfedaaoalaaGreatDoor
