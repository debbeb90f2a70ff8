/- ItemsGlues: a part of its proof (packed by a program). -/
import Derived.Test.YtpkhmfedaaoalaaGreatDoorAwk
set_option linter.all false
namespace Go.Proofs.YtpkhmfedaaoalaaGreatDoor
open Go Go.Proofs.YtpkhmfedaaoalaaGreatDoor.AM
def nodes3:List Za:=[⟨112,(ByteArray.mk #[]),0,2⟩,⟨46,(ByteArray.mk #[108,101,116,116,101,114]),3,1⟩]
def toks3:List Ze:=[⟨2,112,0⟩,⟨1,108,3⟩,⟨1,101,4⟩,⟨1,116,5⟩,⟨1,116,6⟩,⟨1,101,7⟩,⟨1,114,8⟩,⟨3,112,8⟩]
theorem parse3 {Q:((List Za)×Int×Int)→Prop} (h:Q (nodes3,0,0)):Xc.w (ByteArray.mk #[123,112,32,108,101,116,116,101,114,125]) Q:=⟨(nodes3,0,0),J0 Xca (f:=400) (by kernel_rfl),h⟩
theorem norm3 {Q:((List Za)×Int)→Prop} (h:Q (nodes3,0)):Wb.w nodes3 Q:=⟨(nodes3,0),J0 Xca (f:=400) (by kernel_rfl),h⟩
theorem flat3 {Q:((List Ze)×Int)→Prop} (h:Q (toks3,0)):Wa.w nodes3 Q:=⟨(toks3,0),J0 Xca (f:=400) (by kernel_rfl),h⟩
end Go.Proofs.YtpkhmfedaaoalaaGreatDoor
