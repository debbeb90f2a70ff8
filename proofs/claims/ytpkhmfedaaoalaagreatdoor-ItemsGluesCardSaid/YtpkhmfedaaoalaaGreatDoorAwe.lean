/- ItemsGlues: a part of its proof (packed by a program). -/
import Derived.Test.YtpkhmfedaaoalaaGreatDoorAwk
set_option linter.all false
namespace Go.Proofs.YtpkhmfedaaoalaaGreatDoor
open Go Go.Proofs.YtpkhmfedaaoalaaGreatDoor.AM
def Zzb:Zg:=⟨(List.range 128).map (fun c=>if c = 32 then 250 else if (48≤c∧c≤57)∨(65≤c∧c≤90)∨(97≤c∧c≤122)∨c∈[46,44,59,58,33,63,39,34,45,40,41,47] then 500 else 0),100,80,[⟨ByteArray.mk #[116,116],ByteArray.mk #[49,50,48]⟩]⟩
theorem even1_pure:Kya Tryz.prog Jk [] (.agg (Zg.enc Zzb)):=J0 Xca (f:=900) (by kernel_rfl)
end Go.Proofs.YtpkhmfedaaoalaaGreatDoor
