/- What is known of the library's variables when a call begins: what the seat's rows lay, as far as it is asked for here; in each world that has the blocks of the begin. -/
import GoSem.Claim
import Derived.Lib.LaidTab
import Derived.Lib.ItoaNum
import Derived.Test.YtggcmnoacplbkaaDoorProg
namespace Go.Proofs.YtggcmnoacplbkaaDoor.AM
set_option linter.unusedVariables false
open Go
def Laid (w : World) : Prop := Lib.TabIs Tryd.prog w "internal/strconv.uint64pow10" .u64 Lib.pow10Tab ∧ (∃ tp p, w.var? Tryd.prog "strconv.ErrSyntax" = some #[.iface tp p]) ∧ (∃ tp p, w.var? Tryd.prog "strconv.ErrRange" = some #[.iface tp p])
theorem laid_pow10 {w : World} (h : Laid w) : Lib.TabIs Tryd.prog w "internal/strconv.uint64pow10" .u64 Lib.pow10Tab := h.1
theorem laid_ErrSyntax {w : World} (h : Laid w) : (∃ tp p, w.var? Tryd.prog "strconv.ErrSyntax" = some #[.iface tp p]) := h.2.1
theorem laid_ErrRange {w : World} (h : Laid w) : (∃ tp p, w.var? Tryd.prog "strconv.ErrRange" = some #[.iface tp p]) := h.2.2
def Glob (fz : Nat → Option Obj) : Prop := ∀ w : World, (∀ b o, fz b = some o → w.heap[b]? = some o) → Laid w
theorem glob_mono {fz fz' : Nat → Option Obj} (h : ∀ b o, fz b = some o → fz' b = some o) (k : Glob fz) : Glob fz' := fun w hw => k w fun b o e => hw b o (h b o e)
end Go.Proofs.YtggcmnoacplbkaaDoor.AM
