import Derived.Test.YtckdlfbbkemklaaZGvTy
import Derived.Test.YtckdlfbbkemklaaZA
import Derived.Test.YtckdlfbbkemklaaZB
/- What is asked of this program as a whole. -/
namespace Go.Proofs.Ytckdlfbbkemklaa
open Go Go.Gv
instance : TMixed Try.prog := ⟨by kernel_rfl⟩
end Go.Proofs.Ytckdlfbbkemklaa
