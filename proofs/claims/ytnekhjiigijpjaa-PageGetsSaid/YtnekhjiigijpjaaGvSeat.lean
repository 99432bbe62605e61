/- What is asked of this program as a whole. -/
import Derived.Test.YtnekhjiigijpjaaGvTy
import Derived.Test.YtnekhjiigijpjaaGvEq
import Derived.Test.YtnekhjiigijpjaaGvExt
import Derived.Test.YtnekhjiigijpjaaGvMix2
namespace Go.Proofs.Ytnekhjiigijpjaa
open Go Go.Gv
instance : TMixed Try.prog := ⟨by kernel_rfl⟩
end Go.Proofs.Ytnekhjiigijpjaa
