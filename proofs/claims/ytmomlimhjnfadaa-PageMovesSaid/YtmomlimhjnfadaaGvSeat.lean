/- What is asked of this program as a whole. -/
import Derived.Test.YtmomlimhjnfadaaGvTy
import Derived.Test.YtmomlimhjnfadaaGvEq
import Derived.Test.YtmomlimhjnfadaaGvExt
import Derived.Test.YtmomlimhjnfadaaGvMix2
namespace Go.Proofs.Ytmomlimhjnfadaa
open Go Go.Gv
instance : TMixed Try.prog := ⟨by kernel_rfl⟩
end Go.Proofs.Ytmomlimhjnfadaa
