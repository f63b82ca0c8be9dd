/-
  What the texts about chunked bodies need first.
-/
import Derived.ProofKit
namespace Go.Proofs.YtkjibnhihdbmdaaDoor
end Go.Proofs.YtkjibnhihdbmdaaDoor
