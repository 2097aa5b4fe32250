/- FloatEdges: each two of the reals about all ends, with whole numbers about powers of two, are told by the program as by the reference. A closed statement: it has no condition. -/
import Derived.Test.YtcobpbhmpolceaaPE8
import Derived.Test.YtcobpbhmpolceaaGJ
namespace Go.Proofs.Ytcobpbhmpolceaa.Pure
open Go.RowKit Go.Proofs.Ytcobpbhmpolceaa.PE Go.Proofs.YtcobpbhmpolceaaW.PrintWords Go.Proofs.YtcobpbhmpolceaaW.PrintLast

theorem FloatEdges : moidorelaw03_FloatEdges.Pure := FloatEdges_law

end Go.Proofs.Ytcobpbhmpolceaa.Pure
