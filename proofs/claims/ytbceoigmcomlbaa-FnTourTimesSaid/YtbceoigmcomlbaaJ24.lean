import Derived.Test.YtbceoigmcomlbaaJ9
import Derived.Test.YtbceoigmcomlbaaJ7
/- Contract: toIntS (for the seat of the tours). -/
namespace Go.Proofs.Ytbceoigmcomlbaa
open Go.RowKit set_option linter.unusedVariables false set_option linter.unusedSimpArgs false

end Go.Proofs.Ytbceoigmcomlbaa
