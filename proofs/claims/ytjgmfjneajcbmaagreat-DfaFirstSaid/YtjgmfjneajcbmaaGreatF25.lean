/- Rules, continued: loops over a function. -/
import Derived.Test.YtjgmfjneajcbmaaGreatF07
set_option linter.unusedVariables false
set_option linter.unusedSimpArgs false
namespace Go.Ev
open Go.RowKit
variable {P:Program}{pol:Pol}
end Go.Ev
