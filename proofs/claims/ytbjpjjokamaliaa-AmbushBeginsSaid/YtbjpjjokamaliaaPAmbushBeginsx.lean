-- Printed by hprint.py (this claim's own program, over the kit's print.py) out of the translation and contracts by hand. Not trusted: Lean checks it.
import Derived.Test.YtbjpjjokamaliaaPAmbushBeginsx0
import Derived.Test.YtbjpjjokamaliaaPAmbushBeginsx1
import Derived.Test.YtbjpjjokamaliaaPAmbushBeginsx2
import Derived.Test.YtbjpjjokamaliaaPAmbushBeginsx3
import Derived.Test.YtbjpjjokamaliaaPAmbushBeginsx4
namespace Go.Proofs.Ytbjpjjokamaliaa.PAmbushBegins
open Go.Proofs.Ytbjpjjokamaliaa.A
open Go.RowKit Go.Proofs.YtbjpjjokamaliaaW.PrintWords Go.Proofs.YtbjpjjokamaliaaW.PrintLast Go.Proofs.YtbjpjjokamaliaaW.PrintMore
attribute [local go_sem] max2_int min2_int max_two min_two max_three min_three max_four min_four   -- for this text's walks alone
set_option linter.unusedVariables false
set_option linter.unusedSimpArgs false

end Go.Proofs.Ytbjpjjokamaliaa.PAmbushBegins
