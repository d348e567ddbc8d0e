-- own
import Derived.Test.YtdagliimdmbeaaaFnx0
import Derived.Test.YtdagliimdmbeaaaFnx1
import Derived.Test.YtdagliimdmbeaaaFnx2
import Derived.Test.YtdagliimdmbeaaaFnx3
import Derived.Test.YtdagliimdmbeaaaFnx4
import Derived.Test.YtdagliimdmbeaaaFnx5
namespace Go.Proofs.Ytdagliimdmbeaaa.Fn
open Go.RowKit Go.Proofs.YtdagliimdmbeaaaW.PrintWords Go.Proofs.YtdagliimdmbeaaaW.PrintLast Go.Proofs.YtdagliimdmbeaaaW.PrintMore
attribute [local go_sem] max2_int min2_int max_two min_two max_three min_three max_four min_four   -- for this text's walks alone
set_option linter.unusedVariables false
set_option linter.unusedSimpArgs false

end Go.Proofs.Ytdagliimdmbeaaa.Fn
