-- Written by a program of this session's (the kit's print, with additions of my own). Not trusted: Lean checks it.
import Derived.Test.YtaaoniadfgaoaaaPCodeBackx0
import Derived.Test.YtaaoniadfgaoaaaPCodeBackx1
import Derived.Test.YtaaoniadfgaoaaaPCodeBackx2
namespace Go.Proofs.Ytaaoniadfgaoaaa.PCodeBack
open Go.RowKit Go.Proofs.YtaaoniadfgaoaaaW.PrintWords Go.Proofs.YtaaoniadfgaoaaaW.PrintLast Go.Proofs.YtaaoniadfgaoaaaW.PrintMore
attribute [local go_sem] max2_int min2_int max_two min_two max_three min_three max_four min_four   -- for this text's walks alone
set_option linter.unusedVariables false
set_option linter.unusedSimpArgs false

end Go.Proofs.Ytaaoniadfgaoaaa.PCodeBack
