/- The texts that stand behind PutFns elsewhere. -/
import Derived.Test.YtdedaoafihomoaaBookLaw
import Derived.Lib.AppendZeros
namespace Go.Proofs.Ytdedaoafihomoaa
set_option linter.unusedVariables false
end Go.Proofs.Ytdedaoafihomoaa
