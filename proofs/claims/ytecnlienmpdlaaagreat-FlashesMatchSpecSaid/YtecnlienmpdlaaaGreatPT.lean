import Derived.Test.YtecnlienmpdlaaaGreatPT1
set_option maxRecDepth 100000
namespace Go.Proofs.YtecnlienmpdlaaaGreat.PM
open Go
end Go.Proofs.YtecnlienmpdlaaaGreat.PM
