/- The shelf's contracts of math/bits.LeadingZeros8 and Len64 at this translation (the numbers by name). -/
import Derived.Test.YtfakfgblaakgdaaProg
namespace Go.Proofs
end Go.Proofs
