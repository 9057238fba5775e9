/- No contract of the library is wanted in this seat: the program's form alone. -/
import Derived.Test.YtpafgmlkbbbmhaaProg
namespace Go.Proofs.Ytpafgmlkbbbmhaa
end Go.Proofs.Ytpafgmlkbbbmhaa
