import Derived.Test.YtkmbblooofmnpaaNum2
namespace Go.Proofs.Ytkmbblooofmnpaa
open Go.RowKit
end Go.Proofs.Ytkmbblooofmnpaa
