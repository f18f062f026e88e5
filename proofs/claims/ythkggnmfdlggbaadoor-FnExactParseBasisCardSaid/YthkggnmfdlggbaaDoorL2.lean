/- The laws' own helpers for meshes: turned from N2. -/
import Derived.Test.YthkggnmfdlggbaaDoorL1
namespace Go.Proofs.YthkggnmfdlggbaaDoor
set_option maxRecDepth 100000
open Go Go.RowKit






end Go.Proofs.YthkggnmfdlggbaaDoor
