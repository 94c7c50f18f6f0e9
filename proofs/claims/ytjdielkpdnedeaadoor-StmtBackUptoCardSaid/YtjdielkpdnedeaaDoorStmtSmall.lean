/- The little statements that every law of this layer reads. -/
import Derived.Test.YtjdielkpdnedeaaDoorBase
import Derived.Test.YtjdielkpdnedeaaDoorPXx5
namespace Go.Proofs.YtjdielkpdnedeaaDoor.Plain
open Go.RowKit Go.Proofs.YtjdielkpdnedeaaDoorW.PrintWords Go.Proofs.YtjdielkpdnedeaaDoor.PX
set_option maxRecDepth 100000 in
theorem small_ev : Ev (fun k => smithylaw07_small.f k) true := Ev.of (fun k => smithylaw07_small.mono k) (k := 40) (by decide +kernel)
end Go.Proofs.YtjdielkpdnedeaaDoor.Plain
