import Derived.Test.YtmphidppfclaoaaGreatDoorBdA
namespace Go.Proofs.YtmphidppfclaoaaGreatDoor.Bd
open Go.Abs
theorem rest_true5 (depth : Int) : gives (rest true depth 5) (.bool true) = true := by kernel_rfl
end Go.Proofs.YtmphidppfclaoaaGreatDoor.Bd
