import Derived.Test.YtmphidppfclaoaaGreatDoorBdA
namespace Go.Proofs.YtmphidppfclaoaaGreatDoor.Bd
open Go.Abs
theorem rest_false2 (depth : Int) : gives (rest false depth 2) (.bool true) = true := by kernel_rfl
end Go.Proofs.YtmphidppfclaoaaGreatDoor.Bd
