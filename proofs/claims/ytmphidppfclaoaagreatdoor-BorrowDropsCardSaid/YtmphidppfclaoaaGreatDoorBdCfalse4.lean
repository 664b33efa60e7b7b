import Derived.Test.YtmphidppfclaoaaGreatDoorBdA
namespace Go.Proofs.YtmphidppfclaoaaGreatDoor.Bd
open Go.Abs
theorem rest_false4 (depth : Int) : gives (rest false depth 4) (.bool true) = true := by kernel_rfl
end Go.Proofs.YtmphidppfclaoaaGreatDoor.Bd
