import Derived.Test.YtmphidppfclaoaaGreatDoorBdA
namespace Go.Proofs.YtmphidppfclaoaaGreatDoor.Bd
open Go.Abs
theorem rest_true0 (depth : Int) : gives (rest true depth 0) (.bool true) = true := by kernel_rfl
end Go.Proofs.YtmphidppfclaoaaGreatDoor.Bd
