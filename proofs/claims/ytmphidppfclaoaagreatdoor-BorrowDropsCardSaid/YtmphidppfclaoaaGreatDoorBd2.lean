import Derived.Test.YtmphidppfclaoaaGreatDoorBd
namespace Go.Proofs.YtmphidppfclaoaaGreatDoor.Bd
open Go.Abs
def args2 : List AV := [.agg [.fslc 16 [.agg [.int .u8 3, .str [109, 97, 105, 110], .nils, .int .u8 1, .str [], .nils, .fslc 15 [.agg [.int .u8 1, .str [120], .str [], .nils, .int .u8 0, .str [], .nils, .int .i64 0, .str [], .nils, .fslc 8 [.agg [.int .u8 21, .int .i64 0, .str [], .str [], .str [], .nils, .fslc 8 [.agg [.int .u8 1, .int .i64 1, .str [], .str [], .str [], .nils, .nils, .int .i64 0]] true, .int .i64 0]] true, .nils, .nils, .nils, .int .i64 0], .agg [.int .u8 1, .str [114], .str [], .nils, .int .u8 0, .str [], .nils, .int .i64 0, .str [], .nils, .fslc 8 [.agg [.int .u8 5, .int .i64 0, .str [], .str [], .str [120], .nils, .nils, .int .i64 0]] true, .nils, .nils, .nils, .int .i64 0], .agg [.int .u8 1, .str [121], .str [], .nils, .int .u8 0, .str [], .nils, .int .i64 0, .str [], .nils, .fslc 8 [.agg [.int .u8 4, .int .i64 0, .str [], .str [], .str [120], .nils, .nils, .int .i64 0]] true, .nils, .nils, .nils, .int .i64 0]] true, .int .u8 1, .int .i64 0, .str [], .str [], .str [], .nils, .nils, .int .i64 0, .int .i64 0]] true], .int .i64 141]
theorem one2 : (Fact.mk 12 args2 (.bool true)).Ok E :=
  Fact.of_run EG (E2 := E2) tab0_ok (n := 1000) (by kernel_rfl) (by kernel_rfl) (by kernel_rfl)
end Go.Proofs.YtmphidppfclaoaaGreatDoor.Bd
