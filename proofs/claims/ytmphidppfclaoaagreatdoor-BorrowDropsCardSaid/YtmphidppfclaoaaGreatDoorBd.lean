/- The seat: what the evaluator asks of the program; the map of words. -/
import Derived.Test.YtmphidppfclaoaaGreatDoorFe
import Derived.Test.YtmphidppfclaoaaGreatDoorProg
import Derived.KernelRfl
namespace Go.Proofs.YtmphidppfclaoaaGreatDoor.Bd
open Go.Abs
noncomputable def T : Tr TypeInfo := build 20 Tryz.prog.types.toList
noncomputable def F : Tr Func := build 20 Tryz.prog.funcs.toList
def asciiCells : List AV := (List.range 256).map fun i => AV.int .u8 (if i = 9 ∨ i = 10 ∨ i = 11 ∨ i = 12 ∨ i = 13 ∨ i = 32 then 1 else 0)
def G (g : Nat) : Option (Nat × List AV) := match g with
  | 0 => some (256, [AV.agg asciiCells])
  | _ => none
noncomputable def E : Env Tryz.prog := envOf Tryz.prog T F G (fun t i h => build_get _ _ _ _ h) (fun t i h => build_get _ _ _ _ h) (by kernel_rfl)
theorem asciiClosed : AVs.closed [AV.agg asciiCells] = true := by kernel_rfl
theorem EG : E.GClosed := by
  intro g sz elems h
  have h : G g = some (sz, elems) := h
  unfold G at h
  split at h
  · simp only [Option.some.injEq, Prod.mk.injEq] at h
    obtain ⟨_, rfl⟩ := h
    exact asciiClosed
  · cases h
noncomputable def E2 : Env2 E := env2Of E F (fun t i h => build_get _ _ _ _ h) (fun _ _ => none) (fun _ _ _ h => by cases h) (fun f => f == 172)
def wordsEs : List (AV × AV × Nat) := [(.str [108, 101, 116], .int .i64 1, 0), (.str [105, 102], .int .i64 2, 1), (.str [101, 108, 115, 101], .int .i64 3, 2), (.str [119, 104, 105, 108, 101], .int .i64 4, 3), (.str [109, 97, 116, 99, 104], .int .i64 5, 4), (.str [115, 99, 111, 112, 101], .int .i64 6, 5), (.str [115, 112, 97, 119, 110], .int .i64 7, 6), (.str [108, 111, 99, 107], .int .i64 8, 7), (.str [97, 115], .int .i64 9, 8), (.str [99, 104, 97, 110], .int .i64 10, 9), (.str [100, 114, 111, 112], .int .i64 11, 10), (.str [102, 110], .int .i64 12, 11), (.str [115, 116, 114, 117, 99, 116], .int .i64 13, 12), (.str [101, 110, 117, 109], .int .i64 14, 13), (.str [116, 114, 117, 101], .int .i64 15, 14), (.str [102, 97, 108, 115, 101], .int .i64 16, 15), (.str [97, 110, 100], .int .i64 17, 16), (.str [111, 114], .int .i64 18, 17), (.str [110, 111, 116], .int .i64 19, 18), (.str [105, 110, 116], .int .i64 20, 19), (.str [98, 111, 111, 108], .int .i64 21, 20), (.str [117, 110, 105, 116], .int .i64 22, 21), (.str [109, 117, 116], .int .i64 23, 22), (.str [98, 111, 120], .int .i64 24, 23), (.str [117, 110, 98, 111, 120], .int .i64 25, 24), (.str [99, 101, 108, 108], .int .i64 26, 25), (.str [103, 101, 116], .int .i64 27, 26), (.str [115, 101, 116], .int .i64 28, 27), (.str [114, 99], .int .i64 29, 28), (.str [97, 114, 99], .int .i64 30, 29), (.str [99, 108, 111, 110, 101], .int .i64 31, 30), (.str [109, 117, 116, 101, 120], .int .i64 32, 31), (.str [111, 112, 101, 110], .int .i64 33, 32), (.str [97, 116, 111, 109, 105, 99], .int .i64 34, 33), (.str [108, 111, 97, 100], .int .i64 35, 34), (.str [115, 116, 111, 114, 101], .int .i64 36, 35), (.str [102, 101, 116, 99, 104], .int .i64 37, 36), (.str [115, 101, 110, 100], .int .i64 38, 37), (.str [114, 101, 99, 118], .int .i64 39, 38), (.str [66, 111, 120], .int .i64 40, 39), (.str [67, 101, 108, 108], .int .i64 41, 40), (.str [82, 99], .int .i64 42, 41), (.str [65, 114, 99], .int .i64 43, 42), (.str [77, 117, 116, 101, 120], .int .i64 44, 43), (.str [65, 116, 111, 109, 105, 99], .int .i64 45, 44), (.str [83, 101, 110, 100, 101, 114], .int .i64 46, 45), (.str [82, 101, 99, 101, 105, 118, 101, 114], .int .i64 47, 46)]
theorem words : (FactO.mk 222 (.map 0) (.map wordsEs 47)).Ok E :=
  FactO.of_map EG (E2 := E2) (tab := fun _ _ _ => none) noTab_ok (n := 1000) (by kernel_rfl) (by kernel_rfl)
noncomputable def tab0 : CallF := tabO [FactO.mk 222 (.map 0) (.map wordsEs 47)]
theorem tab0_ok : CallOk E tab0 := tabO_ok _ (fun x h => by
  simp only [List.mem_cons, List.not_mem_nil, or_false] at h
  subst h
  exact words)
end Go.Proofs.YtmphidppfclaoaaGreatDoor.Bd
