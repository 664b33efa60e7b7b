/-
  THE LAW 'BorrowDrops': a variable that is dropped twice, or used behind its drop, is a fault, one that is given a value between is none, in whatever block: for every bool and every int, on every schedule, the call returns true, and all that was there stays.
  Under the row's own conditions: strings.asciiSpace and unicode.White_Space hold what the program's text lays.
-/
import Derived.Test.YtmphidppfclaoaaGreatDoorBdA
import Derived.Test.YtmphidppfclaoaaGreatDoorBdCtrue0
import Derived.Test.YtmphidppfclaoaaGreatDoorBdCtrue1
import Derived.Test.YtmphidppfclaoaaGreatDoorBdCtrue2
import Derived.Test.YtmphidppfclaoaaGreatDoorBdCtrue3
import Derived.Test.YtmphidppfclaoaaGreatDoorBdCtrue4
import Derived.Test.YtmphidppfclaoaaGreatDoorBdCtrue5
import Derived.Test.YtmphidppfclaoaaGreatDoorBdCfalse0
import Derived.Test.YtmphidppfclaoaaGreatDoorBdCfalse1
import Derived.Test.YtmphidppfclaoaaGreatDoorBdCfalse2
import Derived.Test.YtmphidppfclaoaaGreatDoorBdCfalse3
import Derived.Test.YtmphidppfclaoaaGreatDoorBdCfalse4
import Derived.Test.YtmphidppfclaoaaGreatDoorBdCfalse5
import Derived.Test.YtmphidppfclaoaaGreatDoorFf
import Derived.Test.YtmphidppfclaoaaGreatDoorCards
import Derived.Test.YtmphidppfclaoaaGreatDoorTie
import Derived.WalkKit
import Derived.ProofKit
import Derived.OpenShut
import Derived.Deep.DeepHandedRow
import Derived.Deep.DeepWitnessRowRef
import Derived.Lib.LaidTab
import Derived.Lib.LaidU8
import Derived.Lib.SpaceR
namespace Go.Proofs.YtmphidppfclaoaaGreatDoor.drops
open Go.ChangeShapes Go.WideShapes Go.ChangeAt Go.RowKit Go.Abs

theorem sound (again : Bool) (depth : Int) : Sound Bd.E 5 [.bool again, .int .i64 depth] ⟨0, .leaf⟩ fun e _ => e = .ret (.bool true) := by
  cases again
  · rcases Bd.six_cases depth with h | h | h | h | h | h
    · exact Bd.drops_of h (Bd.rest_false0 depth)
    · exact Bd.drops_of h (Bd.rest_false1 depth)
    · exact Bd.drops_of h (Bd.rest_false2 depth)
    · exact Bd.drops_of h (Bd.rest_false3 depth)
    · exact Bd.drops_of h (Bd.rest_false4 depth)
    · exact Bd.drops_of h (Bd.rest_false5 depth)
  · rcases Bd.six_cases depth with h | h | h | h | h | h
    · exact Bd.drops_of h (Bd.rest_true0 depth)
    · exact Bd.drops_of h (Bd.rest_true1 depth)
    · exact Bd.drops_of h (Bd.rest_true2 depth)
    · exact Bd.drops_of h (Bd.rest_true3 depth)
    · exact Bd.drops_of h (Bd.rest_true4 depth)
    · exact Bd.drops_of h (Bd.rest_true5 depth)

theorem own : ownKnob Tryz.prog.godebug = none := by kernel_rfl
theorem gTab : Tryz.prog.globalNamed "strings.asciiSpace" = some 0 := by kernel_rfl
theorem gTabType : (Tryz.prog.globals[0]?).map (·.type) = some 272 := by kernel_rfl
theorem cells272 : Tryz.prog.cellsOf 272 = 256 := by kernel_rfl
theorem cells5 : Tryz.prog.cellsOf 5 = 1 := by kernel_rfl
def asciiZs : List Int := (List.range 256).map fun i => if i = 9 ∨ i = 10 ∨ i = 11 ∨ i = 12 ∨ i = 13 ∨ i = 32 then 1 else 0
theorem laidAscii : (Rows.laid_strings_asciiSpace : DataW Unit) = Lib.tabData .u8 asciiZs := by kernel_rfl
theorem asciiCells_eq : Bd.asciiCells = asciiZs.map (AV.int .u8) := by kernel_rfl

/-- What the row's list gives: the table's cells. -/
theorem table {W : World} (h : laidMet Tryz.prog Rows.borrowDropsRow.laid W) : Lib.TabIs Tryz.prog W "strings.asciiSpace" .u8 asciiZs := by
  have hm : ("strings.asciiSpace", (Rows.laid_strings_asciiSpace : DataW Unit)) ∈ Rows.borrowDropsRow.laid := .tail _ (.head _)
  rw [laidAscii] at hm
  exact tabIs_of_reads gTab gTabType Tryz.underlying272 Tryz.underlying5 cells5 cells272 (Lib.laidMet.reads h hm)

noncomputable def K (W : World) (b o : Nat) : Option Value := if b = 0 ∧ o < 256 then W.cell? ⟨0, o, none⟩ else none

theorem ground {W : World} (h : Lib.TabIs Tryz.prog W "strings.asciiSpace" .u8 asciiZs) : GR Bd.E ⟨fun _ => none, K W⟩ := by
  intro g sz elems hg
  have hg : Bd.G g = some (sz, elems) := hg
  unfold Bd.G at hg
  split at hg
  · simp only [Option.some.injEq, Prod.mk.injEq] at hg
    obtain ⟨rfl, rfl⟩ := hg
    have hl : asciiZs.length = 256 := by kernel_rfl
    refine ⟨?_, fun e he => ?_⟩
    · have e1 : [AV.agg Bd.asciiCells].flatMap AV.cells = asciiZs.map (AV.int .u8) := by
        rw [← asciiCells_eq]
        simp [AV.cells]
      rw [e1]
      refine RowR.of_get _ 0 fun i a ha => ?_
      rw [List.getElem?_map] at ha
      obtain ⟨z, hz, rfl⟩ := Option.map_eq_some_iff.1 ha
      have hi : i < asciiZs.length := (List.getElem?_eq_some_iff.1 hz).1
      refine ⟨.int .u8 z, ?_, .int _ _⟩
      have := h.cell gTab i hi
      show (if (0 : Nat) = 0 ∧ 0 + i < 256 then W.cell? ⟨0, 0 + i, none⟩ else none) = some (Value.int .u8 z)
      rw [if_pos ⟨rfl, by omega⟩, Nat.zero_add, this]
      simp [List.getD, hz]
    · simp only [List.mem_cons, List.not_mem_nil, or_false] at he
      subst he
      simp only [AV.cells]
      rw [asciiCells_eq, List.length_map, hl]
  · cases hg

theorem call (W : World) (again : Bool) (depth : Int) (h : Lib.TabIs Tryz.prog W "strings.asciiSpace" .u8 asciiZs) :
    Calls Tryz.prog 5 #[.bool again, .int .i64 depth] W fun e W' => e = .returned (.bool true) ∧ Kept W W' :=
  Sound.law (K W) (fun b o v hk => by
    unfold K at hk
    split at hk
    · rename_i hc
      obtain ⟨rfl, _⟩ := hc
      exact hk
    · cases hk) (ground h) (.cons (.bool again) (.cons (.int .i64 depth) .nil)) (sound again depth)

set_option maxRecDepth 100000 in
/-- What the walk gives, for every argument and every world that holds the tables. -/
theorem contract (H : Type) (enc : TypeId × Value → H) (W : World) (base : Nat) (args : Array Value) (ds gs : List (DataW H)) (before : List MemPlace)
    (hval : ∀ (j : Nat) t v, Tryz.f5.params[j]? = some t → args[j]? = some v → Value.okWide Tryz.prog W .any base t v)
    (hW : DataW.Whole enc Tryz.prog Tryz.f5.params.toList Rows.borrowDropsSpec.vars false W args.toList ds gs before) (hL : laidMetH Tryz.prog Rows.borrowDropsRow.laid W) :
    Calls Tryz.prog 5 args W fun e W' => ∃ v, e = .returned v ∧ Rows.borrowDropsSpec.post enc Tryz.prog Tryz.f5 false true false false W args v W' := by
  have hW' := hW
  obtain ⟨p, q, hA0, hV, rfl, hfz, hnd⟩ := hW
  have hA : DataW.TrodAll enc Tryz.prog W 0 (fun _ => true) true Tryz.f5.params.toList args.toList ds p := hA0
  rw [Tryz.params5] at hA hval
  obtain ⟨v0, vs0, d0, ds0, p0, q0, hargs, rfl, rfl, h0, r0⟩ := trodAll_cons hA
  obtain ⟨v1, vs1, d1, ds1, p1, q1, rfl, rfl, rfl, h1, r1⟩ := trodAll_cons r0
  obtain ⟨rfl, rfl, rfl⟩ := trodAll_nil r1
  obtain rfl : args = #[v0, v1] := by cases args; simp_all
  obtain ⟨rfl, rfl⟩ := trodVars_none hV
  obtain ⟨again, rfl, rfl, rfl⟩ := open_bool Tryz.underlying4 (hval 0 4 v0 rfl rfl) h0
  obtain ⟨depth, rfl, rfl, rfl, hd1⟩ := open_int Tryz.underlying3 (hval 1 3 v1 rfl rfl) h1
  clear hA0
  simp only [List.append_nil] at hW'
  refine (call W again depth (table hL)).mono fun e W' ⟨he, hg⟩ => ?_
  subst he
  exact ⟨_, rfl, post_of_kept (pa := []) (pv := []) hW' (fun _ _ _ => trodAll_cons_mk (shut_bool Tryz.underlying4 _) trodAll_mk0) (fun _ _ => trodAll_cons_mk (shut_bool Tryz.underlying4 _) (trodAll_cons_mk (shut_int Tryz.underlying3 hd1) trodAll_mk0)) (fun _ _ => rfl) rfl
    hg (ok_one (by kernel_rfl) rfl (okWide_bool_mk Tryz.underlying4 _))⟩
end Go.Proofs.YtmphidppfclaoaaGreatDoor.drops
