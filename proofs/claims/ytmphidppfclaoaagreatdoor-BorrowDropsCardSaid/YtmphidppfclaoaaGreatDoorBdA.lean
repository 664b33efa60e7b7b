import Derived.Test.YtmphidppfclaoaaGreatDoorBd1
import Derived.Test.YtmphidppfclaoaaGreatDoorBd2
import Derived.Test.YtmphidppfclaoaaGreatDoorBd3
import Derived.Test.YtmphidppfclaoaaGreatDoorBd4
import Derived.Test.YtmphidppfclaoaaGreatDoorBd5
import Derived.Test.YtmphidppfclaoaaGreatDoorBd6
import Derived.Test.YtmphidppfclaoaaGreatDoorBd7
import Derived.Test.YtmphidppfclaoaaGreatDoorFe
namespace Go.Proofs.YtmphidppfclaoaaGreatDoor.Bd
open Go.Abs
noncomputable def facts : List Fact := [Fact.mk 12 args1 (.bool true), Fact.mk 12 args2 (.bool true), Fact.mk 12 args3 (.bool true), Fact.mk 12 args4 (.bool true), Fact.mk 12 args5 (.bool true), Fact.mk 12 args6 (.bool true), Fact.mk 12 args7 (.bool true)]
theorem facts_ok : ∀ x, x ∈ facts → x.Ok E := by
  intro x h
  simp only [facts, List.mem_cons, List.not_mem_nil, or_false] at h
  rcases h with rfl | rfl | rfl | rfl | rfl | rfl | rfl
  · exact one1
  · exact one2
  · exact one3
  · exact one4
  · exact one5
  · exact one6
  · exact one7
theorem awake : (Fact.mk 9 [] (.bool true)).Ok E :=
  Fact.of_run EG (E2 := E2) (tab := orTab (tabF facts) tab0) (orTab_ok (tabF_ok _ facts_ok) tab0_ok) (n := 1000) (by kernel_rfl) (by kernel_rfl) (by kernel_rfl)
noncomputable def tab1 : CallF := orTab (tabF [Fact.mk 9 [] (.bool true)]) tab0
theorem tab1_ok : CallOk E tab1 := orTab_ok (tabF_ok _ (fun x h => by
  simp only [List.mem_cons, List.not_mem_nil, or_false] at h
  subst h
  exact awake)) tab0_ok

/-! the call of BorrowDrops: its first pieces, with a number that is not known -/
noncomputable def fn5 : Func := match E.fn 5 with
  | some f => f
  | none => default
noncomputable def c5 : Code := match fn5.body with
  | some c => c
  | none => default
theorem hf5 : E.fn 5 = some fn5 := by kernel_rfl
theorem hb5 : fn5.body = some c5 := by kernel_rfl
noncomputable def kf : CodeF := xev E E2 tab1 1000
noncomputable def cf : CallF := xCall E E2 tab1 kf (evDef E kf)
noncomputable def rf : RoundF := evRound kf
noncomputable def df : DefF := evDef E kf
theorem kf_ok : CodeOk E kf := xev_ok tab1_ok 1000
theorem df_ok : DefOk E df := evDef_ok kf_ok
theorem cf_ok : CallOk E cf := xCall_ok tab1_ok kf_ok (evDef_ok kf_ok)
theorem rf_ok : RoundOk E rf := evRound_ok kf_ok
noncomputable def pre (again : Bool) (depth : Int) : XSt := match xpre E E2 kf cf rf 1000 none (xntmps fn5 [.bool again, .int .i64 depth]) 13 (xbegin fn5 c5 [.bool again, .int .i64 depth] ⟨0, .leaf⟩) with
  | some y => y
  | none => ⟨[], .leaf, [], 0, .leaf⟩
theorem pre_eq (again : Bool) (depth : Int) : xpre E E2 kf cf rf 1000 none (xntmps fn5 [.bool again, .int .i64 depth]) 13 (xbegin fn5 c5 [.bool again, .int .i64 depth] ⟨0, .leaf⟩) = some (pre again depth) := by kernel_rfl
noncomputable def six (depth : Int) : Int := IntKind.wrap .i64 (Int.tmod (IntKind.wrap .u64 depth) 6)
theorem pre_get (again : Bool) (depth : Int) : fget (path 9) (pre again depth).T = .int .i64 (six depth) := by kernel_rfl
theorem six_cases (depth : Int) : six depth = 0 ∨ six depth = 1 ∨ six depth = 2 ∨ six depth = 3 ∨ six depth = 4 ∨ six depth = 5 := by
  unfold six IntKind.wrap
  simp only [IntKind.bits, IntKind.signed, Bool.false_and, Bool.true_and, Bool.false_eq_true, if_false]
  have h1 : 0 ≤ depth % (2 ^ 64 : Int) := Int.emod_nonneg _ (by decide)
  rw [Int.tmod_eq_emod_of_nonneg h1]
  have h2 : 0 ≤ depth % (2 ^ 64 : Int) % 6 := Int.emod_nonneg _ (by decide)
  have h3 : depth % (2 ^ 64 : Int) % 6 < 6 := Int.emod_lt_of_pos _ (by decide)
  generalize depth % (2 ^ 64 : Int) % 6 = x at h2 h3
  have h4 : x % (2 ^ 64 : Int) = x := by omega
  rw [h4]
  have h5 : ¬ (x ≥ 2 ^ (64 - 1)) := by omega
  simp only [h5, decide_false, Bool.false_eq_true, if_false]
  omega
/-- The rest, with the number k in its place. -/
noncomputable def rest (again : Bool) (depth k : Int) : Option (AEnd × ASt) :=
  xend E E2 df fn5 ((xall E E2 kf cf rf 1000 none (xntmps fn5 [.bool again, .int .i64 depth]) (pre again depth).cs (fset (path 9) (.int .i64 k) (pre again depth).T) (pre again depth).ds (pre again depth).nx (pre again depth).H).opt (xntmps fn5 [.bool again, .int .i64 depth]))
theorem drops_of {again : Bool} {depth k : Int} (hk : six depth = k) (h : gives (rest again depth k) (.bool true) = true) : Sound E 5 [.bool again, .int .i64 depth] ⟨0, .leaf⟩ fun e _ => e = .ret (.bool true) := by
  have hself : fset (path 9) (.int .i64 k) (pre again depth).T = (pre again depth).T := by
    rw [← hk]
    exact fset_self _ _ _ (pre_get again depth) (by simp)
  unfold gives at h
  split at h
  · rename_i a s hr
    have e := AV.same_eq _ _ h
    subst e
    unfold rest at hr
    rw [hself] at hr
    refine (Sound.pieces kf_ok cf_ok rf_ok df_ok hf5 hb5 (pre_eq again depth) hr).mono ?_
    rintro e1 s1 ⟨rfl, _⟩
    rfl
  · cases h
end Go.Proofs.YtmphidppfclaoaaGreatDoor.Bd
