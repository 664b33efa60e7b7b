import Derived.Test.YtmphidppfclaoaaGreatDoorFe
import Derived.ChangeSame
import Derived.Lib.LaidTab
import Derived.Lib.LaidU8
/- FROM A CONTRACT OF THE EVALUATOR's TO A LAW: what was there stays. -/
namespace Go.Abs
open Go.ChangeShapes Go.WideShapes
variable {P : Program}

/-- All that was there stays. -/
structure Kept (W W' : World) : Prop where
  but : W.keptBut W' (fun _ => False)
  frozen : ∀ a : Addr, a.block < W.heap.size → W'.frozen? a = W.frozen? a
  size : W.heap.size ≤ W'.heap.size
  heap : ∀ b, b < W.heap.size → W'.heap[b]? = W.heap[b]?

theorem Stp.kept {m m' : Mu} {n : Nat} {st' : ASt} {W W' : World} (h : Stp m ⟨n, .leaf⟩ W m' st' W') : Kept W W' := by
  have hno : ∀ b, ¬ Owned m ⟨n, .leaf⟩ b := fun b ⟨id, o, r, e, _⟩ => by cases e
  have hb : ∀ b, b < W.heap.size → W'.heap[b]? = W.heap[b]? := fun b hlt => h.fr.block b hlt (hno b)
  refine ⟨⟨h.fr.os, h.fr.output, fun i hi => ?_⟩, fun a ha => ?_, h.fr.size, hb⟩
  · rw [hb i hi]
    cases ho : W.heap[i]? with
    | none => exact rfl
    | some o => cases o <;> first | exact rfl | exact ⟨rfl, rfl, rfl, fun _ _ => rfl⟩ | exact .inr ⟨rfl, rfl⟩
  · unfold World.frozen?
    rw [hb _ ha]

/-- **A LAW's CALL.** -/
theorem Sound.law {E : Env P} {f : FuncId} {args : List AV} {cargs : List Value} {W : World} (K : Nat → Nat → Option Value) (hK : ∀ b o v, K b o = some v → W.cell? ⟨b, o, none⟩ = some v) (hG : GR E ⟨fun _ => none, K⟩)
    (ha : VRs ⟨fun _ => none, K⟩ args cargs) {n : Nat} (h : Sound E f args ⟨n, .leaf⟩ fun e _ => e = .ret (.bool true)) :
    Calls P f ⟨cargs⟩ W fun e W' => e = .returned (.bool true) ∧ Kept W W' := by
  have hnone : ∀ id o, ASt.get ⟨n, .leaf⟩ id = some o → False := fun id o h => by cases h
  have hs0 : SR ⟨fun _ => none, K⟩ ⟨n, .leaf⟩ W := ⟨fun id o h => (hnone id o h).elim, fun id id' o o' _ _ _ h => (hnone id o h).elim, hK, fun b i v ⟨id, o, r, h, _⟩ => (hnone id o h).elim, fun id x h => by cases h⟩
  refine (h _ W cargs hG ha hs0).mono ?_
  rintro e W' ⟨ae, st', m', rfl, hend, hstp⟩
  refine ⟨?_, hstp.kept⟩
  cases hend with
  | ret hv => cases hv; rfl

theorem RowR.of_get {m : Mu} {b : Nat} : ∀ (l : List AV) (o : Nat), (∀ i a, l[i]? = some a → ∃ v, m.K b (o + i) = some v ∧ VR m a v) → RowR m b o l
  | [], o, _ => .nil b o
  | a :: l, o, h => by
    obtain ⟨v, h1, h2⟩ := h 0 a rfl
    refine .cons (v := v) (by simpa using h1) h2 (RowR.of_get l (o + 1) fun i x hx => ?_)
    obtain ⟨v, h1, h2⟩ := h (i + 1) x (by simpa using hx)
    exact ⟨v, by rw [← h1]; congr 1; omega, h2⟩

/-- A TABLE AMONG WHAT IS LAID, wherever it stands on the list. -/
theorem tabIs_of_reads {W : World} {name : String} {k : IntKind} {zs : List Int} {g : Nat} {t e : TypeId} {n : Nat} (hg : P.globalNamed name = some g) (hty : (P.globals[g]?).map (·.type) = some t) (ht : P.underlying t = some (.array n e))
    (he : P.underlying e = some (.int k)) (hce : P.cellsOf e = 1) (hct : P.cellsOf t = n) (h : Lib.VarReads P W name (Lib.tabData k zs)) : Lib.TabIs P W name k zs := by
  obtain ⟨g', t', cs, fuel, p, hg', ht', hvar, hd⟩ := h
  obtain rfl := Option.some.inj (hg.symm.trans hg')
  obtain rfl := Option.some.inj (hty.symm.trans ht')
  unfold Lib.TabIs
  rw [hvar, ← Lib.cells_of_tab ht he hce hct hd]

section
variable {H : Type} {enc : TypeId × Value → H}

/-- As 'post_of_same', of what was there alone. -/
theorem post_of_kept {f : Func} {s : ChangeSpec} {apart fresh handsOn again : Bool} {W W' : World} {args : Array Value} {v : Value} {ds gs : List (DataW H)} {before pa pv : List MemPlace}
    (hW : DataW.Whole enc P f.params.toList s.vars apart W args.toList ds gs before)
    (hres : ∀ (b : Nat) (sp : Nat → Bool) (hd : Bool), DataW.TrodAll enc P W' b sp hd f.resultTypes.toList (v.resultList f.resultTypes.size) (s.fn H (ds ++ gs)).results [])
    (hargs : ∀ sp : Nat → Bool, (∀ p ∈ before, sp p.block = true) → DataW.TrodAll enc P W' 0 sp true f.params.toList args.toList (s.fn H (ds ++ gs)).args pa)
    (hvars : ∀ sp : Nat → Bool, (∀ p ∈ before, sp p.block = true) → DataW.TrodVars enc P W' sp s.vars (s.fn H (ds ++ gs)).vars pv)
    (hps : before = pa ++ pv) (hk : Kept W W')
    (hok : ∀ (j : Nat) (t : TypeId) (r : Value), f.resultTypes[j]? = some t → (v.resultList f.resultTypes.size)[j]? = some r → Value.okWide P W' .any 0 t r) :
    s.post enc P f apart fresh handsOn again W args v W' := by
  have hlt : ∀ p ∈ before, p.block < W.heap.size := fun p hp => by simpa using hW.lt p hp
  have hold : ∀ p ∈ before, (fun b => decide (b < W.heap.size)) p.block = true := fun p hp => by simpa using hW.lt p hp
  refine ⟨ds, gs, before, [], pa, pv, hW, hres _ _ _, hargs _ hold, hvars _ hold, World.keptBut_mono (fun p hp => hp.elim) hk.but, fun _ => ?_⟩
  obtain ⟨_, _, _, _, _, hz, hn⟩ := hW
  refine ⟨hok, _, _, ([] ++ pa) ++ pv, ⟨[] ++ pa, pv, trodAll_append (hargs _ (fun _ _ => rfl)) (hres _ _ _), hvars _ (fun _ _ => rfl), rfl, ?_, ?_⟩, ?_⟩
  · intro b off hp
    have hp' : MemPlace.cell b off ∈ before := by rw [hps]; simpa using hp
    rw [hk.frozen _ (hlt _ hp')]
    exact hz b off hp'
  · intro ha
    have := hn ha
    rw [hps] at this
    simpa using this
  · intro p hp _
    rw [hps]
    simpa using hp
end
end Go.Abs
