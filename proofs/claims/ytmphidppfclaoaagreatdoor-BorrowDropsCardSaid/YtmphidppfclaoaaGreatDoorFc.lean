import Derived.Test.YtmphidppfclaoaaGreatDoorFb
import Derived.Defers
import Derived.OrdersIn
import Derived.LoopNIn
import Derived.RangeFuncLeaves
import Derived.RangeFuncIn
/- CODE: frames, contracts, one operation, a region in the order of its text. -/
namespace Go.Abs
variable {P : Program}

/-- What the program's tables say of calls: closed facts. -/
structure Env2 (E : Env P) where
  /-- functions with a body -/
  ent : FuncId → Bool
  ent_ok : ∀ f, ent f = true → ∀ args w, (callFunc f args).run P w = .ok (.enter f args) w
  /-- functions without a body that answer at once -/
  ext : FuncId → List AV → Option AV
  /-- functions behind whose result, a slice, nothing is kept in mind -/
  trim : FuncId → Bool
  ext_ok : ∀ f as a, ext f as = some a → ∀ m as', VRs m as as' → ∃ v, VR m a v ∧ ∀ w, (callFunc f ⟨as'⟩).run P w = .ok (.value v) w

inductive ADef where
  | call (f : FuncId) (args : List AV)
  | mark (id : Nat)

inductive DefR (m : Mu) : ADef → Deferred → Prop
  | call {f : FuncId} {as : List AV} {args cap : Array Value} (h : VRs m as (args.toList ++ cap.toList)) : DefR m (.call f as) { target := .fn (.func f) cap, args }
  | mark {id b r : Nat} (h : m.loc id = some (b, r)) : DefR m (.mark id) { target := .collected b, args := #[] }

inductive DefsR (m : Mu) : List ADef → List Deferred → Prop
  | nil : DefsR m [] []
  | cons {a : ADef} {d : Deferred} {as : List ADef} {ds : List Deferred} (h : DefR m a d) (t : DefsR m as ds) : DefsR m (a :: as) (d :: ds)

theorem DefR.mono {m m' : Mu} (e : Ext m m') {a : ADef} {d : Deferred} (h : DefR m a d) : DefR m' a d := by
  cases h with
  | call h => exact .call (h.mono e)
  | mark h => exact .mark (e.loc _ _ h)
theorem DefsR.mono {m m' : Mu} (e : Ext m m') : ∀ {as ds}, DefsR m as ds → DefsR m' as ds
  | _, _, .nil => .nil
  | _, _, .cons h t => .cons (h.mono e) (DefsR.mono e t)

structure AFr where
  tmps : List AV
  defers : List ADef

structure ActR (m : Mu) (fr : AFr) (a : Act) : Prop where
  tmps : VRs m fr.tmps a.tmps.toList
  defers : DefsR m fr.defers a.defers

theorem ActR.mono {m m' : Mu} (e : Ext m m') {fr : AFr} {a : Act} (h : ActR m fr a) : ActR m' fr a := ⟨h.tmps.mono e, h.defers.mono e⟩

def AFr.put (fr : AFr) (dst : Option Tmp) (v : AV) : AFr :=
  match dst with
  | some d => { fr with tmps := fr.tmps.set d v }
  | none => fr

theorem ActR.put {m : Mu} {fr : AFr} {a : Act} (h : ActR m fr a) (dst : Option Tmp) {v : AV} {v' : Value} (hv : VR m v v') : ActR m (fr.put dst v) (a.put dst v') := by
  cases dst with
  | none => exact h
  | some d =>
    refine ⟨?_, h.defers⟩
    simp only [AFr.put, Act.put]
    rw [Array.toList_setIfInBounds]
    exact h.tmps.set d hv

inductive AEnd where
  | ret (v : AV)
  | pan (v : AV)

inductive EndR (m : Mu) : AEnd → Ending → Prop
  | ret {a : AV} {v : Value} (h : VR m a v) : EndR m (.ret a) (.returned v)
  | pan {a : AV} {v : Value} (h : VR m a v) : EndR m (.pan a) (.panicked [{ v, recovered := false }])

inductive AExit where
  | normal
  | exit (id : Nat)
  | ret
  | pan (v : AV)

inductive ExR (m : Mu) : AExit → Exit → Prop
  | normal : ExR m .normal .normal
  | exit (id : Nat) : ExR m (.exit id) (.exit id)
  | ret : ExR m .ret .ret
  | pan {a : AV} {v : Value} (h : VR m a v) : ExR m (.pan a) (.panic [{ v, recovered := false }])

/-- A CONTRACT: what a call of f comes to, in whatever world that is related. -/
def Sound (E : Env P) (f : FuncId) (args : List AV) (st : ASt) (Q : AEnd → ASt → Prop) : Prop :=
  ∀ m w (cargs : List Value), GR E m → VRs m args cargs → SR m st w →
    Calls P f ⟨cargs⟩ w fun e w' => ∃ ae st' m', Q ae st' ∧ EndR m' ae e ∧ Stp m st w m' st' w'

theorem Sound.mono {E : Env P} {f : FuncId} {args : List AV} {st : ASt} {Q Q' : AEnd → ASt → Prop} (h : Sound E f args st Q) (hq : ∀ e s, Q e s → Q' e s) : Sound E f args st Q' :=
  fun m w cargs hG ha hs => (h m w cargs hG ha hs).mono fun _ _ ⟨ae, st', m', q, r⟩ => ⟨ae, st', m', hq _ _ q, r⟩

/-! ## one operation -/
/-- What an operation comes to. -/
inductive ANext where
  /-- a value for its temporary -/
  | value (v : AV)
  | skip
  | defer (d : ADef)
  | pan (v : AV)
  | call (f : FuncId) (args : List AV)
  | yield (l : Nat) (args : List AV)

def acallee (ρ : Operand → Option AV) (f : Operand) (args : List AV) : Option ANext :=
  match ρ f with
  | some (.func g first captured) => some (.call g (first ++ args ++ captured))
  | some (.yield l) => some (.yield l args)
  | _ => none

/-- One operation; new objects get the numbers from 'st.next' on. -/
def aop (E : Env P) (ρ : Operand → Option AV) (st : ASt) (op : Op) : Option (ANext × ASt) :=
  match apure E ρ op with
  | some v => some (.value v, st)
  | none =>
    match aalloc E ρ st.next op with
    | some (v, nw) => some (.value v, st.putNew st.next (st.next + 1) nw)
    | none =>
      match aread E ρ st op with
      | some v => some (.value v, st)
      | none =>
        match aeffect E ρ st op with
        | some (some v, st') => some (.value v, st')
        | some (none, st') => some (.skip, st')
        | none =>
          match op with
          | .call { callee := .value f, args, .. } => (aargs ρ args.toList).bind fun as => (acallee ρ f as).map fun n => (n, st)
          | .defer { callee := .value f, args, .. } =>
            match ρ f, aargs ρ args.toList with
            | some (.func g first captured), some as => some (.defer (.call g (first ++ as ++ captured)), st)
            | _, _ => none
          | .panic x => match ρ x with
            | some (.iface t v) => some (.pan (.iface t v), st)
            | _ => none
          | _ => none

/-- The model's step, and what it is to ours. -/
inductive StepR (m : Mu) : ANext → Result Next → World → Prop
  | value {a : AV} {v : Value} {w : World} (h : VR m a v) : StepR m (.value a) (.ok (.value v) w) w
  | skip {w : World} : StepR m .skip (.ok .skip w) w
  | defer {a : ADef} {d : Deferred} {w : World} (h : DefR m a d) : StepR m (.defer a) (.ok (.defer d) w) w
  | pan {a : AV} {v : Value} {w : World} (h : VR m a v) : StepR m (.pan a) (.halt (.panic v) w) w

theorem aop_ok {E : Env P} {m : Mu} {st st' : ASt} {w : World} (hs : SR m st w) {ρ : Operand → Option AV} {ρ' : Operand → Value} (hk : ∀ v, ρ' (.const v) = v) (hρ : ∀ x a, ρ x = some a → VR m a (ρ' x)) {o : Oper} {n : ANext}
    (h : aop E ρ st o.op = some (n, st')) :
    (∃ w' m', StepR m' n ((execOp ρ' o).run P w) w' ∧ Stp m st w m' st' w') ∨
    (st' = st ∧ ∃ f as cargs, n = .call f as ∧ VRs m as cargs ∧ (execOp ρ' o).run P w = (callFunc f ⟨cargs⟩).run P w) ∨
    (st' = st ∧ ∃ l as b r cargs, n = .yield l as ∧ VRs m as cargs ∧ m.loc l = some (b, r) ∧ (execOp ρ' o).run P w = (Instr.yield b ⟨cargs⟩).run P w) := by
  unfold aop at h
  split at h
  · rename_i v hp
    cases h
    obtain ⟨v', h1, h2⟩ := apure_ok hk hρ hp
    exact .inl ⟨w, m, by rw [h2 w]; exact .value h1, .refl hs⟩
  · split at h
    · rename_i v nw hp
      cases h
      have hfree := hs.free (Nat.le_refl st.next)
      obtain ⟨v', ob, m', h1, h2, h3, h4⟩ := aalloc_ok hρ hp hfree w hs.noK
      exact .inl ⟨_, m', by rw [h1]; exact .value h4, hs.allocNew hfree (Nat.le_succ _) (Nat.lt_succ_self _) (Nat.le_refl _) h2⟩
    · split at h
      · rename_i v hp
        cases h
        obtain ⟨v', h1, h2⟩ := aread_ok hs hρ hp
        exact .inl ⟨w, m, by rw [h2]; exact .value h1, .refl hs⟩
      · split at h
        · rename_i v s hp
          cases h
          obtain ⟨nx, w', m', h1, h2, h3⟩ := aeffect_ok hs hρ hp
          cases h2 with
          | value hv => exact .inl ⟨w', m', by rw [h1]; exact .value hv, h3⟩
        · rename_i s hp
          cases h
          obtain ⟨nx, w', m', h1, h2, h3⟩ := aeffect_ok hs hρ hp
          cases h2 with
          | skip => exact .inl ⟨w', m', by rw [h1]; exact .skip, h3⟩
        · split at h
          · rename_i f args ts e
            cases ha : aargs ρ args.toList with
            | none => rw [ha] at h; cases h
            | some as =>
              rw [ha] at h
              simp only [Option.bind_some] at h
              have hargs := aargs_ok hρ ha
              rw [← Array.toList_map] at hargs
              unfold acallee at h
              split at h
              · rename_i g first captured hf
                cases h
                have hv := hρ _ _ hf
                generalize hq : ρ' f = q at hv
                cases hv with
                | func _ h1 h2 =>
                  rename_i first' captured'
                  refine .inr (.inl ⟨rfl, g, _, first' ++ (args.map ρ').toList ++ captured', rfl, (h1.append hargs).append h2, ?_⟩)
                  simp only [execOp, e, resolve, Sem.run_bind, Deferred.ofValue, hq, Sem.run_pure, Result.andThen_ok, invoke]
                  congr 2
                  apply Array.ext'
                  simp
              · rename_i l hf
                cases h
                have hv := hρ _ _ hf
                generalize hq : ρ' f = q at hv
                cases hv with
                | yield hl =>
                  refine .inr (.inr ⟨rfl, l, as, _, _, (args.map ρ').toList, rfl, hargs, hl, ?_⟩)
                  simp only [execOp, e, resolve, Sem.run_bind, Deferred.ofValue, hq, Sem.run_pure, Result.andThen_ok, invoke]
                  congr 2
                  apply Array.ext'
                  simp
              · cases h
          · rename_i f args ts e
            split at h
            · rename_i g first captured as hf ha
              cases h
              have hargs := aargs_ok hρ ha
              rw [← Array.toList_map] at hargs
              have hv := hρ _ _ hf
              generalize hq : ρ' f = q at hv
              cases hv with
              | func _ h1 h2 =>
                rename_i first' captured'
                refine .inl ⟨w, m, ?_, .refl hs⟩
                have : (execOp ρ' o).run P w = .ok (.defer { target := .fn (.func g) ⟨captured'⟩, args := ⟨first'⟩ ++ args.map ρ' }) w := by
                  simp only [execOp, e, resolve, Sem.run_bind, Deferred.ofValue, hq, Sem.run_pure, Result.andThen_ok]
                rw [this]
                refine .defer (.call ?_)
                rw [Array.toList_append]
                exact (h1.append hargs).append h2
            · cases h
          · rename_i x e
            split at h
            · rename_i t v hx
              cases h
              have hv := hρ _ _ hx
              generalize hq : ρ' x = q at hv
              cases hv with
              | iface _ hv =>
                rename_i v'
                refine .inl ⟨w, m, ?_, .refl hs⟩
                have : (execOp ρ' o).run P w = .halt (.panic (.iface t v')) w := by
                  simp only [execOp, e, hq, Instr.panic, Sem.run_bind, run_goPanic, Result.andThen_halt]
                rw [this]
                exact .pan (.iface t hv)
            · cases h
          · cases h

end Go.Abs

/- CODE: regions in the order of their text; the structure of code. -/
namespace Go.Abs
variable {P : Program}

/-! ## guards -/
def ayielded (ops : Array Oper) (tmps : List AV) (j : Nat) : Option Bool :=
  match ((ops[j]?).bind (·.dst)).bind (tmps[·]?) with
  | some (.bool b) => some b
  | _ => none

def awanted (ops : Array Oper) (tmps : List AV) (o : Oper) : Bool :=
  match o.guard with
  | none => true
  | some (j, want) => ayielded ops tmps j == some want

theorem ayielded_eq {m : Mu} {ops : Array Oper} {tmps : List AV} {tmps' : Array Value} (h : VRs m tmps tmps'.toList) (j : Nat) : yielded ops tmps' j = ayielded ops tmps j := by
  unfold yielded ayielded
  cases hd : (ops[j]?).bind (·.dst) with
  | none => rfl
  | some d =>
    simp only [Option.bind_some]
    cases ha : tmps[d]? with
    | none =>
      have : tmps'[d]? = none := by
        cases hv : tmps'[d]? with
        | none => rfl
        | some v =>
          obtain ⟨a, h1, _⟩ := h.get' (i := d) (v := v) (by simpa using hv)
          rw [ha] at h1; cases h1
      rw [this]
    | some a =>
      obtain ⟨v, h1, h2⟩ := h.get ha
      have : tmps'[d]? = some v := by simpa using h1
      rw [this]
      cases h2 <;> rfl

theorem awanted_eq {m : Mu} {ops : Array Oper} {tmps : List AV} {tmps' : Array Value} (h : VRs m tmps tmps'.toList) (o : Oper) : Region.wanted o (yielded ops tmps') = awanted ops tmps o := by
  unfold Region.wanted awanted
  cases o.guard with
  | none => rfl
  | some g => simp only [ayielded_eq h]

/-! ## the post of a piece of code -/
/-- In a round of which loop (an object's number); none: in a function's own frame. -/
def fence : Option Nat → Fence
  | none => Fence.wide
  | some b => Fence.wide.inRound b

inductive RdR (m : Mu) : Option Nat → Option Nat → Prop
  | none : RdR m none none
  | some {l b r : Nat} (h : m.loc l = some (b, r)) : RdR m (some l) (some b)

theorem RdR.mono {m m' : Mu} (e : Ext m m') {a b : Option Nat} (h : RdR m a b) : RdR m' a b := by
  cases h with
  | none => exact .none
  | some h => exact .some (e.loc _ _ h)

theorem fence_fn (b : Option Nat) (f : FuncId) : (fence b).fn f := by cases b <;> trivial
theorem fence_depth (b : Option Nat) : (fence b).depth = none := by cases b <;> rfl
theorem fence_round (b : Option Nat) : (fence b).round = b := by cases b <;> rfl
theorem calls_fence {b : Option Nat} {n : Nat} {f : FuncId} {args : Array Value} {w : World} {R : Ending → World → Prop} (h : Calls P f args w R) : CallsIn (fence b) n P f args w R := by
  cases b with
  | none => exact callsIn_wide.2 h
  | some l => exact callsIn_wide.2 h

theorem round_fence {b : Option Nat} {n n' : Nat} {l : Nat} {f : FuncId} {tmps : Array Value} {assign body : Code} {w : World} {R : Ending → World → Prop}
    (h : RoundIn Fence.wide n P l f tmps assign body w R) : RoundIn (fence b) n' P l f tmps assign body w R := by
  cases b with
  | none => exact ⟨trivial, fun c cs _ => h.2 c cs (room_wide _)⟩
  | some l => exact ⟨trivial, fun c cs _ => h.2 c cs (room_wide _)⟩

def Post (Q : AExit → AFr → ASt → Prop) (m : Mu) (st : ASt) (w : World) : Exit → Act → World → Prop :=
  fun e a' w' => ∃ ae fr' st' m', Q ae fr' st' ∧ ExR m' ae e ∧ ActR m' fr' a' ∧ Stp m st w m' st' w'

theorem Post.back {Q : AExit → AFr → ASt → Prop} {m m1 : Mu} {st st1 : ASt} {w w1 : World} (h : Stp m st w m1 st1 w1) {e : Exit} {a : Act} {w' : World} (k : Post Q m1 st1 w1 e a w') : Post Q m st w e a w' := by
  obtain ⟨ae, fr', st', m', q, r1, r2, r3⟩ := k
  exact ⟨ae, fr', st', m', q, r1, r2, h.trans r3⟩

/-- A PIECE OF CODE, from a frame and a state on. -/
def ACode (E : Env P) (rd : Option Nat) (c : Code) (fr : AFr) (st : ASt) (Q : AExit → AFr → ASt → Prop) : Prop :=
  ∀ m w a b, RdR m rd b → GR E m → ActR m fr a → SR m st w → c.wpIn (fence b) 0 P (Post Q m st w) a w

theorem ACode.mono {E : Env P} {rd : Option Nat} {c : Code} {fr : AFr} {st : ASt} {Q Q' : AExit → AFr → ASt → Prop} (h : ACode E rd c fr st Q) (hq : ∀ e f s, Q e f s → Q' e f s) : ACode E rd c fr st Q' :=
  fun m w a b hr hG ha hs => wpIn_mono (h m w a b hr hG ha hs) fun _ _ _ ⟨ae, fr', st', m', q, r⟩ => ⟨ae, fr', st', m', hq _ _ _ q, r⟩

/-- Operations, in a given order. -/
def AOps (E : Env P) (rd : Option Nat) (ops : Array Oper) (l : List Nat) (fr : AFr) (st : ASt) (Q : AExit → AFr → ASt → Prop) : Prop :=
  ∀ m w a b, RdR m rd b → GR E m → ActR m fr a → SR m st w → wpOpsIn (fence b) 0 P ops (Post Q m st w) l a w

theorem Oper.wpIn_monoQ {F : Fence} {n : Nat} {o : Oper} {a : Act} {w : World} {K K' : Act → World → Prop} {Q Q' : Exit → Act → World → Prop} (h : ∀ a w, K a w → K' a w) (hq : ∀ e a w, Q e a w → Q' e a w)
    (hh : o.wpIn F n P a w K Q) : o.wpIn F n P a w K' Q' := by
  unfold Oper.wpIn at *
  refine ⟨hh.1, ?_⟩
  have hh := hh.2
  have hl : LetsOut Q → LetsOut Q' := fun ⟨a1, w1, q⟩ => ⟨a1, w1, hq _ _ _ q⟩
  generalize (o.semAt F.round a.eval).run P w = r at *
  cases r with
  | ok x w' =>
    cases x <;> simp only [Oper.uponIn] at hh ⊢
    case value => exact h _ _ hh
    case skip => exact h _ _ hh
    case defer => exact h _ _ hh
    case enter f args =>
      refine ⟨hh.1, CallsIn.mono hh.2 fun e w2 he => ?_⟩
      cases e with
      | returned v => exact h _ _ he
      | panicked c => exact hq _ _ _ he
      | outgrown => exact hl he
    case row => exact ⟨hh.1, RowsIn.mono hh.2 (fun _ _ he => h _ _ he)⟩
    case round =>
      refine ⟨hh.1, RoundIn.mono hh.2 fun e w2 he => ?_⟩
      cases e with
      | returned v => exact h _ _ he
      | panicked c => exact hq _ _ _ he
      | outgrown => exact hl he
  | halt x w' =>
    cases x <;> simp only [Oper.uponIn] at hh ⊢
    exact hq _ _ _ hh

theorem wpOpsIn_mono {F : Fence} {n : Nat} {ops : Array Oper} {Q Q' : Exit → Act → World → Prop} (hq : ∀ e a w, Q e a w → Q' e a w) : ∀ (l : List Nat) (a : Act) (w : World), wpOpsIn F n P ops Q l a w → wpOpsIn F n P ops Q' l a w
  | [], a, w, h => hq _ _ _ h
  | i :: rest, a, w, h => by
    simp only [wpOpsIn] at h ⊢
    split
    · rename_i hi; simp only [hi] at h; exact wpOpsIn_mono hq rest _ _ h
    · rename_i o hi
      simp only [hi] at h
      split
      · rename_i hw
        simp only [hw, if_true] at h
        exact Oper.wpIn_monoQ (fun a w => wpOpsIn_mono hq rest a w) hq h
      · rename_i hw
        simp only [hw, Bool.false_eq_true, if_false] at h
        exact ⟨h.1, wpOpsIn_mono hq rest _ _ h.2⟩

theorem AOps.nil {E : Env P} {rd : Option Nat} {ops : Array Oper} {fr : AFr} {st : ASt} {Q : AExit → AFr → ASt → Prop} (h : Q .normal fr st) : AOps E rd ops [] fr st Q :=
  fun m _ _ _ _ _ ha hs => ⟨.normal, fr, st, m, h, .normal, ha, .refl hs⟩

theorem AOps.unwanted {E : Env P} {rd : Option Nat} {ops : Array Oper} {i : Nat} {l : List Nat} {o : Oper} {fr : AFr} {st : ASt} {Q : AExit → AFr → ASt → Prop} (ho : ops[i]? = some o) (hw : awanted ops fr.tmps o = false)
    (h : AOps E rd ops l (fr.put o.dst .undef) st Q) : AOps E rd ops (i :: l) fr st Q := by
  intro m w a b hr hG ha hs
  simp only [wpOpsIn, ho]
  rw [if_neg (by rw [awanted_eq ha.tmps, hw]; simp)]
  exact ⟨fun f _ => fence_fn b f, h m w _ b hr hG (ha.put o.dst .undef) hs⟩

/-- A round of a loop: what the body, from yield's temporaries on, comes to; and the record behind it. -/
def ARound (E : Env P) (l : Nat) (as : List AV) (st : ASt) (Q : AV → ASt → Prop) : Prop :=
  ∀ m w b r (cargs : List Value), GR E m → VRs m as cargs → SR m st w → m.loc l = some (b, r) →
    ∃ f tmps assign body, (Instr.yield b ⟨cargs⟩).run P w = .ok (.round b f tmps assign body) w ∧
      RoundIn Fence.wide 0 P b f tmps assign body w fun e w' => ∃ a v st' m', Q a st' ∧ e = .returned v ∧ VR m' a v ∧ Stp m st w m' st' w'

/-- What comes behind an operation that comes to 'n'. -/
def AThen (E : Env P) (E2 : Env2 E) (rd : Option Nat) (ops : Array Oper) (l : List Nat) (o : Oper) (fr : AFr) (st : ASt) (Q : AExit → AFr → ASt → Prop) : ANext → Prop
  | .value v => AOps E rd ops l (fr.put o.dst v) st Q
  | .skip => AOps E rd ops l (fr.put o.dst .undef) st Q
  | .defer d => rd = none ∧ AOps E rd ops l (({ fr with defers := d :: fr.defers } : AFr).put o.dst .undef) st Q
  | .pan v => Q (.pan v) fr st
  | .call f as =>
    (∃ v, E2.ext f as = some v ∧ AOps E rd ops l (fr.put o.dst v) st Q) ∨
    (E2.ent f = true ∧ Sound E f as st fun e st' => match e with
      | .ret v => AOps E rd ops l (fr.put o.dst v) st' Q
      | .pan v => Q (.pan v) fr st')
  | .yield y as => ARound E y as st fun v st' => AOps E rd ops l (fr.put o.dst v) st' Q

theorem semAt_eq {b : Option Nat} {ρ : Operand → Value} {o : Oper} (h : b = none ∨ ∀ c, o.op ≠ .defer c) : o.semAt b ρ = execOp ρ o := by
  cases b with
  | none => rfl
  | some l =>
    have h := h.resolve_left (by simp)
    unfold Oper.semAt
    split
    · rename_i h2; exact absurd h2 (h _)
    · rfl

theorem aop_defer {E : Env P} {ρ : Operand → Option AV} {st st' : ASt} {c : Call} {n : ANext} (h : aop E ρ st (.defer c) = some (n, st')) : ∃ d, n = .defer d := by
  simp only [aop, apure, aalloc, aread, aeffect] at h
  obtain ⟨callee, args, ts⟩ := c
  cases callee <;> simp only [reduceCtorEq] at h
  split at h
  · cases h; exact ⟨_, rfl⟩
  · cases h

theorem AOps.step {E : Env P} {E2 : Env2 E} {rd : Option Nat} {ops : Array Oper} {i : Nat} {l : List Nat} {o : Oper} {fr : AFr} {st st' : ASt} {Q : AExit → AFr → ASt → Prop} {n : ANext} (ho : ops[i]? = some o)
    (hw : awanted ops fr.tmps o = true) (hop : aop E (aeval E fr.tmps) st o.op = some (n, st')) (h : AThen E E2 rd ops l o fr st' Q n) : AOps E rd ops (i :: l) fr st Q := by
  intro m w a b hrd hG ha hs
  simp only [wpOpsIn, ho]
  rw [if_pos (by rw [awanted_eq ha.tmps, hw])]
  refine ⟨fun f _ => fence_fn b f, ?_⟩
  rw [fence_round]
  have hρ : ∀ x v, aeval E fr.tmps x = some v → VR m v (a.eval x) := fun x v hx => aeval_ok hG ha.tmps hx
  have hsem : o.semAt b a.eval = execOp a.eval o := by
    refine semAt_eq ?_
    by_cases hd : ∃ c, o.op = .defer c
    · obtain ⟨c, hc⟩ := hd
      rw [hc] at hop
      obtain ⟨d, rfl⟩ := aop_defer hop
      have := h.1
      subst this
      cases hrd
      exact .inl rfl
    · exact .inr fun c hc => hd ⟨c, hc⟩
  rw [hsem]
  rcases aop_ok hs (fun _ => rfl) hρ hop with ⟨w', m', hr, hstp⟩ | ⟨rfl, f, as, cargs, rfl, hargs, hr⟩ | ⟨rfl, y, as, yb, r, cargs, rfl, hargs, hyl, hr⟩
  · generalize hq : (execOp a.eval o).run P w = res at hr
    cases hr with
    | value hv =>
      simp only [Oper.uponIn]
      exact wpOpsIn_mono (fun _ _ _ => Post.back hstp) _ _ _ (h m' _ _ b (hrd.mono hstp.ext) (hG.mono hstp.ext) ((ha.mono hstp.ext).put o.dst hv) hstp.sr)
    | skip =>
      simp only [Oper.uponIn]
      exact wpOpsIn_mono (fun _ _ _ => Post.back hstp) _ _ _ (h m' _ _ b (hrd.mono hstp.ext) (hG.mono hstp.ext) ((ha.mono hstp.ext).put o.dst .undef) hstp.sr)
    | defer hd =>
      simp only [Oper.uponIn]
      have ha' := ha.mono hstp.ext
      refine wpOpsIn_mono (fun _ _ _ => Post.back hstp) _ _ _ (h.2 m' _ _ b (hrd.mono hstp.ext) (hG.mono hstp.ext) (ActR.put ?_ o.dst .undef) hstp.sr)
      exact ⟨ha'.tmps, .cons hd ha'.defers⟩
    | pan hv =>
      simp only [Oper.uponIn]
      exact ⟨.pan _, fr, st', m', h, .pan hv, ha.mono hstp.ext, hstp⟩
  · rcases h with ⟨v, hx, h⟩ | ⟨hent, h⟩
    · obtain ⟨v', h1, h2⟩ := E2.ext_ok f as v hx m cargs hargs
      rw [hr, h2 w]
      simp only [Oper.uponIn]
      exact h m w _ b hrd hG (ha.put o.dst h1) hs
    · rw [hr, E2.ent_ok f hent]
      simp only [Oper.uponIn]
      refine ⟨fun hd => by rw [fence_depth] at hd; simp at hd, calls_fence ((h m w cargs hG hargs hs).mono fun e w' hh => ?_)⟩
      obtain ⟨ae, st2, m', hq, he, hstp⟩ := hh
      cases he with
      | ret hv => exact wpOpsIn_mono (fun _ _ _ => Post.back hstp) _ _ _ (hq m' _ _ b (hrd.mono hstp.ext) (hG.mono hstp.ext) ((ha.mono hstp.ext).put o.dst hv) hstp.sr)
      | pan hv => exact ⟨.pan _, fr, st2, m', hq, .pan hv, ha.mono hstp.ext, hstp⟩
  · obtain ⟨f, tmps, assign, body, hy, hround⟩ := h m w yb r cargs hG hargs hs hyl
    rw [hr, hy]
    simp only [Oper.uponIn]
    refine ⟨fun hd => by rw [fence_depth] at hd; simp at hd, ?_⟩
    refine (round_fence hround).mono fun e w' hh => ?_
    obtain ⟨a1, v, st2, m', hq, rfl, hv, hstp⟩ := hh
    exact wpOpsIn_mono (fun _ _ _ => Post.back hstp) _ _ _ (hq m' _ _ b (hrd.mono hstp.ext) (hG.mono hstp.ext) ((ha.mono hstp.ext).put o.dst hv) hstp.sr)

/-! ## the structure of code -/
theorem ACode.region {E : Env P} {rd : Option Nat} {id : Nat} {ops : Array Oper} {fr : AFr} {st : ASt} {Q : AExit → AFr → ASt → Prop} (h : AOps E rd ops (List.range ops.size) fr st Q) :
    ACode E rd (.region id ops false) fr st Q :=
  fun m w a b hr hG ha hs => wpIn_region (h m w a b hr hG ha hs)

theorem ACode.skip {E : Env P} {rd : Option Nat} {fr : AFr} {st : ASt} {Q : AExit → AFr → ASt → Prop} (h : Q .normal fr st) : ACode E rd .skip fr st Q :=
  fun m _ _ _ _ _ ha hs => wpIn_skip ⟨.normal, fr, st, m, h, .normal, ha, .refl hs⟩

theorem ACode.label {E : Env P} {rd : Option Nat} {l : Nat} {fr : AFr} {st : ASt} {Q : AExit → AFr → ASt → Prop} (h : Q .normal fr st) : ACode E rd (.label l) fr st Q :=
  fun m _ _ _ _ _ ha hs => wpIn_label ⟨.normal, fr, st, m, h, .normal, ha, .refl hs⟩

theorem ACode.exit {E : Env P} {rd : Option Nat} {id : Nat} {fr : AFr} {st : ASt} {Q : AExit → AFr → ASt → Prop} (h : Q (.exit id) fr st) : ACode E rd (.exit id) fr st Q :=
  fun m _ _ _ _ _ ha hs => wpIn_exit ⟨.exit id, fr, st, m, h, .exit id, ha, .refl hs⟩

theorem ACode.ret {E : Env P} {rd : Option Nat} {fr : AFr} {st : ASt} {Q : AExit → AFr → ASt → Prop} (h : Q .ret fr st) : ACode E rd .ret fr st Q :=
  fun m _ _ _ _ _ ha hs => wpIn_ret ⟨.ret, fr, st, m, h, .ret, ha, .refl hs⟩

theorem ACode.seq {E : Env P} {rd : Option Nat} {x y : Code} {fr : AFr} {st : ASt} {Q : AExit → AFr → ASt → Prop}
    (h : ACode E rd x fr st fun e fr' st' => match e with
      | .normal => ACode E rd y fr' st' Q
      | e => Q e fr' st') : ACode E rd (.seq x y) fr st Q := by
  intro m w a b hrd hG ha hs
  refine wpIn_seq (wpIn_mono (h m w a b hrd hG ha hs) fun e a' w' ⟨ae, fr', st', m', q, r1, r2, r3⟩ => ?_)
  cases r1 with
  | normal => exact wpIn_mono (q m' w' a' b (hrd.mono r3.ext) (hG.mono r3.ext) r2 r3.sr) fun _ _ _ => Post.back r3
  | exit id => exact ⟨_, fr', st', m', q, .exit id, r2, r3⟩
  | ret => exact ⟨_, fr', st', m', q, .ret, r2, r3⟩
  | pan hv => exact ⟨_, fr', st', m', q, .pan hv, r2, r3⟩

theorem ACode.cond {E : Env P} {rd : Option Nat} {c : Operand} {x y : Code} {fr : AFr} {st : ASt} {Q : AExit → AFr → ASt → Prop} {b : Bool} (hc : aeval E fr.tmps c = some (.bool b))
    (h : ACode E rd (if b then x else y) fr st Q) : ACode E rd (.cond c x y) fr st Q := by
  intro m w a bb hrd hG ha hs
  have hv := aeval_ok hG ha.tmps hc
  generalize hq : a.eval c = q at hv
  cases hv
  exact wpIn_cond hq (h m w a bb hrd hG ha hs)

theorem ACode.block {E : Env P} {rd : Option Nat} {id : Nat} {c : Code} {fr : AFr} {st : ASt} {Q : AExit → AFr → ASt → Prop}
    (h : ACode E rd c fr st fun e fr' st' => match e with
      | .exit id' => if id' = id then Q .normal fr' st' else Q (.exit id') fr' st'
      | e => Q e fr' st') : ACode E rd (.block id c) fr st Q := by
  intro m w a b hrd hG ha hs
  refine wpIn_block (wpIn_mono (h m w a b hrd hG ha hs) fun e a' w' ⟨ae, fr', st', m', q, r1, r2, r3⟩ => ?_)
  cases r1 with
  | normal => exact ⟨_, fr', st', m', q, .normal, r2, r3⟩
  | exit id' =>
    simp only [Exit.inBlock]
    simp only at q
    split
    · rename_i he; rw [if_pos he] at q; exact ⟨_, fr', st', m', q, .normal, r2, r3⟩
    · rename_i he; rw [if_neg he] at q; exact ⟨_, fr', st', m', q, .exit id', r2, r3⟩
  | ret => exact ⟨_, fr', st', m', q, .ret, r2, r3⟩
  | pan hv => exact ⟨_, fr', st', m', q, .pan hv, r2, r3⟩

/-! ## a scope whose labels nobody jumps to -/
section
variable {b : Frame} {a : Act} {k : List Item} {cs : List Frame} {w : World}
theorem stepR_scope {c : Code} : step P (lone (b.atR a (.code (.scope c) :: k)) cs w) = .next (lone (b.atR a (.code c :: .inScope c :: k)) cs w) :=
  step_lone_go (by simp [stepG, stepG.exec, Frame.atR])
theorem stepR_inScope {c : Code} : step P (lone (b.atR a (.inScope c :: k)) cs w) = .next (lone (b.atR a k) cs w) :=
  step_lone_go (by simp [stepG, stepG.exec, Frame.atR])

theorem wpIn_scope {F : Fence} {n : Nat} {Q : Exit → Act → World → Prop} {c : Code} (h : c.wpIn F n P (fun e a w => (∀ l, e ≠ .goto l) ∧ Q e a w) a w) : (Code.scope c).wpIn F n P Q a w := by
  intro b k cs hro hb hr
  have h0 : (lone (b.atR a (.code (.scope c) :: k)) cs w).fenced P F := fenced_calm hb hr rfl
  obtain ⟨e, a₁, w₁, ⟨hng, hq⟩, harr⟩ := h b (.inScope c :: k) cs hro hb hr
  cases e with
  | normal => exact ⟨.normal, a₁, w₁, hq, .head h0 stepR_scope (StepsIn.trans harr (.one (fenced_calm hb hr rfl) stepR_inScope))⟩
  | exit id =>
    have hx : exitTo id (.inScope c :: k) = exitTo id k := by simp [exitTo]
    exact ⟨.exit id, a₁, w₁, hq, fun k' hk => .head h0 stepR_scope (harr.1 k' (by rw [hx]; exact hk)),
      fun hr' hk => let ⟨k₁, h1, h2⟩ := harr.2 hr' (by rw [hx]; exact hk); ⟨k₁, h1, .head h0 stepR_scope h2⟩⟩
  | goto l => exact absurd rfl (hng l)
  | ret => exact ⟨_, a₁, w₁, hq, .of_steps (.one h0 stepR_scope) harr⟩
  | panic ch => exact ⟨_, a₁, w₁, hq, .of_steps (.one h0 stepR_scope) harr⟩
  | outgrown => exact ⟨_, a₁, w₁, hq, .of_steps (.one h0 stepR_scope) harr⟩
end

theorem ACode.scope {E : Env P} {rd : Option Nat} {c : Code} {fr : AFr} {st : ASt} {Q : AExit → AFr → ASt → Prop} (h : ACode E rd c fr st Q) : ACode E rd (.scope c) fr st Q := by
  intro m w a b hrd hG ha hs
  refine wpIn_scope (wpIn_mono (h m w a b hrd hG ha hs) ?_)
  rintro e a' w' ⟨ae, fr', st', m', q, r1, r2, r3⟩
  refine ⟨fun l he => ?_, ae, fr', st', m', q, r1, r2, r3⟩
  subst he
  cases r1

/-- A loop that ends within n rounds. -/
def ARounds (E : Env P) (rd : Option Nat) (c : Code) (Q : AExit → AFr → ASt → Prop) : Nat → AFr → ASt → Prop
  | 0, _, _ => False
  | n + 1, fr, st => ACode E rd c fr st fun e fr' st' => match e with
    | .normal => ARounds E rd c Q n fr' st'
    | e => Q e fr' st'

theorem ACode.loop {E : Env P} {rd : Option Nat} {c : Code} {fr : AFr} {st : ASt} {Q : AExit → AFr → ASt → Prop} (n : Nat) (h : ARounds E rd c Q n fr st) : ACode E rd (.loop c) fr st Q := by
  intro m w a b hrd hG ha hs
  refine wpIn_loop_rounds n ?_
  have key : ∀ (n : Nat) (fr : AFr) (st1 : ASt) (m1 : Mu) (w1 : World) (a1 : Act), ARounds E rd c Q n fr st1 → RdR m1 rd b → GR E m1 → ActR m1 fr a1 → Stp m st w m1 st1 w1 →
      Code.roundsIn (fence b) 0 P c (Post Q m st w) n a1 w1 := by
    intro n
    induction n with
    | zero => intro fr st1 m1 w1 a1 h; exact h.elim
    | succ n ih =>
      intro fr st1 m1 w1 a1 h hrd1 hG1 ha1 hstp
      rw [roundsIn_succ]
      refine wpIn_mono (h m1 w1 a1 b hrd1 hG1 ha1 hstp.sr) fun e a' w' ⟨ae, fr', st', m', q, r1, r2, r3⟩ => ?_
      cases r1 with
      | normal => exact ih fr' st' m' w' a' q (hrd1.mono r3.ext) (hG1.mono r3.ext) r2 (hstp.trans r3)
      | exit id => exact ⟨_, fr', st', m', q, .exit id, r2, hstp.trans r3⟩
      | ret => exact ⟨_, fr', st', m', q, .ret, r2, hstp.trans r3⟩
      | pan hv => exact ⟨_, fr', st', m', q, .pan hv, r2, hstp.trans r3⟩
  exact key n fr st m w a h hrd hG ha (.refl hs)

end Go.Abs

/- CODE: a function's contract from its body; deferred calls. -/
namespace Go.Abs
variable {P : Program}

/-! ## results -/
def aresult1 (E : Env P) (tmps : List AV) (st : ASt) : ResultVar → Option AV
  | .tmp t => some (tmps.getD t .undef)
  | .cell a t => aload E st t (tmps.getD a .undef)

def aresultsL (E : Env P) (tmps : List AV) (st : ASt) : List ResultVar → Option (List AV)
  | [] => some []
  | r :: rs => match aresult1 E tmps st r, aresultsL E tmps st rs with
    | some a, some as => some (a :: as)
    | _, _ => none

def aresults (E : Env P) (fn : Func) (tmps : List AV) (st : ASt) : Option AV :=
  match aresultsL E tmps st fn.results.toList with
  | some [a] => some a
  | some as => some (.tup as)
  | none => none

theorem VRs.getD {m : Mu} {tmps : List AV} {tmps' : Array Value} (h : VRs m tmps tmps'.toList) (t : Nat) : VR m (tmps.getD t .undef) (tmps'.getD t undef) := by
  by_cases hl : t < tmps.length
  · have e : tmps[t]? = some tmps[t] := List.getElem?_eq_getElem hl
    obtain ⟨u, h1, h2⟩ := h.get e
    have h1' : tmps'[t]? = some u := by simpa using h1
    rw [Array.getD_eq_getD_getElem?, h1', List.getD_eq_getElem?_getD, e]
    exact h2
  · have e : tmps[t]? = none := List.getElem?_eq_none (Nat.le_of_not_lt hl)
    have hl' : tmps'[t]? = none := by
      have h1 : tmps.length = tmps'.size := h.length.trans (Array.length_toList (xs := tmps'))
      exact Array.getElem?_eq_none (by omega)
    rw [Array.getD_eq_getD_getElem?, hl', List.getD_eq_getElem?_getD, e]
    exact .undef

def vresult1 (tmps' : Array Value) : ResultVar → Sem Value
  | .tmp t => pure (tmps'.getD t undef)
  | .cell a t => do loadVar t (← asAddr (tmps'.getD a undef))

theorem results_eq (fn : Func) (tmps' : Array Value) : results fn tmps' = (do
    let vs ← fn.results.mapM (vresult1 tmps')
    pure (if h : vs.size = 1 then vs[0] else .tuple vs)) := by
  unfold results
  congr 1

theorem aresult1_ok {E : Env P} {m : Mu} {st : ASt} {w : World} (hs : SR m st w) {tmps : List AV} {tmps' : Array Value} (ht : VRs m tmps tmps'.toList) {r : ResultVar} {a : AV}
    (h : aresult1 E tmps st r = some a) : ∃ v, VR m a v ∧ (vresult1 tmps' r).run P w = .ok v w := by
  cases r with
  | tmp t => cases h; exact ⟨_, ht.getD t, rfl⟩
  | cell x t =>
    simp only [aresult1] at h
    simp only [vresult1]
    have hx := ht.getD x
    generalize tmps.getD x .undef = q at h hx
    generalize tmps'.getD x undef = q' at hx
    obtain ⟨v, g1, g2⟩ := aload_ok hs h hx
    refine ⟨v, g1, ?_⟩
    have : ∃ ad, q' = .pointer (some ad) := by
      unfold aload at h
      split at h
      · cases hx; exact ⟨_, rfl⟩
      · cases hx; exact ⟨_, rfl⟩
      · cases h
    obtain ⟨ad, rfl⟩ := this
    simpa [Instr.loadAt, Instr.sureAddr, asAddr] using g2

theorem aresultsL_ok {E : Env P} {m : Mu} {st : ASt} {w : World} (hs : SR m st w) {tmps : List AV} {tmps' : Array Value} (ht : VRs m tmps tmps'.toList) : ∀ {rs : List ResultVar} {as : List AV},
    aresultsL E tmps st rs = some as → ∃ vs, VRs m as vs ∧ (rs.mapM (vresult1 tmps')).run P w = .ok vs w
  | [], _, h => by cases h; exact ⟨[], .nil, by simp⟩
  | r :: rs, _, h => by
    simp only [aresultsL] at h
    split at h
    · rename_i a as h1 h2
      cases h
      obtain ⟨vs, k1, k2⟩ := aresultsL_ok hs ht h2
      obtain ⟨v, g1, g2⟩ := aresult1_ok (P := P) hs ht h1
      refine ⟨v :: vs, .cons g1 k1, ?_⟩
      simp only [List.mapM_cons, Sem.run_bind, g2, Result.andThen_ok, k2, Sem.run_pure]
    · cases h

theorem aresults_ok {E : Env P} {m : Mu} {st : ASt} {w : World} (hs : SR m st w) {fn : Func} {tmps : List AV} {tmps' : Array Value} (ht : VRs m tmps tmps'.toList) {a : AV}
    (h : aresults E fn tmps st = some a) : ∃ v, VR m a v ∧ (results fn tmps').run P w = .ok v w := by
  unfold aresults at h
  rw [results_eq]
  have key : ∀ as, aresultsL E tmps st fn.results.toList = some as → ∃ vs, VRs m as vs ∧ (fn.results.mapM (vresult1 tmps')).run P w = .ok ⟨vs⟩ w := by
    intro as ha
    obtain ⟨vs, h1, h2⟩ := aresultsL_ok hs ht ha
    refine ⟨vs, h1, ?_⟩
    rw [Array.mapM_eq_mapM_toList]
    rw [Sem.run_map, h2]
    rfl
  split at h
  · rename_i b hb
    cases h
    obtain ⟨vs, h1, h2⟩ := key _ hb
    cases h1 with
    | cons hv ht2 =>
      cases ht2
      refine ⟨_, hv, ?_⟩
      simp only [Sem.run_bind, h2, Result.andThen_ok]
      rfl
  · rename_i as hne hb
    cases h
    obtain ⟨vs, h1, h2⟩ := key _ hb
    refine ⟨.tuple ⟨vs⟩, .tup h1, ?_⟩
    simp only [Sem.run_bind, h2, Result.andThen_ok]
    have hl : vs.length ≠ 1 := by
      intro hl
      have := h1.length
      rw [hl] at this
      match as, this with
      | [a], _ => exact hne a rfl
    have : ¬ (⟨vs⟩ : Array Value).size = 1 := hl
    rw [dif_neg this]
    rfl
  · cases h

/-! ## leaving -/
inductive AMode where
  | returning
  | panicking (v : AV)
  | recovered (v : AV)

inductive ModeR (m : Mu) : AMode → FrameMode → Prop
  | returning : ModeR m .returning .returning
  | panicking {a : AV} {v : Value} (h : VR m a v) : ModeR m (.panicking a) (.panicking [{ v, recovered := false }])
  | recovered {a : AV} {v : Value} (h : VR m a v) : ModeR m (.recovered a) (.panicking [{ v, recovered := true }])

def asettle : AMode → AMode
  | .recovered _ => .returning
  | x => x

theorem ModeR.settle {m : Mu} {a : AMode} {u : FrameMode} (h : ModeR m a u) : ModeR m (asettle a) (Go.settle u) := by
  cases h with
  | returning => exact .returning
  | panicking h => exact .panicking h
  | recovered h => exact .returning

/-- A deferred call. -/
def SoundD (E : Env P) (f : FuncId) (args : List AV) (md : AMode) (st : ASt) (Q : AEnd → AMode → ASt → Prop) : Prop :=
  ∀ m w (cargs : List Value) u, GR E m → VRs m args cargs → ModeR m md u → SR m st w →
    CallsDIn Fence.wide 0 P f ⟨cargs⟩ u w fun e u' w' => ∃ ae md' st' m', Q ae md' st' ∧ EndR m' ae e ∧ ModeR m' md' u' ∧ Stp m st w m' st' w'

def ALeaves (E : Env P) (E2 : Env2 E) (fn : Func) (tmps : List AV) (Q : AEnd → ASt → Prop) : List ADef → AMode → ASt → Prop
  | [], .returning, st => ∃ v, aresults E fn tmps st = some v ∧ Q (.ret v) st
  | [], .panicking v, st => Q (.pan v) st
  | [], .recovered _, _ => False
  | .mark id :: ds, md, st => st.get id = some (.deferred (some [])) ∧ ALeaves E E2 fn tmps Q ds md (st.put id (.deferred none))
  | .call f args :: ds, md, st => E2.ent f = true ∧ SoundD E f args md st fun e md' st' => match e with
      | .ret _ => ALeaves E E2 fn tmps Q ds (asettle md') st'
      | .pan v => md' = .returning ∧ ALeaves E E2 fn tmps Q ds (.panicking v) st'

theorem SR.takeDeferred {m : Mu} {st : ASt} {w : World} (hs : SR m st w) {id b r : Nat} (hg : st.get id = some (.deferred (some []))) (hl : m.loc id = some (b, r)) :
    ∃ w', (Instr.takeDeferred b).run P w = .ok [] w' ∧ Stp m st w m (st.put id (.deferred none)) w' := by
  obtain ⟨b', r', ob, h1, h2, h3⟩ := hs.obj id _ hg
  rw [hl] at h1; cases h1
  cases h3
  have hlt : b < w.heap.size := (Array.getElem?_eq_some_iff.1 h2).1
  refine ⟨World.putMap w b (.deferred none), ?_, hs.change hg hl _ (.deferred none) ?_ (.deferred none) rfl rfl rfl (by simp [World.putMap]) (fun k hk => ?_)⟩
  · simp only [Instr.takeDeferred, Sem.run_bind]
    have hgo : (getObj b).run P w = .ok (.deferred (some [])) w := by simp [getObj, Sem.run, h2]
    rw [hgo]
    simp only [Result.andThen_ok]
    have hso : (setObj b (.deferred none)).run P w = .ok () (World.putMap w b (.deferred none)) := by
      simp only [setObj, Sem.run, h2]
      rfl
    simp only [Sem.run_bind, hso, Result.andThen_ok, Sem.run_pure]
  · simp [World.putMap, hlt]
  · simp only [World.putMap]
    rw [Array.getElem?_setIfInBounds_ne (fun e => hk e.symm)]

def EndPost (Q : AEnd → ASt → Prop) (m : Mu) (st : ASt) (w : World) : Ending → World → Prop :=
  fun e w' => ∃ ae st' m', Q ae st' ∧ EndR m' ae e ∧ Stp m st w m' st' w'

theorem aleaves_ok {E : Env P} {E2 : Env2 E} {fn : Func} {tmps : List AV} {tmps' : Array Value} {Q : AEnd → ASt → Prop} {m0 : Mu} {st0 : ASt} {w0 : World} :
    ∀ (ds : List ADef) (md : AMode) (st : ASt) (m : Mu) (w : World) (ds' : List Deferred) (u : FrameMode), GR E m → VRs m tmps tmps'.toList → DefsR m ds ds' → ModeR m md u → Stp m0 st0 w0 m st w →
      ALeaves E E2 fn tmps Q ds md st → LeavesInM Fence.wide 0 P fn tmps' (EndPost Q m0 st0 w0) ds' u w := by
  intro ds
  induction ds with
  | nil =>
    intro md st m w ds' u hG ht hd hm hstp h
    cases hd
    cases hm with
    | returning =>
      obtain ⟨v, h1, h2⟩ := h
      obtain ⟨v', k1, k2⟩ := aresults_ok hstp.sr ht h1
      exact ⟨v', k2, .ret v, st, m, h2, .ret k1, hstp⟩
    | panicking hv => exact ⟨.pan _, st, m, h, .pan hv, hstp⟩
    | recovered hv => exact h.elim
  | cons d ds ih =>
    intro md st m w ds' u hG ht hd hm hstp h
    cases hd with
    | cons hd1 hdt =>
      have hrun : u ≠ .run := by cases hm <;> simp
      refine ⟨hrun, ?_⟩
      cases hd1 with
      | mark hl =>
        obtain ⟨hg, h⟩ := h
        obtain ⟨w', k1, k2⟩ := hstp.sr.takeDeferred (P := P) hg hl
        exact .inl ⟨_, w', rfl, k1, ih md _ m w' _ u hG ht hdt hm (hstp.trans k2) h⟩
      | call hargs =>
        obtain ⟨hent, h⟩ := h
        rename_i f as args cap
        refine .inr ⟨fun hx => by simp [Fence.wide] at hx, .func f, cap, f, args ++ cap, rfl, ?_, fun _ _ => trivial, ?_⟩
        · simp only [invoke]
          exact E2.ent_ok f hent _ _
        · have hc := h m w (args.toList ++ cap.toList) u hG hargs hm hstp.sr
          have harr : (⟨args.toList ++ cap.toList⟩ : Array Value) = args ++ cap := by
            apply Array.ext'
            simp
          rw [harr] at hc
          refine hc.mono fun e u' w' hh => ?_
          obtain ⟨ae, md', st', m', hq, he, hmd, hs2⟩ := hh
          cases he with
          | ret hv => exact ih _ st' m' w' _ _ (hG.mono hs2.ext) (ht.mono hs2.ext) (hdt.mono hs2.ext) hmd.settle (hstp.trans hs2) hq
          | pan hv =>
            obtain ⟨rfl, hq⟩ := hq
            cases hmd
            exact ih (.panicking _) st' m' w' _ _ (hG.mono hs2.ext) (ht.mono hs2.ext) (hdt.mono hs2.ext) (.panicking hv) (hstp.trans hs2) hq

/-- The temporaries with which a function's body begins. -/
def atmps (fn : Func) (args : List AV) : List AV := args ++ List.replicate (fn.ntmps - args.length) .undef

theorem atmps_ok {m : Mu} {fn : Func} {args : List AV} {cargs : List Value} (h : VRs m args cargs) :
    VRs m (atmps fn args) ((⟨cargs⟩ : Array Value) ++ Array.replicate (fn.ntmps - (⟨cargs⟩ : Array Value).size) undef).toList := by
  have hl : (⟨cargs⟩ : Array Value).size = args.length := h.length.symm
  rw [Array.toList_append, Array.toList_replicate, hl]
  exact h.append (VRs.replicate _ .undef)

/-- **A FUNCTION's CONTRACT FROM ITS BODY.** -/
theorem Sound.body {E : Env P} {E2 : Env2 E} {f : FuncId} {fn : Func} {c : Code} {args : List AV} {st : ASt} {Q : AEnd → ASt → Prop} (hf : E.fn f = some fn) (hb : fn.body = some c)
    (h : ACode E none c ⟨atmps fn args, []⟩ st fun e fr' st' => match e with
      | .normal | .ret => ALeaves E E2 fn fr'.tmps Q fr'.defers .returning st'
      | .pan v => ALeaves E E2 fn fr'.tmps Q fr'.defers (.panicking v) st'
      | .exit _ => False) : Sound E f args st Q := by
  intro m w cargs hG ha hs
  have hbody := h m w { tmps := ⟨cargs⟩ ++ Array.replicate (fn.ntmps - (⟨cargs⟩ : Array Value).size) undef, defers := [] } none .none hG ⟨atmps_ok ha, .nil⟩ hs
  refine callsIn_wide.1 (callsIn_of_wp_marks (F := Fence.wide) (n := 0) (R := EndPost Q m st w) (E.fn_ok f fn hf) hb trivial (wpIn_mono hbody ?_))
  intro e a' w' ⟨ae, fr', st', m', q, r1, r2, r3⟩
  cases r1 with
  | normal => exact aleaves_ok _ _ _ m' w' _ _ (hG.mono r3.ext) r2.tmps r2.defers .returning r3 q
  | ret => exact aleaves_ok _ _ _ m' w' _ _ (hG.mono r3.ext) r2.tmps r2.defers .returning r3 q
  | pan hv => exact aleaves_ok _ _ _ m' w' _ _ (hG.mono r3.ext) r2.tmps r2.defers (.panicking hv) r3 q
  | exit id => exact q.elim

/-- A deferred call that does not recover, from its body. -/
theorem SoundD.body {E : Env P} {f : FuncId} {fn : Func} {c : Code} {args : List AV} {md : AMode} {st : ASt} {Q : AEnd → AMode → ASt → Prop} (hf : E.fn f = some fn) (hb : fn.body = some c)
    (h : ACode E none c ⟨atmps fn args, []⟩ st fun e fr' st' => fr'.defers = [] ∧ match e with
      | .normal | .ret => ∃ v, aresults E fn fr'.tmps st' = some v ∧ Q (.ret v) md st'
      | .pan v => Q (.pan v) md st'
      | .exit _ => False) : SoundD E f args md st Q := by
  intro m w cargs u hG ha hmd hs
  have hbody := h m w { tmps := ⟨cargs⟩ ++ Array.replicate (fn.ntmps - (⟨cargs⟩ : Array Value).size) undef, defers := [] } none .none hG ⟨atmps_ok ha, .nil⟩ hs
  refine (callsDIn_of_wp (F := Fence.wide) (n := 0) (R := fun e w' => ∃ ae st' m', Q ae md st' ∧ EndR m' ae e ∧ Stp m st w m' st' w') (E.fn_ok f fn hf) hb trivial (wpIn_mono hbody ?_)).mono ?_
  · intro e a' w' ⟨ae, fr', st', m', ⟨hd, q⟩, r1, r2, r3⟩
    have hdn : a'.defers = [] := by
      have hdr := r2.defers
      rw [hd] at hdr
      generalize a'.defers = ds at hdr
      cases hdr
      rfl
    cases r1 with
    | normal =>
      obtain ⟨v, h1, h2⟩ := q
      obtain ⟨v', k1, k2⟩ := aresults_ok r3.sr r2.tmps h1
      exact ⟨hdn, v', k2, .ret v, st', m', h2, .ret k1, r3⟩
    | ret =>
      obtain ⟨v, h1, h2⟩ := q
      obtain ⟨v', k1, k2⟩ := aresults_ok r3.sr r2.tmps h1
      exact ⟨hdn, v', k2, .ret v, st', m', h2, .ret k1, r3⟩
    | pan hv => exact ⟨hdn, .pan _, st', m', q, .pan hv, r3⟩
    | exit id => exact q.elim
  · intro e u' w' ⟨hu, ae, st', m', q, r1, r2⟩
    subst hu
    have hm' : ModeR m' md u' := by
      cases hmd with
      | returning => exact .returning
      | panicking hv => exact .panicking (hv.mono r2.ext)
      | recovered hv => exact .recovered (hv.mono r2.ext)
    exact ⟨ae, md, st', m', q, r1, hm', r2⟩

end Go.Abs

/- CODE: a range over a function; its rounds. -/
namespace Go.Abs
variable {P : Program}

theorem SR.loop_obj {m : Mu} {st : ASt} {w : World} (hs : SR m st w) {id b r : Nat} {s : LoopState} {pend : Option Code} {tmps : List AV} {ps : Array Tmp} {assign body : Code} {d : Nat}
    (hg : st.get id = some (.loop s pend tmps ps assign body d)) (hl : m.loc id = some (b, r)) :
    ∃ fn tmps' db dr, w.heap[b]? = some (.loop { state := s, pending := pend, fn, tmps := ⟨tmps'⟩, params := ps, assign, body, defers := db }) ∧ VRs m tmps tmps' ∧ m.loc d = some (db, dr) := by
  obtain ⟨b', r', ob, h1, h2, h3⟩ := hs.obj id _ hg
  rw [hl] at h1; cases h1
  cases h3 with
  | loop ht hd => exact ⟨_, _, _, _, h2, ht, hd⟩

theorem run_getLoop {w : World} {b : Nat} {l : Loop} (h : w.heap[b]? = some (.loop l)) : (Instr.getLoop b).run P w = .ok l w := by
  have hgo : (getObj b).run P w = .ok (.loop l) w := by simp [getObj, Sem.run, h]
  simp only [Instr.getLoop, Sem.run_bind, hgo, Result.andThen_ok, Sem.run_pure]

theorem run_setObj_loop {w : World} {b : Nat} {l : Loop} (h : w.heap[b]? = some (.loop l)) (o : Obj) : (setObj b o).run P w = .ok () (World.putMap w b o) := by
  simp only [setObj, Sem.run, h]
  rfl

theorem SR.setLoop {m : Mu} {st : ASt} {w : World} (hs : SR m st w) {id b r : Nat} {s s' : LoopState} {pend pend' : Option Code} {tmps : List AV} {ps : Array Tmp} {assign body : Code} {d : Nat}
    (hg : st.get id = some (.loop s pend tmps ps assign body d)) (hl : m.loc id = some (b, r)) {fn : FuncId} {tmps' : List Value} {db dr : Nat}
    (hw : w.heap[b]? = some (.loop { state := s, pending := pend, fn, tmps := ⟨tmps'⟩, params := ps, assign, body, defers := db })) (ht : VRs m tmps tmps') (hd : m.loc d = some (db, dr)) :
    Stp m st w m (st.put id (.loop s' pend' tmps ps assign body d)) (World.putMap w b (.loop { state := s', pending := pend', fn, tmps := ⟨tmps'⟩, params := ps, assign, body, defers := db })) := by
  have hlt : b < w.heap.size := (Array.getElem?_eq_some_iff.1 hw).1
  refine hs.change hg hl _ (.loop { state := s', pending := pend', fn, tmps := ⟨tmps'⟩, params := ps, assign, body, defers := db }) ?_ (.loop ht hd) rfl rfl rfl (by simp [World.putMap]) (fun k hk => ?_)
  · simp [World.putMap, hlt]
  · simp only [World.putMap]
    rw [Array.getElem?_setIfInBounds_ne (fun e => hk e.symm)]

/-! ## a round -/
def asetAll : List AV → List Tmp → List AV → List AV
  | tmps, t :: ts, a :: as => asetAll (tmps.set t a) ts as
  | tmps, _, _ => tmps

theorem asetAll_ok {m : Mu} : ∀ {ts : List Tmp} {as : List AV} {vs : List Value} {tmps : List AV} {tmps' : Array Value}, VRs m as vs → VRs m tmps tmps'.toList →
    VRs m (asetAll tmps ts as) ((ts.zip vs).foldl (fun (tmps : Array Value) (x : Tmp × Value) => tmps.setIfInBounds x.1 x.2) tmps').toList
  | [], _, _, tmps, tmps', _, h => by simpa [asetAll] using h
  | t :: ts, _, _, tmps, tmps', .nil, h => by simpa [asetAll] using h
  | t :: ts, _, _, tmps, tmps', .cons hv hvs, h => by
    simp only [asetAll, List.zip_cons_cons, List.foldl_cons]
    refine asetAll_ok hvs ?_
    rw [Array.toList_setIfInBounds]
    exact h.set t hv

/-- What is asked at the end of a round's body. -/
def ARoundEnd (l : Nat) (Q : AV → ASt → Prop) (e : AExit) (st : ASt) : Prop :=
  ∃ s pend tmps ps assign body d, st.get l = some (.loop s pend tmps ps assign body d) ∧
    match e with
    | .normal => Q (.bool true) (st.put l (.loop .ready none tmps ps assign body d))
    | .ret => Q (.bool false) (st.put l (.loop .done (some .ret) tmps ps assign body d))
    | .exit id => Q (.bool false) (st.put l (.loop .done (some (.exit id)) tmps ps assign body d))
    | .pan _ => False

theorem ARound.of {E : Env P} {l : Nat} {as : List AV} {st : ASt} {Q : AV → ASt → Prop} {pend : Option Code} {tmps : List AV} {ps : Array Tmp} {assign body : Code} {d : Nat}
    (hg : st.get l = some (.loop .ready pend tmps ps assign body d)) (hlen : as.length = ps.size)
    (h : ACode E (some l) assign ⟨asetAll tmps ps.toList as, []⟩ st fun e fr1 st1 => match e with
      | .normal => ∃ pend1 tmps1 ps1 assign1 body1 d1, st1.get l = some (.loop .ready pend1 tmps1 ps1 assign1 body1 d1) ∧
          ACode E (some l) body fr1 (st1.put l (.loop .busy pend1 tmps1 ps1 assign1 body1 d1)) fun e2 _ st2 => ARoundEnd l Q e2 st2
      | _ => False) : ARound E l as st Q := by
  intro m w b r cargs hG ha hs hl
  obtain ⟨fn, tmps', db, dr, hw, ht, hd⟩ := hs.loop_obj hg hl
  have hsize : (⟨cargs⟩ : Array Value).size = ps.size := by rw [← hlen]; exact ha.length.symm
  have hget := run_getLoop (P := P) hw
  refine ⟨fn, (ps.toList.zip cargs).foldl (fun (tmps : Array Value) (x : Tmp × Value) => tmps.setIfInBounds x.1 x.2) ⟨tmps'⟩, assign, body, ?_, ?_⟩
  · have hne : ¬ ((⟨cargs⟩ : Array Value).size ≠ ps.size) := by simpa using hsize
    have hz : ps.zip (⟨cargs⟩ : Array Value) = (ps.toList.zip cargs).toArray := by
      apply Array.ext'
      simp
    simp only [Instr.yield, Sem.run_bind, hget, Result.andThen_ok]
    rw [if_neg hne]
    simp only [Sem.run_pure, Result.ok.injEq, and_true]
    rw [hz]
    congr 1
    simp
  · refine roundIn_of_wpIn (F := Fence.wide) (n := 0) trivial ?_
    have htm : VRs m (asetAll tmps ps.toList as) ((ps.toList.zip cargs).foldl (fun (tmps : Array Value) (x : Tmp × Value) => tmps.setIfInBounds x.1 x.2) (⟨tmps'⟩ : Array Value)).toList :=
      asetAll_ok ha ht
    have h1 := h m w { tmps := (ps.toList.zip cargs).foldl (fun (tmps : Array Value) (x : Tmp × Value) => tmps.setIfInBounds x.1 x.2) ⟨tmps'⟩, defers := [] } (some b) (.some hl) hG ⟨htm, .nil⟩ hs
    refine wpIn_mono h1 fun e a1 w1 ⟨ae, fr1, st1, m1, q, r1, r2, r3⟩ => ?_
    cases r1 with
    | normal =>
      obtain ⟨pend1, tmps1, ps1, assign1, body1, d1, hg1, hbody⟩ := q
      have hl1 := r3.ext.loc _ _ hl
      obtain ⟨fn1, tmps1', db1, dr1, hw1, ht1, hd1⟩ := r3.sr.loop_obj hg1 hl1
      have hget1 := run_getLoop (P := P) hw1
      have hset := r3.sr.setLoop (s' := .busy) (pend' := pend1) hg1 hl1 hw1 ht1 hd1
      refine ⟨World.putMap w1 b (.loop { state := .busy, pending := pend1, fn := fn1, tmps := ⟨tmps1'⟩, params := ps1, assign := assign1, body := body1, defers := db1 }), ?_, ?_⟩
      · simp only [Instr.beginRound, Sem.run_bind, hget1, Result.andThen_ok, run_setObj_loop hw1]
        rfl
      · refine wpIn_mono (hbody m1 _ a1 (some b) (.some hl1) (hG.mono r3.ext) r2 hset.sr) fun e2 a2 w2 ⟨ae2, fr2, st2, m2, q2, k1, k2, k3⟩ => ?_
        obtain ⟨s2, pend2, tmps2, ps2, assign2, body2, d2, hg2, q2⟩ := q2
        have hl2 := k3.ext.loc _ _ hl1
        obtain ⟨fn2, tmps2', db2, dr2, hw2, ht2, hd2⟩ := k3.sr.loop_obj hg2 hl2
        have hget2 := run_getLoop (P := P) hw2
        have hend : ∀ (jump : Option Code), ∃ w3, (Instr.endRound b jump).run P w2 = .ok (.bool jump.isNone) w3 ∧
            Stp m2 st2 w2 m2 (st2.put l (.loop (if jump.isNone then .ready else .done) jump tmps2 ps2 assign2 body2 d2)) w3 := by
          intro jump
          refine ⟨_, ?_, k3.sr.setLoop (s' := if jump.isNone then .ready else .done) (pend' := jump) hg2 hl2 hw2 ht2 hd2⟩
          simp only [Instr.endRound, Sem.run_bind, hget2, Result.andThen_ok, run_setObj_loop hw2]
          rfl
        have hall := r3.trans (hset.trans k3)
        cases k1 with
        | normal =>
          obtain ⟨w3, e1, e2⟩ := hend none
          exact ⟨_, w3, e1, .bool true, .bool true, _, m2, q2, rfl, .bool true, hall.trans e2⟩
        | ret =>
          obtain ⟨w3, e1, e2⟩ := hend (some .ret)
          exact ⟨_, w3, e1, .bool false, .bool false, _, m2, q2, rfl, .bool false, hall.trans e2⟩
        | exit id =>
          obtain ⟨w3, e1, e2⟩ := hend (some (.exit id))
          exact ⟨_, w3, e1, .bool false, .bool false, _, m2, q2, rfl, .bool false, hall.trans e2⟩
        | pan hv => exact q2.elim
    | exit id => exact q.elim
    | ret => exact q.elim
    | pan hv => exact q.elim

/-! ## the statement -/
/-- The record of a loop is laid: its number, the frame, the state. -/
def aenter (rd : Option Nat) (fr : AFr) (st : ASt) (ps : Array Tmp) (assign body : Code) : Option (Nat × AFr × ASt) :=
  match rd with
  | none => some (st.next + 1, { fr with defers := .mark st.next :: fr.defers },
      { (({ (st.put st.next (.deferred (some []))) with next := st.next + 1 } : ASt).put (st.next + 1) (.loop .ready none fr.tmps ps assign body st.next)) with next := st.next + 2 })
  | some l0 => match st.get l0 with
    | some (.loop _ _ _ _ _ _ d0) => some (st.next, fr, { (st.put st.next (.loop .ready none fr.tmps ps assign body d0)) with next := st.next + 1 })
    | _ => none

theorem aenter_ok {m : Mu} {st st1 : ASt} {w : World} (hs : SR m st w) {rd b : Option Nat} (hrd : RdR m rd b) {fr fr1 : AFr} {a : Act} (ha : ActR m fr a) {ps : Array Tmp} {assign body : Code} {l : Nat}
    (h : aenter rd fr st ps assign body = some (l, fr1, st1)) (fn : FuncId) :
    ∃ lb r mark w1 m1, (Instr.enterLoop fn a.tmps ps assign body b).run P w = .ok (lb, mark) w1 ∧ m1.loc l = some (lb, r) ∧ ActR m1 fr1 { a with defers := mark ++ a.defers } ∧ Stp m st w m1 st1 w1 := by
  unfold aenter at h
  cases hrd with
  | none =>
    simp only [Option.some.injEq, Prod.mk.injEq] at h
    obtain ⟨rfl, rfl, rfl⟩ := h
    have hfree := hs.free (Nat.le_refl st.next)
    have s1 := hs.alloc st.next hfree (.deferred (some [])) (.deferred (some [])) 0 (st.next + 1) (.deferred _) (Nat.le_succ _) (Nat.lt_succ_self _) (Nat.le_refl _)
    have hfree2 := s1.sr.free (Nat.le_refl (st.next + 1))
    have hloc1 : (m.add st.next w.heap.size 0).loc st.next = some (w.heap.size, 0) := Mu.loc_add _ _ _ _
    have hext2 : Ext (m.add st.next w.heap.size 0) ((m.add st.next w.heap.size 0).add (st.next + 1) (w.alloc (.deferred (some []))).heap.size 0) := Mu.ext_add hfree2
    have s2 := s1.sr.alloc (st.next + 1) hfree2 (.loop .ready none fr.tmps ps assign body st.next)
      (.loop { state := .ready, pending := none, fn, tmps := ⟨a.tmps.toList⟩, params := ps, assign, body, defers := w.heap.size }) 0 (st.next + 2)
      (.loop ((ha.tmps.mono s1.ext).mono hext2) (hext2.loc _ _ hloc1)) (Nat.le_succ _) (Nat.lt_succ_self _) (Nat.le_refl _)
    refine ⟨_, 0, [{ target := .collected w.heap.size, args := #[] }], _, _, ?_, Mu.loc_add _ _ _ _, ⟨?_, ?_⟩, s1.trans s2⟩
    · simp [Instr.enterLoop]
    · exact (ha.tmps.mono s1.ext).mono hext2
    · exact .cons (.mark (hext2.loc _ _ hloc1)) ((ha.defers.mono s1.ext).mono hext2)
  | some hl0 =>
    rename_i l0 b0 r0
    simp only at h
    split at h
    · rename_i _ s0 p0 t0 ps0 a0 bo0 d0 hg0
      simp only [Option.some.injEq, Prod.mk.injEq] at h
      obtain ⟨rfl, rfl, rfl⟩ := h
      obtain ⟨fn0, tmps0', db, dr, hw0, ht0, hd0⟩ := hs.loop_obj hg0 hl0
      have hfree := hs.free (Nat.le_refl st.next)
      have hext : Ext m (m.add st.next w.heap.size 0) := Mu.ext_add hfree
      have s1 := hs.alloc st.next hfree (.loop .ready none fr.tmps ps assign body d0)
        (.loop { state := .ready, pending := none, fn, tmps := ⟨a.tmps.toList⟩, params := ps, assign, body, defers := db }) 0 (st.next + 1)
        (.loop (ha.tmps.mono hext) (hext.loc _ _ hd0)) (Nat.le_succ _) (Nat.lt_succ_self _) (Nat.le_refl _)
      refine ⟨w.heap.size, 0, [], _, _, ?_, Mu.loc_add _ _ _ _, ⟨?_, ?_⟩, s1⟩
      · simp [Instr.enterLoop, run_getLoop hw0]
      · exact ha.tmps.mono hext
      · simpa using ha.defers.mono hext
    · cases h

/-- What comes when the function that was ranged over has ended. -/
def ARangeEnd (E : Env P) (rd : Option Nat) (l : Nat) (fr : AFr) (Q : AExit → AFr → ASt → Prop) (e : AEnd) (st : ASt) : Prop :=
  match e with
  | .ret _ => ∃ s pend tmps ps assign body d, st.get l = some (.loop s pend tmps ps assign body d) ∧ s ≠ .busy ∧
      match pend with
      | none => Q .normal fr (st.put l (.loop .exhausted pend tmps ps assign body d))
      | some c => ACode E rd c fr (st.put l (.loop .exhausted pend tmps ps assign body d)) Q
  | .pan v => Q (.pan v) fr st

theorem ACode.rangeFunc {E : Env P} {E2 : Env2 E} {rd : Option Nat} {g : Operand} {ps : Array Tmp} {assign body : Code} {fr fr1 : AFr} {st st1 : ASt} {Q : AExit → AFr → ASt → Prop} {l : Nat} {gf : FuncId}
    {first captured : List AV} (hg : aeval E fr.tmps g = some (.func gf first captured)) (hent : E2.ent gf = true) (he : aenter rd fr st ps assign body = some (l, fr1, st1))
    (h : Sound E gf (first ++ [.yield l] ++ captured) st1 (ARangeEnd E rd l fr1 Q)) : ACode E rd (.rangeFunc g ps assign body) fr st Q := by
  intro m w a b hrd hG ha hs
  refine wpIn_rangeFunc fun fn _ => ?_
  rw [fence_round]
  obtain ⟨lb, r, mark, w1, m1, hrun, hloc, ha1, hstp⟩ := aenter_ok (P := P) hs hrd ha he fn
  have hv := aeval_ok hG ha.tmps hg
  generalize hq : a.eval g = q at hv
  cases hv with
  | func _ hf1 hf2 =>
    rename_i first' captured'
    refine ⟨lb, mark, w1, { target := .fn (.func gf) ⟨captured'⟩, args := ⟨first'⟩ ++ #[.func (.yield lb) #[] #[]] }, w1, gf, ⟨first' ++ [.func (.yield lb) #[] #[]] ++ captured'⟩, w1, hrun, ?_, fun f _ => fence_fn b f, ?_,
      fun hx => by rw [fence_depth] at hx; simp at hx, ?_⟩
    · have hr0 : (resolve a.eval (rangeCall g lb) 0).run P w1 = (Deferred.ofValue (a.eval g) #[.func (.yield lb) #[] #[]]).run P w1 := by
        have hm : (rangeCall g lb).args.map a.eval = #[.func (.yield lb) #[] #[]] := by simp [Act.eval]
        simp only [resolve, hm]
      rw [hr0, hq]
      rfl
    · simp only [invoke]
      rw [E2.ent_ok gf hent]
      have : (⟨first'⟩ : Array Value) ++ #[.func (.yield lb) #[] #[]] ++ ⟨captured'⟩ = (⟨first' ++ [.func (.yield lb) #[] #[]] ++ captured'⟩ : Array Value) := by
        apply Array.ext'
        simp
      rw [this]
    · have hargs : VRs m1 (first ++ [.yield l] ++ captured) (first' ++ [.func (.yield lb) #[] #[]] ++ captured') :=
        ((hf1.mono hstp.ext).append (.cons (.yield hloc) .nil)).append (hf2.mono hstp.ext)
      refine calls_fence ((h m1 w1 _ (hG.mono hstp.ext) hargs hstp.sr).mono fun e w3 ⟨ae, st3, m3, q3, re, s3⟩ => ?_)
      have hall := hstp.trans s3
      have ha3 := ha1.mono s3.ext
      cases re with
      | ret hv =>
        obtain ⟨s, pend, tmps, ps3, assign3, body3, d3, hg3, hbusy, q3⟩ := q3
        have hl3 := s3.ext.loc _ _ hloc
        obtain ⟨fn3, tmps3', db3, dr3, hw3, ht3, hd3⟩ := s3.sr.loop_obj hg3 hl3
        have hset := s3.sr.setLoop (s' := .exhausted) (pend' := pend) hg3 hl3 hw3 ht3 hd3
        refine ⟨pend, World.putMap w3 lb (.loop { state := .exhausted, pending := pend, fn := fn3, tmps := ⟨tmps3'⟩, params := ps3, assign := assign3, body := body3, defers := db3 }), ?_, ?_⟩
        · have hbb : (s == LoopState.busy) = false := by simpa using hbusy
          simp only [Instr.endLoop, Sem.run_bind, run_getLoop hw3, Result.andThen_ok, hbb, Bool.false_eq_true, if_false, run_setObj_loop hw3, Sem.run_pure]
        · cases pend with
          | none => exact ⟨.normal, fr1, _, m3, q3, .normal, ha3, hall.trans hset⟩
          | some c =>
            exact wpIn_mono (q3 m3 _ _ b (hrd.mono hall.ext) (hG.mono hall.ext) ha3 hset.sr) fun _ _ _ => Post.back (hall.trans hset)
      | pan hv => exact ⟨.pan _, fr1, st3, m3, q3, .pan hv, ha3, hall⟩

end Go.Abs

/- REGIONS THAT DRAW THEIR ORDER, 1: what is equal; the frame of a step; what comes early. -/
namespace Go.Abs
variable {P : Program}

/-! ## equal values, as a test -/
mutual
def AV.eqb : AV → AV → Bool
  | .bool a, .bool b => a == b
  | .int k n, .int k' n' => decide (k = k') && decide (n = n')
  | .str s, .str s' => decide (s = s')
  | .undef, .undef => true
  | .nilp, .nilp => true
  | .nilm, .nilm => true
  | .nilf, .nilf => true
  | .nili, .nili => true
  | .nils, .nils => true
  | .ptr a b, .ptr c d => decide (a = c) && decide (b = d)
  | .fptr a b c d, .fptr a' b' c' d' => decide (a = a') && decide (c = c') && decide (d = d') && AV.eqbs b b'
  | .oslc a b c d e, .oslc a' b' c' d' e' => decide (a = a') && decide (b = b') && decide (c = c') && decide (d = d') && (e == e')
  | .fslc a b c, .fslc a' b' c' => decide (a = a') && (c == c') && AV.eqbs b b'
  | .map a, .map b => decide (a = b)
  | .func f a b, .func f' a' b' => decide (f = f') && AV.eqbs a a' && AV.eqbs b b'
  | .yield a, .yield b => decide (a = b)
  | .iface t v, .iface t' v' => decide (t = t') && AV.eqb v v'
  | .agg a, .agg b => AV.eqbs a b
  | .tup a, .tup b => AV.eqbs a b
  | _, _ => false
def AV.eqbs : List AV → List AV → Bool
  | [], [] => true
  | a :: as, b :: bs => AV.eqb a b && AV.eqbs as bs
  | _, _ => false
end

mutual
theorem AV.eq_of_eqb : ∀ {a b : AV}, AV.eqb a b = true → a = b
  | .bool a, b, h => by cases b <;> simp [AV.eqb] at h; subst h; rfl
  | .int k n, b, h => by cases b <;> simp [AV.eqb] at h; obtain ⟨rfl, rfl⟩ := h; rfl
  | .str s, b, h => by cases b <;> simp [AV.eqb] at h; subst h; rfl
  | .undef, b, h => by cases b <;> simp [AV.eqb] at h; rfl
  | .nilp, b, h => by cases b <;> simp [AV.eqb] at h; rfl
  | .nilm, b, h => by cases b <;> simp [AV.eqb] at h; rfl
  | .nilf, b, h => by cases b <;> simp [AV.eqb] at h; rfl
  | .nili, b, h => by cases b <;> simp [AV.eqb] at h; rfl
  | .nils, b, h => by cases b <;> simp [AV.eqb] at h; rfl
  | .ptr x y, b, h => by cases b <;> simp [AV.eqb] at h; obtain ⟨rfl, rfl⟩ := h; rfl
  | .fptr x y z u, b, h => by cases b <;> simp [AV.eqb] at h; obtain ⟨⟨⟨rfl, rfl⟩, rfl⟩, h⟩ := h; rw [AV.eq_of_eqbs h]
  | .oslc x y z u v, b, h => by cases b <;> simp [AV.eqb] at h; obtain ⟨⟨⟨⟨rfl, rfl⟩, rfl⟩, rfl⟩, rfl⟩ := h; rfl
  | .fslc x y z, b, h => by cases b <;> simp [AV.eqb] at h; obtain ⟨⟨rfl, rfl⟩, h⟩ := h; rw [AV.eq_of_eqbs h]
  | .map a, b, h => by cases b <;> simp [AV.eqb] at h; subst h; rfl
  | .func f x y, b, h => by cases b <;> simp [AV.eqb] at h; obtain ⟨⟨rfl, h⟩, k⟩ := h; rw [AV.eq_of_eqbs h, AV.eq_of_eqbs k]
  | .yield a, b, h => by cases b <;> simp [AV.eqb] at h; subst h; rfl
  | .iface t v, b, h => by cases b <;> simp [AV.eqb] at h; obtain ⟨rfl, h⟩ := h; rw [AV.eq_of_eqb h]
  | .agg a, b, h => by cases b <;> simp [AV.eqb] at h; rw [AV.eq_of_eqbs h]
  | .tup a, b, h => by cases b <;> simp [AV.eqb] at h; rw [AV.eq_of_eqbs h]
theorem AV.eq_of_eqbs : ∀ {a b : List AV}, AV.eqbs a b = true → a = b
  | [], b, h => by cases b <;> simp [AV.eqbs] at h; rfl
  | x :: xs, b, h => by
    cases b <;> simp [AV.eqbs] at h
    rw [AV.eq_of_eqb h.1, AV.eq_of_eqbs h.2]
end

def ANew.eqb : Option ANew → Option ANew → Bool
  | none, none => true
  | some (.obj (.row a)), some (.obj (.row b)) => AV.eqbs a b
  | some (.obj (.map [] a)), some (.obj (.map [] b)) => decide (a = b)
  | some (.frz a), some (.frz b) => AV.eqbs a b
  | _, _ => false

theorem ANew.eq_of_eqb {a b : Option ANew} (h : ANew.eqb a b = true) : a = b := by
  unfold ANew.eqb at h
  split at h
  · rfl
  · rw [AV.eq_of_eqbs h]
  · rw [of_decide_eq_true h]
  · rw [AV.eq_of_eqbs h]
  · cases h

/-! ## the frame of a step -/
/-- A step of a part of the state is one of the whole: what is not the part's stays. -/
theorem Stp.frame {m m' : Mu} {st st1 st' st2 : ASt} {w w' : World} (h : Stp m st w m' st' w') (hs : SR m st1 w) (hsub : ∀ id o, st.get id = some o → st1.get id = some o) (hn1 : st1.next = st.next) (hn2 : st2.next = st'.next)
    (hget : ∀ id o, st2.get id = some o → st'.get id = some o ∨ (st1.get id = some o ∧ st.get id = none)) : Stp m st1 w m' st2 w' := by
  have hno : ∀ id o b r, st1.get id = some o → st.get id = none → m.loc id = some (b, r) → ¬ Owned m st b := by
    intro id o b r h1 h2 h3 ⟨j, o', r', h4, h5⟩
    have := hs.inj id j o o' b r r' h1 (hsub _ _ h4) h3 h5
    subst this
    rw [h2] at h4; cases h4
  have hblk : ∀ id o b r, st1.get id = some o → st.get id = none → m.loc id = some (b, r) → b < w.heap.size := fun id o b r h1 _ h3 => hs.owned_lt ⟨id, o, r, h1, h3⟩
  have hloc : ∀ id o, st1.get id = some o → m'.loc id = m.loc id := fun id o h1 => by
    obtain ⟨b, r, _, h2, _⟩ := hs.obj id o h1
    exact h.old id (by rw [← hn1]; exact hs.dom id _ h2)
  refine ⟨⟨h.ext, ⟨?_, ?_, h.sr.cell, ?_, ?_⟩, ⟨h.fr.os, h.fr.tape, h.fr.output, h.fr.size, ?_⟩, ?_, by rw [hn1, hn2]; exact h.next⟩, by rw [hn1]; exact h.old, ?_⟩
  · intro id o e
    rcases hget id o e with e | ⟨e1, e2⟩
    · exact h.sr.obj id o e
    · obtain ⟨b, r, ob, h1, h2, h3⟩ := hs.obj id o e1
      refine ⟨b, r, ob, h.ext.loc _ _ h1, ?_, h3.mono h.ext⟩
      rw [h.fr.block b (hblk id o b r e1 e2 h1) (hno id o b r e1 e2 h1)]
      exact h2
  · intro i j o1 o2 b r1 r2 e1 e2 l1 l2
    rcases hget i o1 e1 with e1 | ⟨e1, f1⟩
    · rcases hget j o2 e2 with e2 | ⟨e2, f2⟩
      · exact h.sr.inj i j o1 o2 b r1 r2 e1 e2 l1 l2
      · exfalso
        rw [hloc j o2 e2] at l2
        exact hno j o2 b r2 e2 f2 l2 (h.own b (hblk j o2 b r2 e2 f2 l2) ⟨i, o1, r1, e1, l1⟩)
    · rw [hloc i o1 e1] at l1
      rcases hget j o2 e2 with e2 | ⟨e2, f2⟩
      · exfalso
        exact hno i o1 b r1 e1 f1 l1 (h.own b (hblk i o1 b r1 e1 f1 l1) ⟨j, o2, r2, e2, l2⟩)
      · rw [hloc j o2 e2] at l2
        exact hs.inj i j o1 o2 b r1 r2 e1 e2 l1 l2
  · intro b i v ⟨id, o, r, e, l⟩ hk
    rcases hget id o e with e | ⟨e1, e2⟩
    · exact h.sr.apart b i v ⟨id, o, r, e, l⟩ hk
    · rw [hloc id o e1] at l
      rcases h.frz b i v (hblk id o b r e1 e2 l) hk with hk | ho
      · exact hs.apart b i v ⟨id, o, r, e1, l⟩ hk
      · exact hno id o b r e1 e2 l ho
  · intro id x e
    rw [hn2]
    exact h.sr.dom id x e
  · intro b hb hn
    exact h.fr.block b hb fun ⟨id, o, r, e, l⟩ => hn ⟨id, o, r, hsub _ _ e, l⟩
  · intro b hb ⟨id, o, r, e, l⟩
    rcases hget id o e with e | ⟨e1, e2⟩
    · obtain ⟨id, o, r, e, l⟩ := h.own b hb ⟨id, o, r, e, l⟩
      exact ⟨id, o, r, hsub _ _ e, l⟩
    · rw [hloc id o e1] at l
      exact ⟨id, o, r, e1, l⟩
  · intro b i v hb hk
    exact (h.frz b i v hb hk).imp id fun ⟨id, o, r, e, l⟩ => ⟨id, o, r, hsub _ _ e, l⟩

end Go.Abs

/- REGIONS THAT DRAW THEIR ORDER, 2: what comes early, the invariant. -/
namespace Go.Abs
variable {P : Program}

/-! ## who comes before whom -/
def ancMask (prev : List Nat) : List Edge → Nat → Option Nat
  | [], acc => some acc
  | e :: es, acc => if Region.binds .any e then
      (match prev[e.on]? with
      | some m => ancMask prev es (acc ||| m ||| (1 <<< e.on))
      | none => none)
    else ancMask prev es acc

def ancs : List Oper → List Nat → Option (List Nat)
  | [], prev => some prev
  | o :: os, prev => match ancMask prev o.after.toList 0 with
    | some m => ancs os (prev ++ [m])
    | none => none

theorem testBit_shl (i j : Nat) : (1 <<< i).testBit j = decide (i = j) := by
  rw [Nat.one_shiftLeft, Nat.testBit_two_pow]

theorem ancMask_ok {prev : List Nat} : ∀ {es : List Edge} {acc m : Nat}, ancMask prev es acc = some m →
    (∀ e, e ∈ es → Region.binds .any e = true → e.on < prev.length) ∧
    ∀ j, m.testBit j = true → acc.testBit j = true ∨ ∃ e, e ∈ es ∧ Region.binds .any e = true ∧ (j = e.on ∨ ∃ mj, prev[e.on]? = some mj ∧ mj.testBit j = true)
  | [], acc, m, h => by
    simp only [ancMask, Option.some.injEq] at h
    subst h
    exact ⟨fun e he => (by cases he), fun j hj => .inl hj⟩
  | e :: es, acc, m, h => by
    simp only [ancMask] at h
    split at h
    · rename_i hb
      cases hp : prev[e.on]? with
      | none => rw [hp] at h; cases h
      | some mj =>
        rw [hp] at h
        obtain ⟨h1, h2⟩ := ancMask_ok h
        refine ⟨fun e' he' hb' => ?_, fun j hj => ?_⟩
        · rcases List.mem_cons.1 he' with rfl | he'
          · exact (List.getElem?_eq_some_iff.1 hp).1
          · exact h1 e' he' hb'
        · rcases h2 j hj with hj | ⟨e', he', hb', h3⟩
          · simp only [Nat.testBit_or, Bool.or_eq_true, testBit_shl, decide_eq_true_eq] at hj
            rcases hj with (hj | hj) | hj
            · exact .inl hj
            · exact .inr ⟨e, List.mem_cons_self, hb, .inr ⟨mj, hp, hj⟩⟩
            · exact .inr ⟨e, List.mem_cons_self, hb, .inl hj.symm⟩
          · exact .inr ⟨e', List.mem_cons_of_mem _ he', hb', h3⟩
    · rename_i hb
      obtain ⟨h1, h2⟩ := ancMask_ok h
      refine ⟨fun e' he' hb' => ?_, fun j hj => ?_⟩
      · rcases List.mem_cons.1 he' with rfl | he'
        · exact absurd hb' hb
        · exact h1 e' he' hb'
      · rcases h2 j hj with hj | ⟨e', he', hb', h3⟩
        · exact .inl hj
        · exact .inr ⟨e', List.mem_cons_of_mem _ he', hb', h3⟩

def AncOk (ops : List Oper) (A : List Nat) : Prop :=
  ∀ i o, ops[i]? = some o → ∃ mi, A[i]? = some mi ∧ (∀ e, e ∈ o.after → Region.binds .any e = true → e.on < i) ∧
    ∀ j, mi.testBit j = true → ∃ e, e ∈ o.after ∧ Region.binds .any e = true ∧ (j = e.on ∨ ∃ mj, A[e.on]? = some mj ∧ mj.testBit j = true)

theorem ancs_ok : ∀ {os done : List Oper} {prev A : List Nat}, ancs os prev = some A → prev.length = done.length → AncOk done prev → AncOk (done ++ os) A
  | [], done, prev, A, h, _, ok => by
    simp only [ancs, Option.some.injEq] at h
    subst h
    simpa using ok
  | o :: os, done, prev, A, h, hl, ok => by
    simp only [ancs] at h
    cases hm : ancMask prev o.after.toList 0 with
    | none => rw [hm] at h; cases h
    | some m =>
      rw [hm] at h
      obtain ⟨h1, h2⟩ := ancMask_ok hm
      have := ancs_ok (done := done ++ [o]) h (by simp [hl]) (by
        intro i o' ho'
        by_cases hi : i < done.length
        · rw [List.getElem?_append_left hi] at ho'
          obtain ⟨mi, a1, a2, a3⟩ := ok i o' ho'
          refine ⟨mi, by rw [List.getElem?_append_left (by omega)]; exact a1, a2, fun j hj => ?_⟩
          obtain ⟨e, b1, b2, b3⟩ := a3 j hj
          have := a2 e b1 b2
          refine ⟨e, b1, b2, b3.imp id fun ⟨mj, c1, c2⟩ => ⟨mj, by rw [List.getElem?_append_left (by omega)]; exact c1, c2⟩⟩
        · have hlt := (List.getElem?_eq_some_iff.1 ho').1
          simp at hlt
          have hi2 : i = done.length := by omega
          subst hi2
          rw [List.getElem?_append_right (Nat.le_refl _)] at ho'
          simp at ho'
          subst ho'
          refine ⟨m, by rw [List.getElem?_append_right (by omega)]; simp [hl], fun e he hb => ?_, fun j hj => ?_⟩
          · rw [← hl]; exact h1 e (Array.mem_toList_iff.2 he) hb
          · rcases h2 j hj with hj | ⟨e, b1, b2, b3⟩
            · simp at hj
            · have := h1 e b1 b2
              refine ⟨e, Array.mem_toList_iff.1 b1, b2, b3.imp id fun ⟨mj, c1, c2⟩ => ⟨mj, by rw [List.getElem?_append_left (by omega)]; exact c1, c2⟩⟩)
      rw [List.append_assoc] at this
      exact this

theorem ancs_ok' {ops : Array Oper} {A : List Nat} (h : ancs ops.toList [] = some A) : AncOk ops.toList A := by
  have := ancs_ok (done := []) h rfl (by intro i o ho; simp at ho)
  simpa using this

/-- What is listed has all listed that comes before it. -/
def Closed (ops : Array Oper) (C : Array Bool) : Prop :=
  ∀ (i : Nat) o, ops[i]? = some o → C.getD i false = true → ∀ e, e ∈ o.after → Region.binds .any e = true → C.getD e.on false = true

theorem AncOk.listed {ops : Array Oper} {A : List Nat} {C : Array Bool} (h : AncOk ops.toList A) (hC : Closed ops C) : ∀ (n i : Nat) (o : Oper) (mi : Nat), i < n → ops[i]? = some o → A[i]? = some mi →
    (∀ e, e ∈ o.after → Region.binds .any e = true → C.getD e.on false = true) → ∀ j, mi.testBit j = true → C.getD j false = true := by
  intro n
  induction n with
  | zero => intro i o mi hi; omega
  | succ n ih =>
    intro i o mi hi ho hm hall j hj
    obtain ⟨mi', h1, h2, h3⟩ := h i o (by simpa using ho)
    rw [hm] at h1; cases h1
    obtain ⟨e, b1, b2, b3⟩ := h3 j hj
    rcases b3 with rfl | ⟨mj, c1, c2⟩
    · exact hall e b1 b2
    · have hlt := h2 e b1 b2
      have hon := hall e b1 b2
      have hsz : i < ops.size := (Array.getElem?_eq_some_iff.1 ho).1
      have hoe : ops[e.on]? = some ops[e.on] := Array.getElem?_eq_getElem (by omega)
      exact ih e.on _ mj (by omega) hoe c1 (fun e' he' hb' => hC e.on _ hoe hon e' he' hb') j c2

/-! ## what comes early -/
structure AEarly where
  i : Nat
  dst : Option Tmp
  val : AV
  new : Option ANew
  anc : Nat
  forb : Nat

def arho (E : Env P) (forb : Nat) (T : List AV) : Operand → Option AV
  | .tmp t => if forb.testBit t then none else T[t]?
  | x => aeval E [] x

def adguard (ops : Array Oper) (forb : Nat) (T : List AV) (o : Oper) : Option Bool :=
  match o.guard with
  | none => some true
  | some (g, want) => match (ops[g]?).bind (·.dst) with
    | none => none
    | some t => if forb.testBit t then none else match T[t]? with
      | none => none
      | some (.bool b) => some (b == want)
      | some _ => some false

def estate (base : Nat) (st : ASt) (p : Nat → Bool) : List AEarly → ASt
  | [] => st
  | e :: es => match p e.i, e.new with
    | true, some (.obj o) => (estate base st p es).put (base + e.i) o
    | _, _ => estate base st p es

def areval (E : Env P) (ops : Array Oper) (base : Nat) (T : List AV) (st : ASt) (Es : List AEarly) (i anc forb : Nat) (o : Oper) : Option (AV × Option ANew) :=
  match adguard ops forb T o with
  | none => none
  | some false => some (.undef, none)
  | some true =>
    match apure E (arho E forb T) o.op with
    | some v => some (v, none)
    | none =>
      match aalloc E (arho E forb T) (base + i) o.op with
      | some (v, nw) => some (v, some nw)
      | none => (aread E (arho E forb T) (estate base st anc.testBit Es) o.op).map fun v => (v, none)

theorem estate_next (base : Nat) (st : ASt) (p : Nat → Bool) : ∀ es, (estate base st p es).next = st.next
  | [] => rfl
  | e :: es => by
    simp only [estate]
    split
    · exact estate_next base st p es
    · exact estate_next base st p es

theorem estate_sub {base : Nat} {st : ASt} {p : Nat → Bool} {id : Nat} {o : AObj} : ∀ {es : List AEarly}, (estate base st p es).get id = some o →
    st.get id = some o ∨ ∃ e, e ∈ es ∧ p e.i = true ∧ e.new = some (.obj o) ∧ id = base + e.i
  | [], h => .inl h
  | e :: es, h => by
    simp only [estate] at h
    split at h
    · rename_i o' hp hn
      rw [ASt.get_put] at h
      by_cases hid : id = base + e.i
      · rw [if_pos hid] at h
        cases h
        exact .inr ⟨e, List.mem_cons_self, hp, hn, hid⟩
      · rw [if_neg hid] at h
        exact (estate_sub h).imp (fun h => h) fun ⟨e', h1, h2⟩ => ⟨e', List.mem_cons_of_mem _ h1, h2⟩
    · exact (estate_sub h).imp (fun h => h) fun ⟨e', h1, h2⟩ => ⟨e', List.mem_cons_of_mem _ h1, h2⟩

/-- A number that is no early one's. -/
theorem estate_other {base : Nat} {st : ASt} {p : Nat → Bool} {id : Nat} : ∀ {es : List AEarly}, (∀ e, e ∈ es → p e.i = true → ∀ o, e.new = some (.obj o) → id ≠ base + e.i) → (estate base st p es).get id = st.get id
  | [], _ => rfl
  | e :: es, h => by
    have ih := estate_other (base := base) (st := st) (p := p) (id := id) (es := es) fun e' he' => h e' (List.mem_cons_of_mem _ he')
    simp only [estate]
    split
    · rename_i o' hp hn
      rw [ASt.get_put, if_neg (h e List.mem_cons_self hp o' hn)]
      exact ih
    · exact ih

theorem estate_own {base : Nat} {st : ASt} {p : Nat → Bool} {e : AEarly} {o : AObj} : ∀ {es : List AEarly}, e ∈ es → (∀ e', e' ∈ es → e'.i = e.i → e' = e) → p e.i = true → e.new = some (.obj o) →
    (estate base st p es).get (base + e.i) = some o
  | [], he, _, _, _ => by cases he
  | x :: es, he, hu, hp, hn => by
    simp only [estate]
    by_cases hx : x.i = e.i
    · have hx' := hu x List.mem_cons_self hx
      subst hx'
      rw [hp, hn]
      exact ASt.get_put_same _ _ _
    · have he' : e ∈ es := by
        rcases List.mem_cons.1 he with rfl | he'
        · exact absurd rfl hx
        · exact he'
      have ih := estate_own (base := base) (st := st) (p := p) (es := es) he' (fun e' h' => hu e' (List.mem_cons_of_mem _ h')) hp hn
      split
      · rw [ASt.get_put, if_neg (by omega)]
        exact ih
      · exact ih

theorem estate_keep {base : Nat} {st : ASt} {p : Nat → Bool} {es : List AEarly} (hnew : ∀ e, e ∈ es → ∀ o, e.new = some (.obj o) → st.get (base + e.i) = none) {id : Nat} {o : AObj}
    (h : st.get id = some o) : (estate base st p es).get id = some o := by
  rw [estate_other]
  · exact h
  · intro e he _ o' hn hid
    rw [hid, hnew e he o' hn] at h
    cases h

/-! ## the configuration -/
structure DCfg where
  T : List AV
  defers : List ADef
  st : ASt
  D : Nat
  Es : List AEarly

structure DValid (E : Env P) (ops : Array Oper) (A : List Nat) (base : Nat) (c : DCfg) : Prop where
  ent : ∀ e, e ∈ c.Es → ∃ o, ops[e.i]? = some o ∧ A[e.i]? = some e.anc ∧ e.dst = o.dst ∧ areval E ops base c.T c.st c.Es e.i e.anc e.forb o = some (e.val, e.new)
  dst : ∀ e, e ∈ c.Es → ∀ t v, e.dst = some t → c.T[t]? = some v → v = e.val
  sep : ∀ e, e ∈ c.Es → ∀ e', e' ∈ c.Es → ∀ t, e'.dst = some t → e.forb.testBit t = true ∨ e.anc.testBit e'.i = true
  nodup : ∀ e, e ∈ c.Es → ∀ e', e' ∈ c.Es → e'.i = e.i → e' = e
  new : ∀ e, e ∈ c.Es → ∀ o, e.new = some (.obj o) → c.st.get (base + e.i) = none

structure DInv (ops : Array Oper) (base : Nat) (m0 : Mu) (st0 : ASt) (w0 : World) (c : DCfg) (C : Array Bool) (a : Act) (w : World) (m : Mu) : Prop where
  size : C.size = ops.size
  closed : Closed ops C
  done : ∀ i, c.D.testBit i = true → C.getD i false = true
  only : ∀ i, C.getD i false = true → c.D.testBit i = true ∨ ∃ e, e ∈ c.Es ∧ e.i = i
  len : a.tmps.size = c.T.length
  tmps : ∀ (t : Nat) v, c.T[t]? = some v → (∃ e, e ∈ c.Es ∧ e.dst = some t ∧ C.getD e.i false = false) ∨ ∃ v', a.tmps[t]? = some v' ∧ VR m v v'
  defers : DefsR m c.defers a.defers
  stp : Stp m0 st0 w0 m (estate base c.st (fun i => C.getD i false) c.Es) w
  free : ∀ i, i < ops.size → C.getD i false = false → m.loc (base + i) = none
  next : base + ops.size ≤ c.st.next
  base : st0.next ≤ base

/-- What an operation reads is there, and right. -/
theorem DInv.rho {E : Env P} {ops : Array Oper} {base : Nat} {m0 : Mu} {st0 : ASt} {w0 : World} {c : DCfg} {C : Array Bool} {a : Act} {w : World} {m : Mu} (h : DInv ops base m0 st0 w0 c C a w m) (hG : GR E m) {anc forb : Nat}
    (hanc : ∀ j, anc.testBit j = true → C.getD j false = true) (hsep : ∀ e', e' ∈ c.Es → ∀ t, e'.dst = some t → forb.testBit t = true ∨ anc.testBit e'.i = true) :
    (∀ x v, arho E forb c.T x = some v → VR m v (a.eval x)) ∧ ∀ t v, forb.testBit t = false → c.T[t]? = some v → ∃ v', a.tmps[t]? = some v' ∧ VR m v v' := by
  have key : ∀ t v, forb.testBit t = false → c.T[t]? = some v → ∃ v', a.tmps[t]? = some v' ∧ VR m v v' := by
    intro t v ht hv
    rcases h.tmps t v hv with ⟨e, he, hd, hc⟩ | h1
    · exfalso
      rcases hsep e he t hd with h2 | h2
      · rw [ht] at h2; cases h2
      · rw [hanc _ h2] at hc; cases hc
    · exact h1
  refine ⟨fun x v hx => ?_, key⟩
  have other : ∀ x, (∀ (a' : Act), a'.eval x = a.eval x) → aeval E [] x = some v → VR m v (a.eval x) := by
    intro x hx2 hx
    have := aeval_ok (a := { a with tmps := #[] }) hG (by exact VRs.nil) hx
    rw [hx2] at this
    exact this
  cases x with
  | tmp t =>
    simp only [arho] at hx
    split at hx
    · cases hx
    · rename_i hf
      obtain ⟨v', h1, h2⟩ := key t v (by simpa using hf) hx
      simp only [Act.eval]
      have : a.tmps.getD t undef = v' := by simp [h1]
      rw [this]
      exact h2
  | const k => exact other _ (fun _ => rfl) hx
  | global g => exact other _ (fun _ => rfl) hx
  | func f => exact other _ (fun _ => rfl) hx

theorem DInv.guard {ops : Array Oper} {m : Mu} {T : List AV} {a : Act} {forb : Nat} (key : ∀ t v, forb.testBit t = false → T[t]? = some v → ∃ v', a.tmps[t]? = some v' ∧ VR m v v') {o : Oper} {b : Bool}
    (h : adguard ops forb T o = some b) : Region.wanted o (yielded ops a.tmps) = b := by
  unfold adguard at h
  unfold Region.wanted
  cases hg : o.guard with
  | none => rw [hg] at h; cases h; rfl
  | some gw =>
    obtain ⟨g, want⟩ := gw
    rw [hg] at h
    simp only at h ⊢
    cases hd : (ops[g]?).bind (·.dst) with
    | none => rw [hd] at h; cases h
    | some t =>
      rw [hd] at h
      simp only at h
      split at h
      · cases h
      · rename_i hf
        cases hT : T[t]? with
        | none => rw [hT] at h; cases h
        | some v =>
          obtain ⟨v', h1, h2⟩ := key t v (by simpa using hf) hT
          rw [hT] at h
          simp only [yielded, hd, Option.bind_some, h1]
          cases h2 <;> simp_all

end Go.Abs

/- REGIONS THAT DRAW THEIR ORDER, 3: one operation that comes early. -/
namespace Go.Abs
variable {P : Program}

theorem getD_set {C : Array Bool} {i j : Nat} (hi : i < C.size) : (C.setIfInBounds i true).getD j false = if j = i then true else C.getD j false := by
  by_cases h : j = i
  · subst h; simp [hi]
  · rw [if_neg h, getD_set_ne false (Ne.symm h)]

theorem Stp.trans0 {m m1 m2 : Mu} {st st1 st2 : ASt} {w w1 w2 : World} (h : Stp m st w m1 st1 w1) (k : Stp0 m1 st1 w1 m2 st2 w2) (ho : ∀ id, id < st.next → m2.loc id = m1.loc id)
    (hf : ∀ b i v, b < w1.heap.size → m2.K b i = some v → m1.K b i = some v) : Stp m st w m2 st2 w2 where
  ext := h.ext.trans k.ext
  sr := k.sr
  fr := {
    os := k.fr.os.trans h.fr.os
    tape := k.fr.tape.trans h.fr.tape
    output := k.fr.output.trans h.fr.output
    size := Nat.le_trans h.fr.size k.fr.size
    block := fun b hb hn => (k.fr.block b (Nat.lt_of_lt_of_le hb h.fr.size) (fun ho => hn (h.own b hb ho))).trans (h.fr.block b hb hn) }
  own := fun b hb ho => h.own b hb (k.own b (Nat.lt_of_lt_of_le hb h.fr.size) ho)
  next := Nat.le_trans h.next k.next
  old := fun id hid => (ho id hid).trans (h.old id hid)
  frz := fun b i v hb hk => h.frz b i v hb (hf b i v (Nat.lt_of_lt_of_le hb h.fr.size) hk)

theorem NewR.K {m m' : Mu} {id b : Nat} {nw : ANew} {ob : Obj} (hr : NewR m id b nw ob m') {j i : Nat} (h : j ≠ b) : m'.K j i = m.K j i := by
  cases nw with
  | obj o =>
    obtain ⟨r, rfl, hor⟩ := hr
    rfl
  | frz cs =>
    obtain ⟨c, e, rfl, rfl, hrow⟩ := hr
    simp [Mu.addK, h]

theorem put_tmps_size (a : Act) (dst : Option Tmp) (v : Value) : (a.put dst v).tmps.size = a.tmps.size := by
  cases dst <;> simp [Act.put]

theorem put_tmps_get {a : Act} {dst : Option Tmp} {v : Value} {t : Nat} : (a.put dst v).tmps[t]? = if dst = some t ∧ t < a.tmps.size then some v else a.tmps[t]? := by
  cases dst with
  | none => simp [Act.put]
  | some d =>
    simp only [Act.put]
    by_cases h : d = t
    · subst h
      by_cases hlt : d < a.tmps.size
      · simp [hlt]
      · simp [hlt]
    · rw [Array.getElem?_setIfInBounds_ne h, if_neg (by simp [h])]

theorem put_defs (a : Act) (dst : Option Tmp) (v : Value) : (a.put dst v).defers = a.defers := by
  cases dst <;> rfl

theorem DInv.take {E : Env P} {ops : Array Oper} {A : List Nat} {base : Nat} {m0 m m' : Mu} {st0 : ASt} {w0 w w' : World} {c : DCfg} {C : Array Bool} {a : Act} {v' : Value}
    (h : DInv ops base m0 st0 w0 c C a w m) (hv : DValid E ops A base c) {e : AEarly} (he : e ∈ c.Es) (hi : e.i ∈ Region.ready .any ops C) (hext : Ext m m') (hval : VR m' e.val v')
    (hstp : Stp m0 st0 w0 m' (estate base c.st (fun i => (C.setIfInBounds e.i true).getD i false) c.Es) w') (hfree : ∀ j, j ≠ e.i → m'.loc (base + j) = m.loc (base + j)) :
    DInv ops base m0 st0 w0 c (C.setIfInBounds e.i true) (a.put e.dst v') w' m' := by
  obtain ⟨hun, o, ho, hall⟩ := mem_ready.1 hi
  have hlt : e.i < C.size := by rw [h.size]; exact (Array.getElem?_eq_some_iff.1 ho).1
  refine ⟨by simp [h.size], ?_, ?_, ?_, by rw [put_tmps_size]; exact h.len, ?_, ?_, hstp, ?_, h.next, h.base⟩
  · intro j oj hj hc e' he' hb'
    rw [getD_set hlt] at hc ⊢
    by_cases hij : j = e.i
    · subst hij
      rw [ho] at hj; cases hj
      split
      · rfl
      · exact hall e' he' hb'
    · rw [if_neg hij] at hc
      split
      · rfl
      · exact h.closed j oj hj hc e' he' hb'
  · intro j hj
    rw [getD_set hlt]
    split
    · rfl
    · exact h.done j hj
  · intro j hj
    rw [getD_set hlt] at hj
    by_cases hij : j = e.i
    · exact .inr ⟨e, he, hij.symm⟩
    · rw [if_neg hij] at hj
      exact h.only j hj
  · intro t v ht
    rw [put_tmps_get]
    have htl : t < c.T.length := (List.getElem?_eq_some_iff.1 ht).1
    by_cases hd : e.dst = some t
    · right
      rw [if_pos ⟨hd, by rw [h.len]; exact htl⟩]
      have := hv.dst e he t v hd ht
      subst this
      exact ⟨v', rfl, hval⟩
    · rw [if_neg (fun x => hd x.1)]
      rcases h.tmps t v ht with ⟨e', he', hd', hc'⟩ | ⟨v1, h1, h2⟩
      · left
        refine ⟨e', he', hd', ?_⟩
        rw [getD_set hlt, if_neg]
        · exact hc'
        · intro hx
          have := hv.nodup e he e' he' hx
          subst this
          exact hd hd'
      · exact .inr ⟨v1, h1, h2.mono hext⟩
  · rw [put_defs]
    exact h.defers.mono hext
  · intro j hj hc
    rw [getD_set hlt] at hc
    by_cases hij : j = e.i
    · rw [if_pos hij] at hc; cases hc
    · rw [if_neg hij] at hc
      rw [hfree j hij]
      exact h.free j hj hc

theorem adguard_run {E : Env P} {ops : Array Oper} {base : Nat} {T : List AV} {st : ASt} {Es : List AEarly} {i anc forb : Nat} {o : Oper} {r : AV × Option ANew} (h : areval E ops base T st Es i anc forb o = some r) :
    (adguard ops forb T o = some false ∧ r = (.undef, none)) ∨
    (adguard ops forb T o = some true ∧ (
      (∃ v, apure E (arho E forb T) o.op = some v ∧ r = (v, none)) ∨
      (∃ v nw, aalloc E (arho E forb T) (base + i) o.op = some (v, nw) ∧ r = (v, some nw)) ∨
      (∃ v, aread E (arho E forb T) (estate base st anc.testBit Es) o.op = some v ∧ r = (v, none)))) := by
  unfold areval at h
  cases hg : adguard ops forb T o with
  | none => rw [hg] at h; cases h
  | some b =>
    rw [hg] at h
    cases b with
    | false => simp only [Option.some.injEq] at h; exact .inl ⟨rfl, h.symm⟩
    | true =>
      right
      refine ⟨rfl, ?_⟩
      simp only at h
      cases hp : apure E (arho E forb T) o.op with
      | some v => rw [hp] at h; simp only [Option.some.injEq] at h; exact .inl ⟨v, rfl, h.symm⟩
      | none =>
        rw [hp] at h
        simp only at h
        cases ha : aalloc E (arho E forb T) (base + i) o.op with
        | some x =>
          obtain ⟨v, nw⟩ := x
          rw [ha] at h; simp only [Option.some.injEq] at h; exact .inr (.inl ⟨v, nw, rfl, h.symm⟩)
        | none =>
          rw [ha] at h
          simp only at h
          cases hr : aread E (arho E forb T) (estate base st anc.testBit Es) o.op with
          | none => rw [hr] at h; cases h
          | some v => rw [hr] at h; simp only [Option.map_some, Option.some.injEq] at h; exact .inr (.inr ⟨v, rfl, h.symm⟩)

theorem sem_not_defer {b : Option Nat} {ρ : Operand → Value} {o : Oper} (h : ∀ c, o.op ≠ .defer c) : o.semAt b ρ = execOp ρ o := semAt_eq (.inr h)

theorem apure_defer {E : Env P} {ρ : Operand → Option AV} {op : Op} {v : AV} (h : apure E ρ op = some v) : ∀ c, op ≠ .defer c := by
  rintro c rfl
  simp [apure] at h
theorem aalloc_defer {E : Env P} {ρ : Operand → Option AV} {i : Nat} {op : Op} {v : AV × ANew} (h : aalloc E ρ i op = some v) : ∀ c, op ≠ .defer c := by
  rintro c rfl
  simp [aalloc] at h
theorem aread_defer {E : Env P} {ρ : Operand → Option AV} {st : ASt} {op : Op} {v : AV} (h : aread E ρ st op = some v) : ∀ c, op ≠ .defer c := by
  rintro c rfl
  simp [aread] at h

/-- The early operation is taken. -/
theorem DInv.entry {E : Env P} {ops : Array Oper} {A : List Nat} {base : Nat} {m0 m : Mu} {st0 : ASt} {w0 w : World} {c : DCfg} {C : Array Bool} {a : Act} {b : Option Nat} {Q : Exit → Act → World → Prop}
    (hA : AncOk ops.toList A) (h : DInv ops base m0 st0 w0 c C a w m) (hv : DValid E ops A base c) (hG : GR E m) {e : AEarly} (he : e ∈ c.Es) (hi : e.i ∈ Region.ready .any ops C) :
    wpOpIn (fence b) 0 P ops Q e.i (fun a' w' => ∃ m', Ext m m' ∧ DInv ops base m0 st0 w0 c (C.setIfInBounds e.i true) a' w' m') a w := by
  obtain ⟨hun, o, ho, hall⟩ := mem_ready.1 hi
  obtain ⟨o', ho', hmi, hd, hev⟩ := hv.ent e he
  rw [ho] at ho'; cases ho'
  have hlt : e.i < C.size := by rw [h.size]; exact (Array.getElem?_eq_some_iff.1 ho).1
  have hun' : C.getD e.i false = false := by
    rw [Array.getD_eq_getD_getElem?, Array.getElem?_eq_getElem hlt] at hun ⊢
    simpa using hun
  have hanc := hA.listed h.closed (e.i + 1) e.i o e.anc (by omega) ho hmi hall
  obtain ⟨hρ, key⟩ := h.rho hG hanc (fun e' he' t ht => hv.sep e he e' he' t ht)
  -- the state with one more
  have hsame : e.new = none ∨ (∃ cs, e.new = some (.frz cs)) → ∀ id x, (estate base c.st (fun i => (C.setIfInBounds e.i true).getD i false) c.Es).get id = some x → (estate base c.st (fun i => C.getD i false) c.Es).get id = some x := by
    intro hn id x hx
    rcases estate_sub hx with hx | ⟨e', h1, h2, h3, h4⟩
    · exact estate_keep hv.new hx
    · have hne : e'.i ≠ e.i := by
        intro hx
        have := hv.nodup e he e' h1 hx
        subst this
        rcases hn with hn | ⟨cs, hn⟩ <;> rw [hn] at h3 <;> cases h3
      simp only [getD_set hlt, if_neg hne] at h2
      subst h4
      exact estate_own h1 (fun e2 he2 hi2 => hv.nodup e' h1 e2 he2 hi2) h2 h3
  unfold wpOpIn
  rw [ho]
  simp only
  rcases adguard_run hev with ⟨hg, hr⟩ | ⟨hg, hr⟩
  · rw [DInv.guard key hg, if_neg (by simp)]
    simp only [Prod.mk.injEq] at hr
    refine ⟨fun f _ => fence_fn b f, m, .refl m, ?_⟩
    rw [← hd]
    exact h.take hv he hi (.refl m) (by rw [hr.1]; exact .undef) (h.stp.fewer (hsame (.inl hr.2)) (by rw [estate_next, estate_next]; exact Nat.le_refl _)) (fun _ _ => rfl)
  · rw [DInv.guard key hg, if_pos rfl]
    refine ⟨fun f _ => fence_fn b f, ?_⟩
    rw [fence_round]
    rcases hr with ⟨v, hp, hr⟩ | ⟨v, nw, hp, hr⟩ | ⟨v, hp, hr⟩
    · simp only [Prod.mk.injEq] at hr
      rw [sem_not_defer (apure_defer hp)]
      obtain ⟨v', h1, h2⟩ := apure_ok (fun _ => rfl) hρ hp
      rw [h2 w]
      simp only [Oper.uponIn]
      refine ⟨m, .refl m, ?_⟩
      rw [← hd]
      exact h.take hv he hi (.refl m) (by rw [hr.1]; exact h1) (h.stp.fewer (hsame (.inl hr.2)) (by rw [estate_next, estate_next]; exact Nat.le_refl _)) (fun _ _ => rfl)
    · simp only [Prod.mk.injEq] at hr
      rw [sem_not_defer (aalloc_defer hp)]
      have hloc := h.free e.i (by rw [← h.size]; exact hlt) hun'
      obtain ⟨v', ob, m', h1, h2, h3, h4⟩ := aalloc_ok hρ hp hloc w (fun o => h.stp.sr.noK o)
      rw [h1]
      simp only [Oper.uponIn]
      refine ⟨m', h3, ?_⟩
      rw [← hd]
      have hnx : base + e.i < c.st.next := by
        have := h.next
        have := h.size
        omega
      have hs1 := h.stp.sr.allocNew0 (id := base + e.i) (n := c.st.next) hloc (by rw [estate_next]; exact Nat.le_refl _) hnx h2
      have hold : ∀ j, j ≠ base + e.i → m'.loc j = m.loc j := fun j hj => h2.loc hj
      have htr : Stp m0 st0 w0 m' ((estate base c.st (fun i => C.getD i false) c.Es).putNew (base + e.i) c.st.next nw) (w.alloc ob) := by
        exact h.stp.trans0 hs1 (fun j hj => hold j (by have := h.base; omega)) (fun b i v hb hk => by rw [h2.K (Nat.ne_of_lt hb)] at hk; exact hk)
      refine h.take hv he hi h3 (by rw [hr.1]; exact h4) (htr.fewer ?_ ?_) (fun j hj => hold _ (by omega))
      · intro id x hx
        rcases estate_sub hx with hx | ⟨e', k1, k2, k3, k4⟩
        · have := estate_keep (p := fun i => C.getD i false) hv.new hx
          cases nw with
          | obj o1 =>
            show ASt.get ((estate base c.st (fun i => C.getD i false) c.Es).put (base + e.i) o1) id = some x
            rw [ASt.get_put, if_neg]
            · exact this
            · intro hid
              subst hid
              rw [hv.new e he o1 hr.2] at hx
              cases hx
          | frz cs => exact this
        · by_cases hx' : e'.i = e.i
          · have := hv.nodup e he e' k1 hx'
            subst this
            rw [hr.2] at k3
            cases k3
            subst k4
            exact ASt.get_put_same _ _ _
          · simp only [getD_set hlt, if_neg hx'] at k2
            have := estate_own (base := base) (st := c.st) k1 (fun e2 he2 hi2 => hv.nodup e' k1 e2 he2 hi2) (p := fun i => C.getD i false) k2 k3
            subst k4
            cases nw with
            | obj o1 =>
              show ASt.get ((estate base c.st (fun i => C.getD i false) c.Es).put (base + e.i) o1) (base + e'.i) = some x
              rw [ASt.get_put, if_neg (by omega)]
              exact this
            | frz cs => exact this
      · rw [estate_next]
        cases nw <;> exact Nat.le_refl _
    · simp only [Prod.mk.injEq] at hr
      rw [sem_not_defer (aread_defer hp)]
      have hs1 : SR m (estate base c.st e.anc.testBit c.Es) w := h.stp.sr.fewer (fun id x hx => by
        rcases estate_sub hx with hx | ⟨e', k1, k2, k3, k4⟩
        · exact estate_keep hv.new hx
        · subst k4
          exact estate_own k1 (fun e2 he2 hi2 => hv.nodup e' k1 e2 he2 hi2) (hanc _ k2) k3) (by rw [estate_next, estate_next]; exact Nat.le_refl _)
      obtain ⟨v', h1, h2⟩ := aread_ok hs1 hρ hp
      rw [h2]
      simp only [Oper.uponIn]
      refine ⟨m, .refl m, ?_⟩
      rw [← hd]
      exact h.take hv he hi (.refl m) (by rw [hr.1]; exact h1) (h.stp.fewer (hsame (.inl hr.2)) (by rw [estate_next, estate_next]; exact Nat.le_refl _)) (fun _ _ => rfl)

end Go.Abs

/- REGIONS THAT DRAW THEIR ORDER, 4: one operation that turns the state; all of a region. -/
namespace Go.Abs
variable {P : Program}

def tput (T : List AV) : Option Tmp → AV → List AV
  | none, _ => T
  | some d, v => T.set d v

theorem tput_length (T : List AV) (dst : Option Tmp) (v : AV) : (tput T dst v).length = T.length := by
  cases dst <;> simp [tput]

theorem tput_get {T : List AV} {dst : Option Tmp} {v u : AV} {t : Nat} (h : (tput T dst v)[t]? = some u) : (dst = some t ∧ u = v) ∨ (dst ≠ some t ∧ T[t]? = some u) := by
  cases dst with
  | none => exact .inr ⟨by simp, h⟩
  | some d =>
    simp only [tput] at h
    by_cases hd : d = t
    · subst hd
      rw [List.getElem?_set] at h
      simp only [if_true] at h
      split at h
      · cases h; exact .inl ⟨rfl, rfl⟩
      · cases h
    · rw [List.getElem?_set_ne hd] at h
      exact .inr ⟨by simp [hd], h⟩

def tputAll (T : List AV) : List AEarly → List AV
  | [] => T
  | e :: es => tput (tputAll T es) e.dst e.val

theorem tputAll_length (T : List AV) : ∀ es, (tputAll T es).length = T.length
  | [] => rfl
  | e :: es => by simp only [tputAll, tput_length]; exact tputAll_length T es

theorem tputAll_get {T : List AV} {u : AV} {t : Nat} : ∀ {es : List AEarly}, (tputAll T es)[t]? = some u → (∃ e, e ∈ es ∧ e.dst = some t) ∨ T[t]? = some u
  | [], h => .inr h
  | e :: es, h => by
    rcases tput_get h with ⟨h1, _⟩ | ⟨_, h2⟩
    · exact .inl ⟨e, List.mem_cons_self, h1⟩
    · exact (tputAll_get h2).imp (fun ⟨e', h3, h4⟩ => ⟨e', List.mem_cons_of_mem _ h3, h4⟩) fun h => h

def dnext (c : DCfg) (iw anc : Nat) (dst : Option Tmp) (v : AV) (ds : List ADef) (st : ASt) (added : List AEarly) : DCfg :=
  { T := tputAll (tput c.T dst v) added, defers := ds, st, D := c.D ||| anc ||| (1 <<< iw), Es := c.Es.filter (fun e => !anc.testBit e.i) ++ added }

def AddOk (c : DCfg) (iw anc : Nat) (added : List AEarly) : Prop :=
  ∀ e, e ∈ added → (c.D ||| anc ||| (1 <<< iw)).testBit e.i = false ∧ ∀ e', e' ∈ c.Es.filter (fun e => !anc.testBit e.i) → e'.i ≠ e.i

theorem DInv.then {E : Env P} {ops : Array Oper} {A : List Nat} {base : Nat} {m0 m m2 : Mu} {st0 st2 : ASt} {w0 w w2 : World} {c : DCfg} {C : Array Bool} {a a2 : Act} {iw anc : Nat} {o : Oper}
    (hA : AncOk ops.toList A) (h : DInv ops base m0 st0 w0 c C a w m) (hv : DValid E ops A base c) (hi : iw ∈ Region.ready .any ops C) (ho : ops[iw]? = some o) (hanc : A[iw]? = some anc)
    (hids : ∀ e, e ∈ c.Es → e.i ≠ iw) (hs : Stp m (estate base c.st anc.testBit c.Es) w m2 st2 w2) {v : AV} {v' : Value} (hval : VR m2 v v')
    {ds : List ADef} (hdef : DefsR m2 ds a2.defers) (ha2 : a2.tmps = (a.put o.dst v').tmps)
    {added : List AEarly} (hadd : AddOk c iw anc added) : DInv ops base m0 st0 w0 (dnext c iw anc o.dst v ds st2 added) (C.setIfInBounds iw true) a2 w2 m2 := by
  obtain ⟨hun, o', ho', hall⟩ := mem_ready.1 hi
  rw [ho] at ho'; cases ho'
  have hlt : iw < C.size := by rw [h.size]; exact (Array.getElem?_eq_some_iff.1 ho).1
  have hlisted := hA.listed h.closed (iw + 1) iw o anc (by omega) ho hanc hall
  have hun' : C.getD iw false = false := by
    rw [Array.getD_eq_getD_getElem?, Array.getElem?_eq_getElem hlt] at hun ⊢
    simpa using hun
  -- an early one that is listed later on is one that was listed
  have hlate : ∀ e, e ∈ c.Es.filter (fun e => !anc.testBit e.i) ++ added → (C.setIfInBounds iw true).getD e.i false = true → e ∈ c.Es ∧ anc.testBit e.i = false ∧ C.getD e.i false = true := by
    intro e he hc
    rw [getD_set hlt] at hc
    rcases List.mem_append.1 he with he | he
    · obtain ⟨h1, h2⟩ := List.mem_filter.1 he
      rw [if_neg (hids e h1)] at hc
      exact ⟨h1, by simpa using h2, hc⟩
    · exfalso
      obtain ⟨k1, k2⟩ := hadd e he
      simp only [Nat.testBit_or, Bool.or_eq_false_iff, testBit_shl, decide_eq_false_iff_not] at k1
      rw [if_neg (fun hx => k1.2 hx.symm)] at hc
      rcases h.only _ hc with hc | ⟨e', h1, h2⟩
      · rw [k1.1.1] at hc; cases hc
      · exact k2 e' (List.mem_filter.2 ⟨h1, by rw [h2, k1.1.2]; rfl⟩) h2
  refine ⟨by simp [h.size], ?_, ?_, ?_, ?_, ?_, hdef, ?_, ?_, ?_, h.base⟩
  · intro j oj hj hc e' he' hb'
    rw [getD_set hlt] at hc ⊢
    by_cases hij : j = iw
    · subst hij
      rw [ho] at hj; cases hj
      split
      · rfl
      · exact hall e' he' hb'
    · rw [if_neg hij] at hc
      split
      · rfl
      · exact h.closed j oj hj hc e' he' hb'
  · intro j hj
    rw [getD_set hlt]
    simp only [dnext, Nat.testBit_or, Bool.or_eq_true, testBit_shl, decide_eq_true_eq] at hj
    split
    · rfl
    · rename_i hne
      rcases hj with (hj | hj) | hj
      · exact h.done j hj
      · exact hlisted j hj
      · exact absurd hj.symm hne
  · intro j hj
    rw [getD_set hlt] at hj
    simp only [dnext, Nat.testBit_or, Bool.or_eq_true, testBit_shl, decide_eq_true_eq]
    by_cases hij : j = iw
    · exact .inl (.inr hij.symm)
    · rw [if_neg hij] at hj
      rcases h.only j hj with hj | ⟨e, h1, h2⟩
      · exact .inl (.inl (.inl hj))
      · by_cases hb : anc.testBit j = true
        · exact .inl (.inl (.inr hb))
        · exact .inr ⟨e, List.mem_append_left _ (List.mem_filter.2 ⟨h1, by rw [h2]; simpa using hb⟩), h2⟩
  · rw [ha2, put_tmps_size, h.len]
    simp only [dnext, tputAll_length, tput_length]
  · intro t u ht
    simp only [dnext] at ht
    have htl : t < c.T.length := by
      have := (List.getElem?_eq_some_iff.1 ht).1
      simpa only [tputAll_length, tput_length] using this
    rcases tputAll_get ht with ⟨e, h1, h2⟩ | ht
    · left
      refine ⟨e, List.mem_append_right _ h1, h2, ?_⟩
      cases hc : (C.setIfInBounds iw true).getD e.i false with
      | false => rfl
      | true =>
        exfalso
        obtain ⟨k1, k2, k3⟩ := hlate e (List.mem_append_right _ h1) hc
        exact (hadd e h1).2 e (List.mem_filter.2 ⟨k1, by rw [k2]; rfl⟩) rfl
    · rw [ha2, put_tmps_get]
      rcases tput_get ht with ⟨h1, rfl⟩ | ⟨h1, h2⟩
      · right
        rw [if_pos ⟨h1, by rw [h.len]; exact htl⟩]
        exact ⟨v', rfl, hval⟩
      · rw [if_neg (fun x => h1 x.1)]
        rcases h.tmps t u h2 with ⟨e, k1, k2, k3⟩ | ⟨v1, k1, k2⟩
        · left
          refine ⟨e, List.mem_append_left _ (List.mem_filter.2 ⟨k1, ?_⟩), k2, ?_⟩
          · cases hb : anc.testBit e.i with
            | false => rfl
            | true => rw [hlisted _ hb] at k3; cases k3
          · rw [getD_set hlt, if_neg (hids e k1)]
            exact k3
        · exact .inr ⟨v1, k1, k2.mono hs.ext⟩
  · have hsub : ∀ id x, (estate base c.st anc.testBit c.Es).get id = some x → (estate base c.st (fun i => C.getD i false) c.Es).get id = some x := fun id x hx => by
      rcases estate_sub hx with hx | ⟨e', k1, k2, k3, k4⟩
      · exact estate_keep hv.new hx
      · subst k4
        exact estate_own k1 (fun e2 he2 hi2 => hv.nodup e' k1 e2 he2 hi2) (hlisted _ k2) k3
    refine h.stp.trans (hs.frame h.stp.sr hsub (by rw [estate_next, estate_next]) (by rw [estate_next]; rfl) ?_)
    intro id x hx
    rcases estate_sub hx with hx | ⟨e', k1, k2, k3, k4⟩
    · exact .inl hx
    · right
      obtain ⟨j1, j2, j3⟩ := hlate e' k1 k2
      subst k4
      refine ⟨estate_own j1 (fun e2 he2 hi2 => hv.nodup e' j1 e2 he2 hi2) j3 k3, ?_⟩
      rw [estate_other]
      · exact hv.new e' j1 x k3
      · intro e2 he2 hp2 o2 hn2 hid
        have hii : e2.i = e'.i := by omega
        rw [hii, j2] at hp2
        cases hp2
  · intro j hj hc
    rw [getD_set hlt] at hc
    by_cases hij : j = iw
    · rw [if_pos hij] at hc; cases hc
    · rw [if_neg hij] at hc
      rw [hs.old (base + j) (by rw [estate_next]; have := h.next; omega)]
      exact h.free j hj hc
  · have := hs.next
    rw [estate_next] at this
    exact Nat.le_trans h.next this

/-! ## the operations, one by one -/
def ADraw (E : Env P) (E2 : Env2 E) (rd : Option Nat) (ops : Array Oper) (A : List Nat) (base : Nat) (Q : AExit → AFr → ASt → Prop) : Nat → DCfg → Prop
  | 0, c => DValid E ops A base c ∧ (∀ i, i < ops.size → c.D.testBit i = true ∨ ∃ e, e ∈ c.Es ∧ e.i = i) ∧ Q .normal ⟨c.T, c.defers⟩ (estate base c.st (fun _ => true) c.Es)
  | k + 1, c => DValid E ops A base c ∧ ∃ iw o anc forb, ops[iw]? = some o ∧ A[iw]? = some anc ∧ c.D.testBit iw = false ∧ (∀ e, e ∈ c.Es → e.i ≠ iw) ∧
      (∀ i, i < ops.size → c.D.testBit i = true ∨ (∃ e, e ∈ c.Es ∧ e.i = i) ∨ i = iw ∨ ∃ mi, A[i]? = some mi ∧ mi.testBit iw = true) ∧
      (∀ e', e' ∈ c.Es → ∀ t, e'.dst = some t → forb.testBit t = true ∨ anc.testBit e'.i = true) ∧
      ((adguard ops forb c.T o = some false ∧ ∃ added, AddOk c iw anc added ∧ ADraw E E2 rd ops A base Q k (dnext c iw anc o.dst .undef c.defers (estate base c.st anc.testBit c.Es) added)) ∨
       (adguard ops forb c.T o = some true ∧ ∃ n st', aop E (arho E forb c.T) (estate base c.st anc.testBit c.Es) o.op = some (n, st') ∧
        match n with
        | .value v => ∃ added, AddOk c iw anc added ∧ ADraw E E2 rd ops A base Q k (dnext c iw anc o.dst v c.defers st' added)
        | .skip => ∃ added, AddOk c iw anc added ∧ ADraw E E2 rd ops A base Q k (dnext c iw anc o.dst .undef c.defers st' added)
        | .defer d => rd = none ∧ ∃ added, AddOk c iw anc added ∧ ADraw E E2 rd ops A base Q k (dnext c iw anc o.dst .undef (d :: c.defers) st' added)
        | .call f as =>
          (∃ v, E2.ext f as = some v ∧ ∃ added, AddOk c iw anc added ∧ ADraw E E2 rd ops A base Q k (dnext c iw anc o.dst v c.defers st' added)) ∨
          (E2.ent f = true ∧ Sound E f as st' fun e s => match e with
            | .ret v => ∃ added, AddOk c iw anc added ∧ ADraw E E2 rd ops A base Q k (dnext c iw anc o.dst v c.defers s added)
            | .pan _ => False)
        | _ => False))

def unl (n : Nat) (C : Array Bool) : Nat := (List.range n).countP fun i => !C.getD i false

theorem countP_less {α : Type} {p q : α → Bool} (hpq : ∀ x, p x = true → q x = true) {i : α} (hq : q i = true) (hp : p i = false) : ∀ {l : List α}, i ∈ l → l.countP p + 1 ≤ l.countP q
  | [], h => by cases h
  | x :: xs, h => by
    have hmono : xs.countP p ≤ xs.countP q := List.countP_mono_left fun y _ => hpq y
    rw [List.countP_cons, List.countP_cons]
    by_cases hx : x = i
    · subst hx
      simp only [hp, hq, if_true]
      simp
      exact hmono
    · have hm : i ∈ xs := by
        rcases List.mem_cons.1 h with rfl | h
        · exact absurd rfl hx
        · exact h
      have ih := countP_less hpq hq hp hm
      cases hpx : p x with
      | false => simp; omega
      | true => simp [hpq x hpx]; omega

theorem unl_set {n i : Nat} {C : Array Bool} (hs : C.size = n) (hi : i < n) (hc : C.getD i false = false) : unl n (C.setIfInBounds i true) + 1 ≤ unl n C := by
  refine countP_less (i := i) ?_ (by simp [hc]) ?_ (List.mem_range.2 hi)
  · intro j hj
    simp only [Bool.not_eq_true'] at hj ⊢
    rw [getD_set (by omega)] at hj
    split at hj
    · cases hj
    · exact hj
  · simp only [Bool.not_eq_false', getD_set (show i < C.size by omega), if_true]

theorem unl_zero {n : Nat} {C : Array Bool} (h : unl n C = 0) : ∀ i, i < n → C.getD i false = true := by
  intro i hi
  have := (List.countP_eq_zero.1 h) i (List.mem_range.2 hi)
  simpa using this

theorem ready_nil_listed {ops : Array Oper} {A : List Nat} {C : Array Bool} (hA : AncOk ops.toList A) (hs : C.size = ops.size) (hr : Region.ready .any ops C = []) : ∀ n i, i < n → i < ops.size → C.getD i false = true := by
  intro n
  induction n with
  | zero => intro i hi; omega
  | succ n ih =>
    intro i hi hsz
    cases hc : C.getD i false with
    | true => rfl
    | false =>
      exfalso
      have ho : ops[i]? = some ops[i] := Array.getElem?_eq_getElem hsz
      obtain ⟨mi, _, h2, _⟩ := hA i ops[i] (by simp)
      have : i ∈ Region.ready .any ops C := by
        refine mem_ready.2 ⟨?_, _, ho, fun e he hb => ?_⟩
        · rw [Array.getD_eq_getD_getElem?, Array.getElem?_eq_getElem (by omega)] at hc ⊢
          simpa using hc
        · have := h2 e he hb
          exact ih e.on (by omega) (by omega)
      rw [hr] at this
      cases this

theorem ADraw.valid {E : Env P} {E2 : Env2 E} {rd : Option Nat} {ops : Array Oper} {A : List Nat} {base : Nat} {Q : AExit → AFr → ASt → Prop} {k : Nat} {c : DCfg} (h : ADraw E E2 rd ops A base Q k c) : DValid E ops A base c := by
  cases k <;> exact h.1

theorem VRs.of_get {m : Mu} : ∀ {as : List AV} {vs : List Value}, as.length = vs.length → (∀ (t : Nat) a, as[t]? = some a → ∃ v, vs[t]? = some v ∧ VR m a v) → VRs m as vs
  | [], [], _, _ => .nil
  | [], _ :: _, h, _ => by cases h
  | _ :: _, [], h, _ => by cases h
  | a :: as, v :: vs, hl, h => by
    refine .cons ?_ (VRs.of_get (by simpa using hl) fun t x ht => ?_)
    · obtain ⟨v', h1, h2⟩ := h 0 a (by simp)
      simp at h1
      subst h1
      exact h2
    · obtain ⟨v', h1, h2⟩ := h (t + 1) x (by simpa using ht)
      exact ⟨v', by simpa using h1, h2⟩

/-- All are listed: this is the end. -/
theorem ADraw.finish {E : Env P} {E2 : Env2 E} {rd : Option Nat} {ops : Array Oper} {A : List Nat} {base : Nat} {Q : AExit → AFr → ASt → Prop} {k : Nat} {c : DCfg} (hd : ADraw E E2 rd ops A base Q k c)
    {m0 m : Mu} {st0 : ASt} {w0 w : World} {C : Array Bool} {a : Act} (h : DInv ops base m0 st0 w0 c C a w m) (hall : ∀ i, i < ops.size → C.getD i false = true) : Post Q m0 st0 w0 .normal a w := by
  cases k with
  | zero =>
    obtain ⟨hv, _, hq⟩ := hd
    have hl : ∀ e, e ∈ c.Es → C.getD e.i false = true := fun e he => by
      obtain ⟨o, h1, _⟩ := hv.ent e he
      exact hall _ (Array.getElem?_eq_some_iff.1 h1).1
    refine ⟨.normal, _, _, m, hq, .normal, ⟨VRs.of_get ?_ ?_, h.defers⟩, h.stp.fewer ?_ ?_⟩
    · show c.T.length = a.tmps.toList.length
      rw [Array.length_toList, h.len]
    · intro t v ht
      rcases h.tmps t v ht with ⟨e, h1, h2, h3⟩ | ⟨v', h1, h2⟩
      · rw [hl e h1] at h3; cases h3
      · exact ⟨v', by simpa using h1, h2⟩
    · intro id x hx
      rcases estate_sub hx with hx | ⟨e', k1, k2, k3, k4⟩
      · exact estate_keep hv.new hx
      · subst k4
        exact estate_own k1 (fun e2 he2 hi2 => hv.nodup e' k1 e2 he2 hi2) (hl e' k1) k3
    · rw [estate_next, estate_next]; exact Nat.le_refl _
  | succ k =>
    exfalso
    obtain ⟨hv, iw, o, anc, forb, h1, h2, h3, h4, _⟩ := hd
    rcases h.only iw (hall iw (Array.getElem?_eq_some_iff.1 h1).1) with hx | ⟨e, k1, k2⟩
    · rw [h3] at hx; cases hx
    · exact h4 e k1 k2

theorem ADraw.ok {E : Env P} {E2 : Env2 E} {rd : Option Nat} {ops : Array Oper} {A : List Nat} {base : Nat} {Q : AExit → AFr → ASt → Prop} (hA : AncOk ops.toList A) {m0 : Mu} {st0 : ASt} {w0 : World} {b : Option Nat} :
    ∀ (fuel k : Nat) (c : DCfg) (C : Array Bool) (a : Act) (w : World) (m : Mu), ADraw E E2 rd ops A base Q k c → DInv ops base m0 st0 w0 c C a w m → GR E m → RdR m rd b → unl ops.size C ≤ fuel →
      wpAnyIn (fence b) 0 P .any ops (Post Q m0 st0 w0) fuel C a w := by
  intro fuel
  induction fuel with
  | zero =>
    intro k c C a w m hd h hG hr hf
    have hall := unl_zero (Nat.le_zero.1 hf)
    refine ⟨?_, hd.finish h hall⟩
    cases hx : Region.ready .any ops C with
    | nil => rfl
    | cons j js =>
      exfalso
      have hj : j ∈ Region.ready .any ops C := by rw [hx]; exact List.mem_cons_self
      obtain ⟨h1, o, h2, _⟩ := mem_ready.1 hj
      have hlt := (Array.getElem?_eq_some_iff.1 h2).1
      have := hall j hlt
      rw [Array.getD_eq_getD_getElem?, Array.getElem?_eq_getElem (by have := h.size; omega)] at h1 this
      simp at h1 this
      rw [h1] at this
      cases this
  | succ fuel ih =>
    intro k c C a w m hd h hG hr hf
    refine ⟨fun hx => hd.finish h fun i hi => ready_nil_listed hA h.size hx (i + 1) i (by omega) hi, fun i hi => ?_⟩
    obtain ⟨hun, o, ho, hall⟩ := mem_ready.1 hi
    have hlt : i < ops.size := (Array.getElem?_eq_some_iff.1 ho).1
    have hun' : C.getD i false = false := by
      rw [Array.getD_eq_getD_getElem?, Array.getElem?_eq_getElem (by have := h.size; omega)] at hun ⊢
      simpa using hun
    have hfuel : unl ops.size (C.setIfInBounds i true) ≤ fuel := by
      have := unl_set h.size hlt hun'
      omega
    by_cases hent : ∃ e, e ∈ c.Es ∧ e.i = i
    · obtain ⟨e, he, rfl⟩ := hent
      refine wpOpIn_mono ?_ (h.entry hA hd.valid hG he hi)
      rintro a' w' ⟨m', hext, h'⟩
      exact ih k c _ a' w' m' hd h' (hG.mono hext) (hr.mono hext) hfuel
    · cases k with
      | zero =>
        exfalso
        rcases hd.2.1 i hlt with hx | hx
        · rw [h.done i hx] at hun'; cases hun'
        · exact hent hx
      | succ k =>
        obtain ⟨hv, iw, o', anc, forb, h1, h2, h3, h4, hcov, hsep, hd⟩ := hd
        have hiw : i = iw := by
          rcases hcov i hlt with hx | hx | hx | ⟨mi, hx1, hx2⟩
          · rw [h.done i hx] at hun'; cases hun'
          · exact absurd hx hent
          · exact hx
          · exfalso
            have := hA.listed h.closed (i + 1) i o mi (by omega) ho hx1 hall iw hx2
            rcases h.only iw this with hx | ⟨e, k1, k2⟩
            · rw [h3] at hx; cases hx
            · exact h4 e k1 k2
        subst hiw
        rw [ho] at h1; cases h1
        have hanc := hA.listed h.closed (i + 1) i o anc (by omega) ho h2 hall
        obtain ⟨hρ, key⟩ := h.rho hG hanc hsep
        unfold wpOpIn
        rw [ho]
        simp only
        have hsS : SR m (estate base c.st anc.testBit c.Es) w := h.stp.sr.fewer (fun id x hx => by
          rcases estate_sub hx with hx | ⟨e', k1, k2, k3, k4⟩
          · exact estate_keep hv.new hx
          · subst k4
            exact estate_own k1 (fun e2 he2 hi2 => hv.nodup e' k1 e2 he2 hi2) (hanc _ k2) k3) (by rw [estate_next, estate_next]; exact Nat.le_refl _)
        -- what comes behind
        have go : ∀ {m2 : Mu} {st2 : ASt} {w2 : World} {v : AV} {v' : Value} {ds : List ADef} {a2 : Act}, Stp m (estate base c.st anc.testBit c.Es) w m2 st2 w2 → VR m2 v v' → DefsR m2 ds a2.defers →
            a2.tmps = (a.put o.dst v').tmps → (∃ added, AddOk c i anc added ∧ ADraw E E2 rd ops A base Q k (dnext c i anc o.dst v ds st2 added)) →
            wpAnyIn (fence b) 0 P .any ops (Post Q m0 st0 w0) fuel (C.setIfInBounds i true) a2 w2 := by
          intro m2 st2 w2 v v' ds a2 hs hval hdef ha2 ⟨added, k1, k2⟩
          exact ih k _ _ _ _ m2 k2 (h.then hA hv hi ho h2 h4 hs hval hdef ha2 k1) (hG.mono hs.ext) (hr.mono hs.ext) hfuel
        rcases hd with ⟨hg, hd⟩ | ⟨hg, n, st', hop, hd⟩
        · rw [DInv.guard key hg, if_neg (by simp)]
          refine ⟨fun f _ => fence_fn b f, ?_⟩
          exact go (.refl hsS) .undef (by rw [put_defs]; exact h.defers) rfl hd
        · rw [DInv.guard key hg, if_pos rfl]
          refine ⟨fun f _ => fence_fn b f, ?_⟩
          rw [fence_round]
          have hsem : o.semAt b a.eval = execOp a.eval o := by
            refine semAt_eq ?_
            by_cases hdf : ∃ c, o.op = .defer c
            · obtain ⟨c', hc⟩ := hdf
              rw [hc] at hop
              obtain ⟨d, rfl⟩ := aop_defer hop
              have := hd.1
              subst this
              cases hr
              exact .inl rfl
            · exact .inr fun c hc => hdf ⟨c, hc⟩
          rw [hsem]
          rcases aop_ok hsS (fun _ => rfl) hρ hop with ⟨w', m', hrun, hstp⟩ | ⟨rfl, f, as, cargs, rfl, hargs, hrun⟩ | ⟨rfl, y, as, yb, r, cargs, rfl, hargs, hyl, hrun⟩
          · generalize hq : (execOp a.eval o).run P w = res at hrun
            cases hrun with
            | value hval =>
              simp only [Oper.uponIn]
              exact go hstp hval (by rw [put_defs]; exact h.defers.mono hstp.ext) rfl hd
            | skip =>
              simp only [Oper.uponIn]
              exact go hstp .undef (by rw [put_defs]; exact h.defers.mono hstp.ext) rfl hd
            | defer hdd =>
              simp only [Oper.uponIn]
              refine go (v' := undef) hstp .undef ?_ ?_ hd.2
              · rw [put_defs]; exact .cons hdd (h.defers.mono hstp.ext)
              · cases o.dst <;> rfl
            | pan hval => exact hd.elim
          · rcases hd with ⟨v, hx, hd⟩ | ⟨hent2, hd⟩
            · obtain ⟨v', k1, k2⟩ := E2.ext_ok f as v hx m cargs hargs
              rw [hrun, k2 w]
              simp only [Oper.uponIn]
              exact go (.refl hsS) k1 (by rw [put_defs]; exact h.defers) rfl hd
            · rw [hrun, E2.ent_ok f hent2]
              simp only [Oper.uponIn]
              refine ⟨fun hdp => by rw [fence_depth] at hdp; simp at hdp, calls_fence ((hd m w cargs hG hargs hsS).mono fun e w' hh => ?_)⟩
              obtain ⟨ae, st2, m', hq, he, hstp⟩ := hh
              cases he with
              | ret hval => exact go hstp hval (by rw [put_defs]; exact h.defers.mono hstp.ext) rfl hq
              | pan hval => exact hq.elim
          · exact hd.elim

/-- The start of it. -/
def dstart (fr : AFr) (st : ASt) (n : Nat) (added : List AEarly) : DCfg :=
  { T := tputAll fr.tmps added, defers := fr.defers, st := { st with next := st.next + n }, D := 0, Es := added }

theorem ACode.draw {E : Env P} {E2 : Env2 E} {rd : Option Nat} {id : Nat} {ops : Array Oper} {A : List Nat} {fr : AFr} {st : ASt} {Q : AExit → AFr → ASt → Prop} {k : Nat} {added : List AEarly} (hA : ancs ops.toList [] = some A)
    (h : ADraw E E2 rd ops A st.next Q k (dstart fr st ops.size added)) : ACode E rd (.region id ops true) fr st Q := by
  intro m w a b hr hG ha hs
  refine wpIn_region_any E.mixed ?_
  have hC : ∀ i, (Array.replicate ops.size false).getD i false = false := fun i => by
    by_cases hi : i < ops.size <;> simp [hi]
  refine ADraw.ok (ancs_ok' hA) ops.size k _ _ a w.drew m h ?_ hG hr ?_
  · refine ⟨by simp, ?_, ?_, ?_, ?_, ?_, ha.defers, ?_, ?_, Nat.le_refl _, Nat.le_refl _⟩
    · intro i o _ hc
      rw [hC] at hc; cases hc
    · intro i hi
      simp [dstart] at hi
    · intro i hi
      rw [hC] at hi; cases hi
    · show _ = (tputAll fr.tmps added).length
      rw [tputAll_length, ha.tmps.length]
      simp
    · intro t v ht
      rcases tputAll_get ht with ⟨e, h1, h2⟩ | h1
      · exact .inl ⟨e, h1, h2, hC _⟩
      · obtain ⟨v', k1, k2⟩ := ha.tmps.get h1
        exact .inr ⟨v', by simpa using k1, k2⟩
    · refine (Stp.drew hs).fewer ?_ ?_
      · intro id x hx
        rcases estate_sub hx with hx | ⟨e', k1, k2, k3, k4⟩
        · exact hx
        · rw [hC] at k2; cases k2
      · rw [estate_next]; exact Nat.le_add_right _ _
    · intro i hi _
      exact hs.free (Nat.le_add_right _ _)
  · refine Nat.le_trans (List.countP_le_length) (by simp)

end Go.Abs
