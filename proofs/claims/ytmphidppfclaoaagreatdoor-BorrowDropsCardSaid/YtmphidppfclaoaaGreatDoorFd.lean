import Derived.Test.YtmphidppfclaoaaGreatDoorFc
import Derived.RecoverIn
/- THE EVALUATOR, 1: frames as finite maps; operations in a row. -/
namespace Go.Abs
variable {P : Program}

/-! ## frames -/
structure TFr where
  n : Nat
  T : Tr AV
  ds : List ADef

def tlist (n : Nat) (T : Tr AV) : List AV := (List.range n).map fun t => (T.get t).getD .undef
def TFr.fr (f : TFr) : AFr := ⟨tlist f.n f.T, f.ds⟩
def TFr.Ok (f : TFr) : Prop := ∀ t, f.n ≤ t → f.T.get t = none

theorem tlist_length (n : Nat) (T : Tr AV) : (tlist n T).length = n := by simp [tlist]
theorem tlist_get {n : Nat} {T : Tr AV} {t : Nat} (h : t < n) : (tlist n T)[t]? = some ((T.get t).getD .undef) := by
  simp [tlist, h]
theorem tlist_get_none {n : Nat} {T : Tr AV} {t : Nat} (h : n ≤ t) : (tlist n T)[t]? = none := by
  simp [tlist, h]

def TFr.put (f : TFr) : Option Tmp → AV → TFr
  | none, _ => f
  | some d, v => match f with
    | ⟨n, T, ds⟩ => bif Nat.ble n d then ⟨n, T, ds⟩ else ⟨n, T.set d (some v), ds⟩

theorem TFr.put_n (f : TFr) (dst : Option Tmp) (v : AV) : (f.put dst v).n = f.n := by
  cases dst with
  | none => rfl
  | some d =>
    simp only [TFr.put]
    cases Nat.ble f.n d <;> rfl

theorem TFr.put_ok {f : TFr} (h : f.Ok) (dst : Option Tmp) (v : AV) : (f.put dst v).Ok := by
  cases dst with
  | none => exact h
  | some d =>
    simp only [TFr.put]
    cases hb : Nat.ble f.n d with
    | true => exact h
    | false =>
      have hlt : d < f.n := by
        rcases Nat.lt_or_ge d f.n with h' | h'
        · exact h'
        · rw [Nat.ble_eq_true_of_le h'] at hb; cases hb
      intro t ht
      have ht' : f.n ≤ t := ht
      show (f.T.set d (some v)).get t = none
      rw [Tr.get_set_ne _ _ (show t ≠ d from fun h => Nat.lt_irrefl _ (Nat.lt_of_lt_of_le hlt (h ▸ ht')))]
      exact h t ht'

theorem TFr.put_fr {f : TFr} (dst : Option Tmp) (v : AV) : (f.put dst v).fr = f.fr.put dst v := by
  cases dst with
  | none => rfl
  | some d =>
    simp only [TFr.put, AFr.put, TFr.fr]
    cases hb : Nat.ble f.n d with
    | true =>
      have hge : f.n ≤ d := Nat.le_of_ble_eq_true hb
      simp only [cond_true]
      rw [List.set_eq_of_length_le (by rw [tlist_length]; exact hge)]
    | false =>
      simp only [cond_false]
      congr 1
      apply List.ext_getElem?
      intro t
      by_cases ht : t < f.n
      · rw [tlist_get ht, List.getElem?_set, Tr.get_set]
        by_cases hd : t = d
        · subst hd
          simp [tlist_length, ht]
        · rw [if_neg hd, if_neg (fun h => hd h.symm), tlist_get ht]
      · rw [tlist_get_none (Nat.le_of_not_lt ht), List.getElem?_set]
        split
        · split
          · rename_i h1 h2
            rw [tlist_length] at h2
            omega
          · rfl
        · rw [tlist_get_none (Nat.le_of_not_lt ht)]

def TFr.get (f : TFr) (t : Nat) : AV := match f.T.get t with
  | some v => v
  | none => .undef

theorem TFr.get_eq {f : TFr} (h : f.Ok) (t : Nat) : f.fr.tmps.getD t .undef = f.get t := by
  have hg : f.get t = (f.T.get t).getD .undef := by
    unfold TFr.get
    cases f.T.get t <;> rfl
  rw [hg, List.getD_eq_getElem?_getD]
  by_cases ht : t < f.n
  · rw [show f.fr.tmps = tlist f.n f.T from rfl, tlist_get ht]; rfl
  · rw [show f.fr.tmps = tlist f.n f.T from rfl, tlist_get_none (Nat.le_of_not_lt ht), h t (Nat.le_of_not_lt ht)]

def teval (E : Env P) (f : TFr) : Operand → Option AV
  | .tmp t => some (f.get t)
  | .const v => ofV v
  | .global g => match E.glob g with
    | some (sz, elems) => some (.fptr sz elems 0 0)
    | none => none
  | .func f => some (.func f [] [])

theorem teval_eq {E : Env P} {f : TFr} (h : f.Ok) : teval E f = aeval E f.fr.tmps := by
  funext x
  cases x with
  | tmp t => simp only [teval, aeval, TFr.get_eq h]
  | const v => rfl
  | global g => rfl
  | func f => rfl

def tguard (os : List Oper) (f : TFr) (o : Oper) : Bool :=
  match o.guard with
  | none => true
  | some (j, want) => match os[j]? with
    | none => false
    | some g => match g.dst with
      | none => false
      | some t => match f.get t with
        | .bool b => b == want
        | _ => false

theorem tguard_eq {f : TFr} (h : f.Ok) {ops : Array Oper} (o : Oper) : tguard ops.toList f o = awanted ops f.fr.tmps o := by
  unfold tguard awanted
  cases o.guard with
  | none => rfl
  | some gw =>
    obtain ⟨j, want⟩ := gw
    simp only [ayielded, Array.getElem?_toList]
    cases ops[j]? with
    | none => rfl
    | some g =>
      simp only [Option.bind_some]
      cases hd : g.dst with
      | none => rfl
      | some t =>
        simp only [Option.bind_some]
        have hg := TFr.get_eq h t
        rw [List.getD_eq_getElem?_getD] at hg
        cases ht : f.fr.tmps[t]? with
        | none =>
          rw [ht] at hg
          rw [← hg]
          rfl
        | some v =>
          rw [ht] at hg
          rw [← hg]
          cases v <;> rfl

/-- A frame of a list. -/
def tfill : List AV → Nat → Tr AV → Tr AV
  | [], _, T => T
  | a :: as, i, T => tfill as (i + 1) (T.set i (some a))

theorem tfill_get : ∀ (as : List AV) (i : Nat) (T : Tr AV) (t : Nat), (tfill as i T).get t = if i ≤ t ∧ t < i + as.length then as[t - i]? else T.get t
  | [], i, T, t => by
    simp only [tfill, List.length_nil, Nat.add_zero]
    rw [if_neg (by omega)]
  | a :: as, i, T, t => by
    simp only [tfill, List.length_cons]
    rw [tfill_get as (i + 1) _ t, Tr.get_set]
    by_cases h : i + 1 ≤ t ∧ t < i + 1 + as.length
    · rw [if_pos h, if_pos (by omega)]
      rw [show t - i = (t - (i + 1)) + 1 by omega, List.getElem?_cons_succ]
    · rw [if_neg h]
      by_cases hi : t = i
      · subst hi
        rw [if_pos rfl, if_pos (by omega)]
        simp
      · rw [if_neg hi, if_neg (by omega)]

def tinit (n : Nat) (as : List AV) : TFr := ⟨as.length + n, tfill as 0 .leaf, []⟩

theorem tinit_ok (n : Nat) (as : List AV) : (tinit n as).Ok := by
  intro t ht
  have ht : as.length + n ≤ t := ht
  show (tfill as 0 .leaf).get t = none
  rw [tfill_get, if_neg (by omega)]
  rfl

theorem tinit_fr (n : Nat) (as : List AV) : (tinit n as).fr = ⟨as ++ List.replicate n .undef, []⟩ := by
  simp only [TFr.fr, tinit]
  congr 1
  apply List.ext_getElem?
  intro t
  by_cases ht : t < as.length + n
  · rw [tlist_get ht, tfill_get]
    by_cases hl : t < as.length
    · rw [if_pos (by omega), List.getElem?_append_left hl, Nat.sub_zero, List.getElem?_eq_getElem hl]; rfl
    · rw [if_neg (by omega), List.getElem?_append_right (by omega), List.getElem?_replicate, if_pos (by omega)]; rfl
  · rw [tlist_get_none (by omega), List.getElem?_eq_none (by simp; omega)]

/-! ## what a part of the evaluator promises -/
abbrev CallF := FuncId → List AV → ASt → Option (AEnd × ASt)
abbrev CodeF := Option Nat → Code → TFr → ASt → Option (AExit × TFr × ASt)
abbrev RoundF := Nat → List AV → ASt → Option (AV × ASt)
abbrev DefF := FuncId → List AV → AMode → ASt → Option (AEnd × AMode × ASt)

def CallOk (E : Env P) (cf : CallF) : Prop := ∀ f as st e s, cf f as st = some (e, s) → Sound E f as st fun e' s' => e' = e ∧ s' = s
def Lands (tf' : TFr) (e : AExit) (st' : ASt) : AExit → AFr → ASt → Prop := fun e1 fr1 s1 => e1 = e ∧ fr1 = tf'.fr ∧ s1 = st'
def CodeOk (E : Env P) (kf : CodeF) : Prop := ∀ rd c tf st e tf' st', tf.Ok → kf rd c tf st = some (e, tf', st') → tf'.Ok ∧ ACode E rd c tf.fr st (Lands tf' e st')
def RoundOk (E : Env P) (rf : RoundF) : Prop := ∀ l as st v s, rf l as st = some (v, s) → ARound E l as st fun v' s' => v' = v ∧ s' = s
def DefOk (E : Env P) (df : DefF) : Prop := ∀ f as md st e md' s, df f as md st = some (e, md', s) → SoundD E f as md st fun e1 m1 s1 => e1 = e ∧ m1 = md' ∧ s1 = s

/-! ## operations in a row -/
def evOps (E : Env P) (E2 : Env2 E) (cf : CallF) (rf : RoundF) (rd : Option Nat) (all : List Oper) : List Oper → TFr → ASt → Option (AExit × TFr × ASt)
  | [], tf, st => some (.normal, tf, st)
  | o :: os, tf, st =>
    match tguard all tf o with
    | false => evOps E E2 cf rf rd all os (tf.put o.dst .undef) st
    | true =>
      match aop E (teval E tf) st o.op with
      | none => none
      | some (n, st1) =>
        match n with
        | .value v => evOps E E2 cf rf rd all os (tf.put o.dst v) st1
        | .skip => evOps E E2 cf rf rd all os (tf.put o.dst .undef) st1
        | .defer d => match rd with
          | none => evOps E E2 cf rf rd all os (({ tf with ds := d :: tf.ds } : TFr).put o.dst .undef) st1
          | some _ => none
        | .pan v => some (.pan v, tf, st1)
        | .call f as => match E2.ext f as with
          | some v => evOps E E2 cf rf rd all os (tf.put o.dst v) st1
          | none => match E2.ent f with
            | false => none
            | true => match cf f as st1 with
              | some (.ret v, s) => evOps E E2 cf rf rd all os (tf.put o.dst v) s
              | some (.pan v, s) => some (.pan v, tf, s)
              | none => none
        | .yield l as => match rf l as st1 with
          | some (v, s) => evOps E E2 cf rf rd all os (tf.put o.dst v) s
          | none => none

theorem AOps.mono {E : Env P} {rd : Option Nat} {ops : Array Oper} {l : List Nat} {fr : AFr} {st : ASt} {Q Q' : AExit → AFr → ASt → Prop} (h : AOps E rd ops l fr st Q) (hq : ∀ e f s, Q e f s → Q' e f s) : AOps E rd ops l fr st Q' :=
  fun m w a b hr hG ha hs => wpOpsIn_mono (fun _ _ _ ⟨ae, fr', st', m', q, r⟩ => ⟨ae, fr', st', m', hq _ _ _ q, r⟩) _ _ _ (h m w a b hr hG ha hs)

theorem evOps_ok {E : Env P} {E2 : Env2 E} {cf : CallF} {rf : RoundF} (hc : CallOk E cf) (hr : RoundOk E rf) {rd : Option Nat} {ops : Array Oper} :
    ∀ (os : List Oper) (i : Nat) (tf : TFr) (st : ASt) (e : AExit) (tf' : TFr) (st' : ASt), ops.toList.drop i = os → tf.Ok → evOps E E2 cf rf rd ops.toList os tf st = some (e, tf', st') →
      tf'.Ok ∧ AOps E rd ops (List.range' i os.length) tf.fr st (Lands tf' e st') := by
  intro os
  induction os with
  | nil =>
    intro i tf st e tf' st' _ ho h
    simp only [evOps, Option.some.injEq, Prod.mk.injEq] at h
    obtain ⟨rfl, rfl, rfl⟩ := h
    exact ⟨ho, AOps.nil ⟨rfl, rfl, rfl⟩⟩
  | cons o os ih =>
    intro i tf st e tf' st' hd ho h
    have hoi : ops[i]? = some o := by
      have : (ops.toList.drop i)[0]? = some o := by rw [hd]; rfl
      rw [List.getElem?_drop] at this
      simpa using this
    have hd' : ops.toList.drop (i + 1) = os := by
      rw [← List.drop_drop, hd]; rfl
    rw [List.length_cons, List.range'_succ]
    simp only [evOps] at h
    -- what comes behind, where a value is put
    have next : ∀ (tf1 : TFr) (st1 : ASt), tf1.Ok → evOps E E2 cf rf rd ops.toList os tf1 st1 = some (e, tf', st') → tf'.Ok ∧ AOps E rd ops (List.range' (i + 1) os.length) tf1.fr st1 (Lands tf' e st') :=
      fun tf1 st1 k1 k2 => ih (i + 1) tf1 st1 e tf' st' hd' k1 k2
    cases hg : tguard ops.toList tf o with
    | false =>
      rw [hg] at h
      obtain ⟨k1, k2⟩ := next _ _ (TFr.put_ok ho _ _) h
      rw [TFr.put_fr] at k2
      exact ⟨k1, AOps.unwanted hoi (by rw [← tguard_eq ho, hg]) k2⟩
    | true =>
      rw [hg] at h
      have hw : awanted ops tf.fr.tmps o = true := by rw [← tguard_eq ho, hg]
      simp only at h
      cases hop : aop E (teval E tf) st o.op with
      | none => rw [hop] at h; cases h
      | some r =>
        obtain ⟨n, st1⟩ := r
        rw [hop] at h
        rw [teval_eq ho] at hop
        have fin : ∀ {Q : Prop}, (Q ∧ AThen E E2 rd ops (List.range' (i + 1) os.length) o tf.fr st1 (Lands tf' e st') n) → Q ∧ AOps E rd ops (i :: List.range' (i + 1) os.length) tf.fr st (Lands tf' e st') :=
          fun ⟨k1, k2⟩ => ⟨k1, AOps.step hoi hw hop k2⟩
        apply fin
        cases n with
        | value v =>
          obtain ⟨k1, k2⟩ := next _ _ (TFr.put_ok ho _ _) h
          rw [TFr.put_fr] at k2
          exact ⟨k1, k2⟩
        | skip =>
          obtain ⟨k1, k2⟩ := next _ _ (TFr.put_ok ho _ _) h
          rw [TFr.put_fr] at k2
          exact ⟨k1, k2⟩
        | defer d =>
          cases rd with
          | some l => cases h
          | none =>
            obtain ⟨k1, k2⟩ := next _ _ (TFr.put_ok (f := { tf with ds := d :: tf.ds }) ho _ _) h
            rw [TFr.put_fr] at k2
            exact ⟨k1, rfl, k2⟩
        | pan v =>
          simp only [Option.some.injEq, Prod.mk.injEq] at h
          obtain ⟨rfl, rfl, rfl⟩ := h
          exact ⟨ho, rfl, rfl, rfl⟩
        | call f as =>
          simp only at h
          cases hx : E2.ext f as with
          | some v =>
            rw [hx] at h
            obtain ⟨k1, k2⟩ := next _ _ (TFr.put_ok ho _ _) h
            rw [TFr.put_fr] at k2
            exact ⟨k1, .inl ⟨v, hx, k2⟩⟩
          | none =>
            rw [hx] at h
            simp only at h
            cases hen : E2.ent f with
            | false => rw [hen] at h; cases h
            | true =>
              rw [hen] at h
              simp only at h
              cases hcf : cf f as st1 with
              | none => rw [hcf] at h; cases h
              | some r =>
                obtain ⟨ae, s⟩ := r
                rw [hcf] at h
                have hs := hc _ _ _ _ _ hcf
                cases ae with
                | ret v =>
                  obtain ⟨k1, k2⟩ := next _ _ (TFr.put_ok ho _ _) h
                  rw [TFr.put_fr] at k2
                  refine ⟨k1, .inr ⟨hen, hs.mono fun e1 s1 hq => ?_⟩⟩
                  obtain ⟨rfl, rfl⟩ := hq
                  exact k2
                | pan v =>
                  simp only [Option.some.injEq, Prod.mk.injEq] at h
                  obtain ⟨rfl, rfl, rfl⟩ := h
                  refine ⟨ho, .inr ⟨hen, hs.mono fun e1 s1 hq => ?_⟩⟩
                  obtain ⟨rfl, rfl⟩ := hq
                  exact ⟨rfl, rfl, rfl⟩
        | yield l as =>
          simp only at h
          cases hrf : rf l as st1 with
          | none => rw [hrf] at h; cases h
          | some r =>
            obtain ⟨v, s⟩ := r
            rw [hrf] at h
            obtain ⟨k1, k2⟩ := next _ _ (TFr.put_ok ho _ _) h
            rw [TFr.put_fr] at k2
            refine ⟨k1, ?_⟩
            intro m w b r cargs hG ha hs hl
            obtain ⟨f, tmps, assign, body, j1, j2⟩ := hr _ _ _ _ _ hrf m w b r cargs hG ha hs hl
            refine ⟨f, tmps, assign, body, j1, j2.mono ?_⟩
            rintro e1 w1 ⟨a1, v1, st2, m2, ⟨rfl, rfl⟩, q2⟩
            exact ⟨_, v1, _, m2, k2, q2⟩

end Go.Abs

/- THE EVALUATOR, 2: regions that draw their order. -/
namespace Go.Abs
variable {P : Program}

def TFr.get? (f : TFr) (t : Nat) : Option AV := match f.T.get t with
  | some v => some v
  | none => bif Nat.ble f.n t then none else some .undef

theorem TFr.get?_eq {f : TFr} (h : f.Ok) (t : Nat) : f.fr.tmps[t]? = f.get? t := by
  show (tlist f.n f.T)[t]? = _
  unfold TFr.get?
  by_cases ht : t < f.n
  · rw [tlist_get ht]
    have : Nat.ble f.n t = false := by
      cases hb : Nat.ble f.n t with
      | false => rfl
      | true => exact absurd (Nat.le_of_ble_eq_true hb) (Nat.not_le_of_lt ht)
    cases f.T.get t <;> simp [this]
  · have hge := Nat.le_of_not_lt ht
    rw [tlist_get_none hge, h t hge, Nat.ble_eq_true_of_le hge]
    rfl

def trho (E : Env P) (forb : Nat) (f : TFr) : Operand → Option AV
  | .tmp t => match forb.testBit t with
    | true => none
    | false => f.get? t
  | x => aeval E [] x

theorem trho_eq {E : Env P} {forb : Nat} {f : TFr} (h : f.Ok) : trho E forb f = arho E forb f.fr.tmps := by
  funext x
  cases x with
  | tmp t =>
    simp only [trho, arho, TFr.get?_eq h]
    cases forb.testBit t <;> simp
  | const v => rfl
  | global g => rfl
  | func f => rfl

def tdguard (os : List Oper) (forb : Nat) (f : TFr) (o : Oper) : Option Bool :=
  match o.guard with
  | none => some true
  | some (g, want) => match os[g]? with
    | none => none
    | some x => match x.dst with
      | none => none
      | some t => match forb.testBit t with
        | true => none
        | false => match f.get? t with
          | none => none
          | some (.bool b) => some (b == want)
          | some _ => some false

theorem tdguard_eq {ops : Array Oper} {forb : Nat} {f : TFr} (h : f.Ok) (o : Oper) : tdguard ops.toList forb f o = adguard ops forb f.fr.tmps o := by
  unfold tdguard adguard
  cases o.guard with
  | none => rfl
  | some gw =>
    obtain ⟨g, want⟩ := gw
    simp only [Array.getElem?_toList]
    cases ops[g]? with
    | none => rfl
    | some x =>
      simp only [Option.bind_some]
      cases x.dst with
      | none => rfl
      | some t =>
        simp only [TFr.get?_eq h]
        cases forb.testBit t with
        | true => simp
        | false =>
          simp only [Bool.false_eq_true, if_false]
          cases f.get? t with
          | none => rfl
          | some v => cases v <;> rfl

def treval (E : Env P) (os : List Oper) (base : Nat) (f : TFr) (st : ASt) (Es : List AEarly) (i anc forb : Nat) (o : Oper) : Option (AV × Option ANew) :=
  match tdguard os forb f o with
  | none => none
  | some false => some (.undef, none)
  | some true =>
    match apure E (trho E forb f) o.op with
    | some v => some (v, none)
    | none =>
      match aalloc E (trho E forb f) (base + i) o.op with
      | some (v, nw) => some (v, some nw)
      | none => match aread E (trho E forb f) (estate base st anc.testBit Es) o.op with
        | some v => some (v, none)
        | none => none

theorem treval_eq {E : Env P} {ops : Array Oper} {base : Nat} {f : TFr} (h : f.Ok) {st : ASt} {Es : List AEarly} {i anc forb : Nat} {o : Oper} :
    treval E ops.toList base f st Es i anc forb o = areval E ops base f.fr.tmps st Es i anc forb o := by
  unfold treval areval
  rw [tdguard_eq h, trho_eq h]
  cases adguard ops forb f.fr.tmps o with
  | none => rfl
  | some b =>
    cases b with
    | false => rfl
    | true =>
      simp only
      cases apure E (arho E forb f.fr.tmps) o.op with
      | some v => rfl
      | none =>
        simp only
        cases aalloc E (arho E forb f.fr.tmps) (base + i) o.op with
        | some x => rfl
        | none =>
          simp only
          cases aread E (arho E forb f.fr.tmps) (estate base st anc.testBit Es) o.op <;> rfl

/-- Does an operation look at a temporary? -/
def oreads (o : Oper) (t : Nat) : Bool := o.op.operands.toList.any fun
  | .tmp u => Nat.beq u t
  | _ => false

/-- The temporaries of all operations that do not come before; but for those that come behind and write what is looked at. -/
def tforb (anc i : Nat) (x : Oper) : List Nat → List Oper → Nat → Nat → Nat
  | a :: as, o :: os, j, acc => match anc.testBit j with
    | true => tforb anc i x as os (j + 1) acc
    | false => match o.dst with
      | none => tforb anc i x as os (j + 1) acc
      | some t => match a.testBit i && oreads x t with
        | true => tforb anc i x as os (j + 1) acc
        | false => tforb anc i x as os (j + 1) (acc ||| (1 <<< t))
  | _, _, _, acc => acc

/-- No early one looks at what i writes, unless it comes behind. -/
def sepNew (dst : Option Tmp) (i : Nat) (es : List AEarly) : Bool :=
  match dst with
  | none => true
  | some t => es.all fun e => e.forb.testBit t || e.anc.testBit i

def tsub (a b : Nat) : Bool := Nat.beq (a &&& b) a

/-- All that may come early, one after the other. -/
def tgrow (E : Env P) (all : List Oper) (A : List Nat) (base : Nat) (st : ASt) (D : Nat) (Es0 : List AEarly) : List Oper → Nat → TFr → Nat → List AEarly → TFr × List AEarly
  | [], _, tf, _, added => (tf, added)
  | o :: os, i, tf, mask, added =>
    match mask.testBit i with
    | true => tgrow E all A base st D Es0 os (i + 1) tf mask added
    | false => match A[i]? with
      | none => tgrow E all A base st D Es0 os (i + 1) tf mask added
      | some anc => match tsub anc mask with
        | false => tgrow E all A base st D Es0 os (i + 1) tf mask added
        | true => match sepNew o.dst i (Es0 ++ added) with
          | false => tgrow E all A base st D Es0 os (i + 1) tf mask added
          | true => match treval E all base tf st (Es0 ++ added) i anc (tforb anc i o A all 0 0) o with
            | none => tgrow E all A base st D Es0 os (i + 1) tf mask added
            | some (v, nw) => tgrow E all A base st D Es0 os (i + 1) (tf.put o.dst v) (mask ||| (1 <<< i)) (⟨i, o.dst, v, nw, anc, tforb anc i o A all 0 0⟩ :: added)

def emask : List AEarly → Nat
  | [] => 0
  | e :: es => (1 <<< e.i) ||| emask es

theorem tgrow_ok {E : Env P} {all : List Oper} {A : List Nat} {base : Nat} {st : ASt} {D : Nat} {Es0 : List AEarly} : ∀ (os : List Oper) (i : Nat) (tf : TFr) (mask : Nat) (added : List AEarly) (T0 : List AV) (tf' : TFr) (added' : List AEarly),
    tf.Ok → tf.fr.tmps = tputAll T0 added → tgrow E all A base st D Es0 os i tf mask added = (tf', added') → tf'.Ok ∧ tf'.fr.tmps = tputAll T0 added' ∧ tf'.ds = tf.ds := by
  intro os
  induction os with
  | nil =>
    intro i tf mask added T0 tf' added' ho ht h
    simp only [tgrow, Prod.mk.injEq] at h
    obtain ⟨rfl, rfl⟩ := h
    exact ⟨ho, ht, rfl⟩
  | cons o os ih =>
    intro i tf mask added T0 tf' added' ho ht h
    simp only [tgrow] at h
    split at h
    · exact ih _ _ _ _ _ _ _ ho ht h
    · split at h
      · exact ih _ _ _ _ _ _ _ ho ht h
      · split at h
        · exact ih _ _ _ _ _ _ _ ho ht h
        · split at h
          · exact ih _ _ _ _ _ _ _ ho ht h
          split at h
          · exact ih _ _ _ _ _ _ _ ho ht h
          · rename_i v nw _
            obtain ⟨k1, k2, k3⟩ := ih _ _ _ _ T0 _ _ (TFr.put_ok ho _ _) (by
              rw [TFr.put_fr]
              show (tf.fr.put o.dst v).tmps = tput (tputAll T0 added) o.dst v
              rw [← ht]
              cases o.dst <;> rfl) h
            refine ⟨k1, k2, k3.trans ?_⟩
            cases o.dst with
            | none => rfl
            | some d =>
              simp only [TFr.put]
              cases Nat.ble tf.n d <;> rfl

structure DT where
  tf : TFr
  st : ASt
  D : Nat
  Es : List AEarly

def DT.cfg (c : DT) : DCfg := { T := c.tf.fr.tmps, defers := c.tf.ds, st := c.st, D := c.D, Es := c.Es }

def sepB (forb anc : Nat) : List AEarly → Bool
  | [] => true
  | e :: es => match e.dst with
    | none => sepB forb anc es
    | some t => (forb.testBit t || anc.testBit e.i) && sepB forb anc es

theorem sepB_ok {forb anc : Nat} : ∀ {es : List AEarly}, sepB forb anc es = true → ∀ e', e' ∈ es → ∀ t, e'.dst = some t → forb.testBit t = true ∨ anc.testBit e'.i = true
  | [], _, e', he, _, _ => by cases he
  | e :: es, h, e', he, t, ht => by
    simp only [sepB] at h
    rcases List.mem_cons.1 he with rfl | he
    · rw [ht] at h
      simp only [Bool.and_eq_true, Bool.or_eq_true] at h
      exact h.1
    · cases hd : e.dst with
      | none => rw [hd] at h; exact sepB_ok h e' he t ht
      | some t' =>
        rw [hd] at h
        simp only [Bool.and_eq_true] at h
        exact sepB_ok h.2 e' he t ht

def dupB : List AEarly → Bool
  | [] => true
  | e :: es => es.all (fun x => !(Nat.beq x.i e.i)) && dupB es

theorem dupB_ok : ∀ {es : List AEarly}, dupB es = true → ∀ e, e ∈ es → ∀ e', e' ∈ es → e'.i = e.i → e' = e
  | [], _, e, he, _, _, _ => by cases he
  | x :: es, h, e, he, e', he', hi => by
    simp only [dupB, Bool.and_eq_true, List.all_eq_true] at h
    have hne : ∀ y, y ∈ es → y.i ≠ x.i := fun y hy hxy => by
      have := h.1 y hy
      rw [hxy] at this
      simp at this
    rcases List.mem_cons.1 he with h1 | h1
    · subst h1
      rcases List.mem_cons.1 he' with h2 | h2
      · exact h2
      · exact absurd hi (hne e' h2)
    · rcases List.mem_cons.1 he' with h2 | h2
      · subst h2
        exact absurd hi.symm (hne e h1)
      · exact dupB_ok h.2 e h1 e' h2 hi

def entB (E : Env P) (os : List Oper) (A : List Nat) (base : Nat) (c : DT) (e : AEarly) : Bool :=
  match os[e.i]?, A[e.i]? with
  | some o, some anc =>
    Nat.beq anc e.anc && (match e.dst, o.dst with
      | none, none => true
      | some a, some b => Nat.beq a b
      | _, _ => false) &&
    (match treval E os base c.tf c.st c.Es e.i e.anc e.forb o with
      | some (v, nw) => AV.eqb v e.val && ANew.eqb nw e.new
      | none => false) &&
    (match e.dst with
      | none => true
      | some t => match c.tf.get? t with
        | none => true
        | some v => AV.eqb v e.val) &&
    sepB e.forb e.anc c.Es &&
    (match e.new with
      | some (.obj _) => match c.st.get (base + e.i) with
        | none => true
        | some _ => false
      | _ => true)
  | _, _ => false

def dvalidB (E : Env P) (os : List Oper) (A : List Nat) (base : Nat) (c : DT) : Bool :=
  dupB c.Es && c.Es.all (entB E os A base c)

theorem dvalidB_ok {E : Env P} {ops : Array Oper} {A : List Nat} {base : Nat} {c : DT} (ho : c.tf.Ok) (h : dvalidB E ops.toList A base c = true) : DValid E ops A base c.cfg := by
  simp only [dvalidB, Bool.and_eq_true, List.all_eq_true] at h
  obtain ⟨hdup, hall⟩ := h
  have key : ∀ e, e ∈ c.Es → ∃ o anc, ops[e.i]? = some o ∧ A[e.i]? = some anc ∧ Nat.beq anc e.anc = true ∧ e.dst = o.dst ∧ areval E ops base c.tf.fr.tmps c.st c.Es e.i e.anc e.forb o = some (e.val, e.new) ∧
      (∀ t v, e.dst = some t → c.tf.fr.tmps[t]? = some v → v = e.val) ∧ sepB e.forb e.anc c.Es = true ∧ (∀ o, e.new = some (.obj o) → c.st.get (base + e.i) = none) := by
    intro e he
    have h := hall e he
    unfold entB at h
    simp only [Array.getElem?_toList] at h
    split at h
    · rename_i o anc h1 h2
      simp only [Bool.and_eq_true] at h
      obtain ⟨⟨⟨⟨⟨k1, k2⟩, k3⟩, k4⟩, k5⟩, k6⟩ := h
      refine ⟨o, anc, h1, h2, k1, ?_, ?_, ?_, k5, ?_⟩
      · split at k2
        · rename_i e1 e2; rw [e1, e2]
        · rename_i a b e1 e2; rw [e1, e2, Nat.eq_of_beq_eq_true k2]
        · cases k2
      · rw [treval_eq ho] at k3
        split at k3
        · rename_i v nw hv
          simp only [Bool.and_eq_true] at k3
          rw [hv, AV.eq_of_eqb k3.1, ANew.eq_of_eqb k3.2]
        · cases k3
      · intro t v ht hv
        rw [ht] at k4
        rw [TFr.get?_eq ho] at hv
        simp only [hv] at k4
        exact AV.eq_of_eqb k4
      · intro o' ho'
        rw [ho'] at k6
        simp only at k6
        split at k6
        · assumption
        · cases k6
    · cases h
  refine ⟨?_, ?_, ?_, dupB_ok hdup, ?_⟩
  · intro e he
    obtain ⟨o, anc, h1, h2, h3, h4, h5, _⟩ := key e he
    have := Nat.eq_of_beq_eq_true h3
    subst this
    exact ⟨o, h1, h2, h4, h5⟩
  · intro e he t v ht hv
    obtain ⟨_, _, _, _, _, _, _, h6, _⟩ := key e he
    exact h6 t v ht hv
  · intro e he e' he' t ht
    obtain ⟨_, _, _, _, _, _, _, _, h7, _⟩ := key e he
    exact sepB_ok h7 e' he' t ht
  · intro e he o ho'
    obtain ⟨_, _, _, _, _, _, _, _, _, h8⟩ := key e he
    exact h8 o ho'

/-- The first operation that is not early, and whose turn it is. -/
def dpick (mask : Nat) : List Nat → Nat → Option (Nat × Nat)
  | [], _ => none
  | anc :: as, i => match mask.testBit i with
    | true => dpick mask as (i + 1)
    | false => match tsub anc mask with
      | true => some (i, anc)
      | false => dpick mask as (i + 1)

/-- All the others come behind it. -/
def coverB (mask iw : Nat) (A : List Nat) : Nat → Nat → Bool
  | 0, _ => true
  | n + 1, i => (mask.testBit i || Nat.beq i iw || (match A[i]? with
      | some a => a.testBit iw
      | none => false)) && coverB mask iw A n (i + 1)

theorem coverB_ok {mask iw : Nat} {A : List Nat} : ∀ {n i : Nat}, coverB mask iw A n i = true → ∀ j, i ≤ j → j < i + n → mask.testBit j = true ∨ j = iw ∨ ∃ mi, A[j]? = some mi ∧ mi.testBit iw = true
  | 0, i, _, j, h1, h2 => by omega
  | n + 1, i, h, j, h1, h2 => by
    simp only [coverB, Bool.and_eq_true, Bool.or_eq_true] at h
    by_cases hj : j = i
    · subst hj
      rcases h.1 with (h | h) | h
      · exact .inl h
      · exact .inr (.inl (Nat.eq_of_beq_eq_true h))
      · cases ha : A[j]? with
        | none => rw [ha] at h; cases h
        | some a => rw [ha] at h; exact .inr (.inr ⟨a, rfl, h⟩)
    · exact coverB_ok h.2 j (by omega) (by omega)

def allB (mask : Nat) : Nat → Nat → Bool
  | 0, _ => true
  | n + 1, i => mask.testBit i && allB mask n (i + 1)

theorem allB_ok {mask : Nat} : ∀ {n i : Nat}, allB mask n i = true → ∀ j, i ≤ j → j < i + n → mask.testBit j = true
  | 0, i, _, j, h1, h2 => by omega
  | n + 1, i, h, j, h1, h2 => by
    simp only [allB, Bool.and_eq_true] at h
    by_cases hj : j = i
    · subst hj; exact h.1
    · exact allB_ok h.2 j (by omega) (by omega)

theorem emask_ok : ∀ {es : List AEarly} {j : Nat}, (emask es).testBit j = true → ∃ e, e ∈ es ∧ e.i = j
  | [], j, h => by simp [emask] at h
  | e :: es, j, h => by
    simp only [emask, Nat.testBit_or, Bool.or_eq_true, testBit_shl, decide_eq_true_eq] at h
    rcases h with h | h
    · exact ⟨e, List.mem_cons_self, h⟩
    · obtain ⟨e', h1, h2⟩ := emask_ok h
      exact ⟨e', List.mem_cons_of_mem _ h1, h2⟩

def addB (D : Nat) (Es : List AEarly) : List AEarly → Bool
  | [] => true
  | e :: es => !D.testBit e.i && Es.all (fun x => !(Nat.beq x.i e.i)) && addB D Es es

theorem addB_ok {D : Nat} {Es : List AEarly} : ∀ {es : List AEarly}, addB D Es es = true → ∀ e, e ∈ es → D.testBit e.i = false ∧ ∀ e', e' ∈ Es → e'.i ≠ e.i
  | [], _, e, he => by cases he
  | x :: es, h, e, he => by
    simp only [addB, Bool.and_eq_true, Bool.not_eq_true', List.all_eq_true] at h
    rcases List.mem_cons.1 he with rfl | he
    · exact ⟨h.1.1, fun e' he' hi => by
        have := h.1.2 e' he'
        rw [hi] at this
        simp at this⟩
    · exact addB_ok h.2 e he

section
variable (E : Env P) (E2 : Env2 E) (cf : CallF) (rd : Option Nat) (all : List Oper) (A : List Nat) (base : Nat)

/-- What comes behind the operation iw: its value is put, more come early. -/
def dgo (go : DT → Option (AExit × TFr × ASt)) (c : DT) (iw anc : Nat) (dst : Option Tmp) (v : AV) (ds : List ADef) (s : ASt) : Option (AExit × TFr × ASt) :=
  match tgrow E all A base s (c.D ||| anc ||| (1 <<< iw)) (c.Es.filter fun e => !anc.testBit e.i) all 0 (({ c.tf with ds } : TFr).put dst v) (c.D ||| anc ||| (1 <<< iw) ||| emask (c.Es.filter fun e => !anc.testBit e.i)) [] with
  | (tf', added) => match addB (c.D ||| anc ||| (1 <<< iw)) (c.Es.filter fun e => !anc.testBit e.i) added with
    | false => none
    | true => go ⟨tf', s, c.D ||| anc ||| (1 <<< iw), (c.Es.filter fun e => !anc.testBit e.i) ++ added⟩

def dstep (go : DT → Option (AExit × TFr × ASt)) (c : DT) (iw anc : Nat) (o : Oper) : Option (AExit × TFr × ASt) :=
  match tdguard all (tforb anc iw o A all 0 0) c.tf o with
  | none => none
  | some false => dgo E all A base go c iw anc o.dst .undef c.tf.ds (estate base c.st anc.testBit c.Es)
  | some true => match aop E (trho E (tforb anc iw o A all 0 0) c.tf) (estate base c.st anc.testBit c.Es) o.op with
    | none => none
    | some (n, st') => match n with
      | .value v => dgo E all A base go c iw anc o.dst v c.tf.ds st'
      | .skip => dgo E all A base go c iw anc o.dst .undef c.tf.ds st'
      | .defer d => match rd with
        | none => dgo E all A base go c iw anc o.dst .undef (d :: c.tf.ds) st'
        | some _ => none
      | .call f as => match E2.ext f as with
        | some v => dgo E all A base go c iw anc o.dst v c.tf.ds st'
        | none => match E2.ent f with
          | false => none
          | true => match cf f as st' with
            | some (.ret v, s) => dgo E all A base go c iw anc o.dst v c.tf.ds s
            | _ => none
      | _ => none

def evDrawLoop : Nat → DT → Option (AExit × TFr × ASt)
  | 0, _ => none
  | k + 1, c => match dvalidB E all A base c with
    | false => none
    | true => match dpick (c.D ||| emask c.Es) A 0 with
      | none => match allB (c.D ||| emask c.Es) all.length 0 with
        | true => some (.normal, c.tf, estate base c.st (fun _ => true) c.Es)
        | false => none
      | some (iw, anc) => match all[iw]? with
        | none => none
        | some o => match coverB (c.D ||| emask c.Es) iw A all.length 0 && sepB (tforb anc iw o A all 0 0) anc c.Es && !c.D.testBit iw && c.Es.all (fun e => !(Nat.beq e.i iw)) with
          | false => none
          | true => match A[iw]? with
            | some anc' => match Nat.beq anc' anc with
              | true => dstep E E2 cf rd all A base (evDrawLoop k) c iw anc o
              | false => none
            | none => none
end

def evDraw (E : Env P) (E2 : Env2 E) (cf : CallF) (rd : Option Nat) (all : List Oper) (tf : TFr) (st : ASt) : Option (AExit × TFr × ASt) :=
  match ancs all [] with
  | none => none
  | some A => match tgrow E all A st.next { st with next := st.next + all.length } 0 [] all 0 tf 0 [] with
    | (tf', added) => evDrawLoop E E2 cf rd all A st.next (all.length + 1) ⟨tf', { st with next := st.next + all.length }, 0, added⟩

theorem put_ds (f : TFr) (dst : Option Tmp) (v : AV) : (f.put dst v).ds = f.ds := by
  cases dst with
  | none => rfl
  | some d =>
    simp only [TFr.put]
    cases Nat.ble f.n d <;> rfl

theorem dgo_ok {E : Env P} {E2 : Env2 E} {rd : Option Nat} {ops : Array Oper} {A : List Nat} {base : Nat} {go : DT → Option (AExit × TFr × ASt)} {r : AExit × TFr × ASt}
    (hgo : ∀ c, c.tf.Ok → go c = some r → r.2.1.Ok ∧ ∃ k, ADraw E E2 rd ops A base (Lands r.2.1 r.1 r.2.2) k c.cfg) {c : DT} (ho : c.tf.Ok) {iw anc : Nat} {dst : Option Tmp} {v : AV} {ds : List ADef} {s : ASt}
    (h : dgo E ops.toList A base go c iw anc dst v ds s = some r) :
    r.2.1.Ok ∧ ∃ k added, AddOk c.cfg iw anc added ∧ ADraw E E2 rd ops A base (Lands r.2.1 r.1 r.2.2) k (dnext c.cfg iw anc dst v ds s added) := by
  unfold dgo at h
  generalize hg : tgrow E ops.toList A base s (c.D ||| anc ||| (1 <<< iw)) (c.Es.filter fun e => !anc.testBit e.i) ops.toList 0 (({ c.tf with ds } : TFr).put dst v) (c.D ||| anc ||| (1 <<< iw) ||| emask (c.Es.filter fun e => !anc.testBit e.i)) [] = x at h
  obtain ⟨tf', added⟩ := x
  have hok : (({ c.tf with ds } : TFr).put dst v).Ok := TFr.put_ok (f := { c.tf with ds }) ho _ _
  obtain ⟨k1, k2, k3⟩ := tgrow_ok _ _ _ _ _ (({ c.tf with ds } : TFr).put dst v).fr.tmps _ _ hok rfl hg
  simp only at h
  split at h
  · cases h
  · rename_i hadd
    obtain ⟨j1, k, j2⟩ := hgo _ k1 h
    refine ⟨j1, k, added, addB_ok hadd, ?_⟩
    have : dnext c.cfg iw anc dst v ds s added = DT.cfg ⟨tf', s, c.D ||| anc ||| (1 <<< iw), (c.Es.filter fun e => !anc.testBit e.i) ++ added⟩ := by
      simp only [dnext, DT.cfg]
      rw [k2, k3, put_ds, TFr.put_fr]
      congr 2
      cases dst <;> rfl
    rw [this]
    exact j2

theorem evDrawLoop_ok {E : Env P} {E2 : Env2 E} {cf : CallF} (hc : CallOk E cf) {rd : Option Nat} {ops : Array Oper} {A : List Nat} {base : Nat} : ∀ (k : Nat) (c : DT) (r : AExit × TFr × ASt), c.tf.Ok →
    evDrawLoop E E2 cf rd ops.toList A base k c = some r → r.2.1.Ok ∧ ∃ k, ADraw E E2 rd ops A base (Lands r.2.1 r.1 r.2.2) k c.cfg := by
  intro k
  induction k with
  | zero => intro c r _ h; cases h
  | succ k ih =>
    intro c r ho h
    simp only [evDrawLoop] at h
    split at h
    · cases h
    · rename_i hv
      have hval := dvalidB_ok ho hv
      split at h
      · split at h
        · rename_i hall
          simp only [Option.some.injEq] at h
          subst h
          refine ⟨ho, 0, hval, fun i hi => ?_, rfl, rfl, rfl⟩
          have := allB_ok hall i (Nat.zero_le _) (by simpa using hi)
          simp only [Nat.testBit_or, Bool.or_eq_true] at this
          exact this.imp (fun h => h) emask_ok
        · cases h
      · rename_i iw anc hpick
        split at h
        · cases h
        rename_i o ho'
        split at h
        · cases h
        · rename_i hchk
          simp only [Bool.and_eq_true, Bool.not_eq_true', List.all_eq_true] at hchk
          obtain ⟨⟨⟨c1, c2⟩, c3⟩, c4⟩ := hchk
          split at h
          · rename_i anc' hA
            split at h
            · rename_i hb
              have := Nat.eq_of_beq_eq_true hb
              subst this
              rw [Array.getElem?_toList] at ho'
              have hids : ∀ e, e ∈ c.Es → e.i ≠ iw := fun e he hi => by
                have := c4 e he
                rw [hi] at this
                simp at this
              have fin : ∀ k, ((adguard ops (tforb anc' iw o A ops.toList 0 0) c.cfg.T o = some false ∧ ∃ added, AddOk c.cfg iw anc' added ∧ ADraw E E2 rd ops A base (Lands r.2.1 r.1 r.2.2) k (dnext c.cfg iw anc' o.dst .undef c.cfg.defers (estate base c.st anc'.testBit c.Es) added)) ∨
                  (adguard ops (tforb anc' iw o A ops.toList 0 0) c.cfg.T o = some true ∧ ∃ n st', aop E (arho E (tforb anc' iw o A ops.toList 0 0) c.cfg.T) (estate base c.st anc'.testBit c.Es) o.op = some (n, st') ∧
                  match n with
                  | .value v => ∃ added, AddOk c.cfg iw anc' added ∧ ADraw E E2 rd ops A base (Lands r.2.1 r.1 r.2.2) k (dnext c.cfg iw anc' o.dst v c.cfg.defers st' added)
                  | .skip => ∃ added, AddOk c.cfg iw anc' added ∧ ADraw E E2 rd ops A base (Lands r.2.1 r.1 r.2.2) k (dnext c.cfg iw anc' o.dst .undef c.cfg.defers st' added)
                  | .defer d => rd = none ∧ ∃ added, AddOk c.cfg iw anc' added ∧ ADraw E E2 rd ops A base (Lands r.2.1 r.1 r.2.2) k (dnext c.cfg iw anc' o.dst .undef (d :: c.cfg.defers) st' added)
                  | .call f as =>
                    (∃ v, E2.ext f as = some v ∧ ∃ added, AddOk c.cfg iw anc' added ∧ ADraw E E2 rd ops A base (Lands r.2.1 r.1 r.2.2) k (dnext c.cfg iw anc' o.dst v c.cfg.defers st' added)) ∨
                    (E2.ent f = true ∧ Sound E f as st' fun e s => match e with
                      | .ret v => ∃ added, AddOk c.cfg iw anc' added ∧ ADraw E E2 rd ops A base (Lands r.2.1 r.1 r.2.2) k (dnext c.cfg iw anc' o.dst v c.cfg.defers s added)
                      | .pan _ => False)
                  | _ => False)) → ADraw E E2 rd ops A base (Lands r.2.1 r.1 r.2.2) (k + 1) c.cfg := by
                intro k hk
                refine ⟨hval, iw, o, anc', tforb anc' iw o A ops.toList 0 0, ho', hA, c3, hids, fun i hi => ?_, sepB_ok c2, hk⟩
                rcases coverB_ok c1 i (Nat.zero_le _) (by simpa using hi) with hx | hx | hx
                · simp only [Nat.testBit_or, Bool.or_eq_true] at hx
                  rcases hx with hx | hx
                  · exact .inl hx
                  · exact .inr (.inl (emask_ok hx))
                · exact .inr (.inr (.inl hx))
                · exact .inr (.inr (.inr hx))
              unfold dstep at h
              rw [tdguard_eq ho, trho_eq ho] at h
              have hgo := fun {v : AV} {ds : List ADef} {s : ASt} (hh : dgo E ops.toList A base (evDrawLoop E E2 cf rd ops.toList A base k) c iw anc' o.dst v ds s = some r) => dgo_ok (fun c' h1 h2 => ih c' r h1 h2) ho hh
              cases hgd : adguard ops (tforb anc' iw o A ops.toList 0 0) c.tf.fr.tmps o with
              | none => rw [hgd] at h; cases h
              | some b =>
                rw [hgd] at h
                cases b with
                | false =>
                  obtain ⟨k1, k', k2⟩ := hgo h
                  exact ⟨k1, k' + 1, fin k' (.inl ⟨hgd, k2⟩)⟩
                | true =>
                  simp only at h
                  cases hop : aop E (arho E (tforb anc' iw o A ops.toList 0 0) c.tf.fr.tmps) (estate base c.st anc'.testBit c.Es) o.op with
                  | none => rw [hop] at h; cases h
                  | some x =>
                    obtain ⟨n, st'⟩ := x
                    rw [hop] at h
                    cases n with
                    | value v =>
                      obtain ⟨k1, k', k2⟩ := hgo h
                      exact ⟨k1, k' + 1, fin k' (.inr ⟨hgd, _, st', hop, k2⟩)⟩
                    | skip =>
                      obtain ⟨k1, k', k2⟩ := hgo h
                      exact ⟨k1, k' + 1, fin k' (.inr ⟨hgd, _, st', hop, k2⟩)⟩
                    | defer d =>
                      cases rd with
                      | some l => cases h
                      | none =>
                        obtain ⟨k1, k', k2⟩ := hgo h
                        exact ⟨k1, k' + 1, fin k' (.inr ⟨hgd, _, st', hop, rfl, k2⟩)⟩
                    | pan v => cases h
                    | yield l as => cases h
                    | call f as =>
                      simp only at h
                      cases hx : E2.ext f as with
                      | some v =>
                        rw [hx] at h
                        obtain ⟨k1, k', k2⟩ := hgo h
                        exact ⟨k1, k' + 1, fin k' (.inr ⟨hgd, _, st', hop, .inl ⟨v, hx, k2⟩⟩)⟩
                      | none =>
                        rw [hx] at h
                        simp only at h
                        cases hen : E2.ent f with
                        | false => rw [hen] at h; cases h
                        | true =>
                          rw [hen] at h
                          simp only at h
                          cases hcf : cf f as st' with
                          | none => rw [hcf] at h; cases h
                          | some y =>
                            obtain ⟨ae, s⟩ := y
                            rw [hcf] at h
                            cases ae with
                            | pan v => cases h
                            | ret v =>
                              obtain ⟨k1, k', k2⟩ := hgo h
                              refine ⟨k1, k' + 1, fin k' (.inr ⟨hgd, _, st', hop, .inr ⟨hen, (hc _ _ _ _ _ hcf).mono fun e1 s1 hq => ?_⟩⟩)⟩
                              obtain ⟨rfl, rfl⟩ := hq
                              exact k2
            · cases h
          · cases h

theorem evDraw_ok {E : Env P} {E2 : Env2 E} {cf : CallF} (hc : CallOk E cf) {rd : Option Nat} {id : Nat} {ops : Array Oper} {tf tf' : TFr} {st st' : ASt} {e : AExit} (ho : tf.Ok)
    (h : evDraw E E2 cf rd ops.toList tf st = some (e, tf', st')) : tf'.Ok ∧ ACode E rd (.region id ops true) tf.fr st (Lands tf' e st') := by
  unfold evDraw at h
  split at h
  · cases h
  · rename_i A hA
    generalize hg : tgrow E ops.toList A st.next { st with next := st.next + ops.toList.length } 0 [] ops.toList 0 tf 0 [] = x at h
    obtain ⟨tf1, added⟩ := x
    obtain ⟨k1, k2, k3⟩ := tgrow_ok _ _ _ _ _ tf.fr.tmps _ _ ho rfl hg
    simp only at h
    obtain ⟨j1, k, j2⟩ := evDrawLoop_ok hc _ _ _ k1 h
    refine ⟨j1, ACode.draw (E2 := E2) hA (k := k) (added := added) ?_⟩
    have : dstart tf.fr st ops.size added = DT.cfg ⟨tf1, { st with next := st.next + ops.toList.length }, 0, added⟩ := by
      simp only [dstart, DT.cfg]
      rw [k2, k3]
      simp [TFr.fr]
    rw [this]
    exact j2

end Go.Abs

/- DEFERRED CALLS THAT RECOVER. -/
namespace Go.Abs
variable {P : Program}

theorem ModeR.mono {m m' : Mu} (e : Ext m m') {a : AMode} {u : FrameMode} (h : ModeR m a u) : ModeR m' a u := by
  cases h with
  | returning => exact .returning
  | panicking h => exact .panicking (h.mono e)
  | recovered h => exact .recovered (h.mono e)

def PostS (Q : AExit → AFr → AMode → ASt → Prop) (m : Mu) (st : ASt) (w : World) (c₀ : Frame) (cs : List Frame) : Exit → Act → List Frame → World → Prop :=
  fun e a' cs' w' => ∃ ae fr' md' st' m' u', Q ae fr' md' st' ∧ ExR m' ae e ∧ ActR m' fr' a' ∧ ModeR m' md' u' ∧ cs' = { c₀ with mode := u' } :: cs ∧ Stp m st w m' st' w'

/-- Code of a function that was entered as a deferred call; the mode of the frame below is a part of the state. -/
def ACodeS (E : Env P) (c : Code) (fr : AFr) (md : AMode) (st : ASt) (Q : AExit → AFr → AMode → ASt → Prop) : Prop :=
  ∀ m w a (c₀ : Frame) cs, GR E m → ActR m fr a → ModeR m md c₀.mode → SR m st w → c.wpSIn Fence.wide 0 P (PostS Q m st w c₀ cs) a (c₀ :: cs) w

theorem wpSIn_mono {F : Fence} {n : Nat} {c : Code} {Q Q' : Exit → Act → List Frame → World → Prop} {a : Act} {cs : List Frame} {w : World} (h : c.wpSIn F n P Q a cs w) (hq : ∀ e a cs w, Q e a cs w → Q' e a cs w) : c.wpSIn F n P Q' a cs w :=
  fun b k hb hr hF hroom => let ⟨e, a', cs', w', hl, q, r⟩ := h b k hb hr hF hroom; ⟨e, a', cs', w', hl, hq _ _ _ _ q, r⟩

theorem PostS.back {Q : AExit → AFr → AMode → ASt → Prop} {m m1 : Mu} {st st1 : ASt} {w w1 : World} {c₀ : Frame} {cs : List Frame} {u : FrameMode} (h : Stp m st w m1 st1 w1) {e : Exit} {a : Act} {cs' : List Frame} {w' : World}
    (k : PostS Q m1 st1 w1 { c₀ with mode := u } cs e a cs' w') : PostS Q m st w c₀ cs e a cs' w' :=
  let ⟨ae, fr, md, st', m', u', q, r1, r2, r3, r4, r5⟩ := k
  ⟨ae, fr, md, st', m', u', q, r1, r2, r3, r4, h.trans r5⟩

theorem ACodeS.mono {E : Env P} {c : Code} {fr : AFr} {md : AMode} {st : ASt} {Q Q' : AExit → AFr → AMode → ASt → Prop} (h : ACodeS E c fr md st Q) (hq : ∀ e f md s, Q e f md s → Q' e f md s) : ACodeS E c fr md st Q' :=
  fun m w a c₀ cs hG ha hm hs => wpSIn_mono (h m w a c₀ cs hG ha hm hs) fun _ _ _ _ ⟨ae, fr', md', st', m', u', q, r⟩ => ⟨ae, fr', md', st', m', u', hq _ _ _ _ q, r⟩

theorem ACodeS.embed {E : Env P} {c : Code} {fr : AFr} {md : AMode} {st : ASt} {Q : AExit → AFr → AMode → ASt → Prop} (h : ACode E none c fr st fun e f s => Q e f md s) : ACodeS E c fr md st Q := by
  intro m w a c₀ cs hG ha hm hs
  refine wpSIn_of_wpIn rfl (wpIn_mono (h m w a none .none hG ha hs) ?_)
  rintro e a' w' ⟨ae, fr', st', m', q, r1, r2, r3⟩
  exact ⟨ae, fr', md, st', m', c₀.mode, q, r1, r2, hm.mono r3.ext, rfl, r3⟩

theorem ACodeS.seq {E : Env P} {x y : Code} {fr : AFr} {md : AMode} {st : ASt} {Q : AExit → AFr → AMode → ASt → Prop}
    (h : ACodeS E x fr md st fun e fr' md' st' => match e with
      | .normal => ACodeS E y fr' md' st' Q
      | e => Q e fr' md' st') : ACodeS E (.seq x y) fr md st Q := by
  intro m w a c₀ cs hG ha hm hs
  refine wpSIn_seq (wpSIn_mono (h m w a c₀ cs hG ha hm hs) ?_)
  rintro e a' cs' w' ⟨ae, fr', md', st', m', u', q, r1, r2, r3, r4, r5⟩
  cases r1 with
  | normal =>
    simp only [Exit.thenS]
    subst r4
    exact wpSIn_mono (q m' w' a' { c₀ with mode := u' } cs (hG.mono r5.ext) r2 r3 r5.sr) fun _ _ _ _ => PostS.back r5
  | exit id => exact ⟨_, fr', md', st', m', u', q, .exit id, r2, r3, r4, r5⟩
  | ret => exact ⟨_, fr', md', st', m', u', q, .ret, r2, r3, r4, r5⟩
  | pan hv => exact ⟨_, fr', md', st', m', u', q, .pan hv, r2, r3, r4, r5⟩

theorem ACodeS.cond {E : Env P} {c : Operand} {x y : Code} {fr : AFr} {md : AMode} {st : ASt} {Q : AExit → AFr → AMode → ASt → Prop} {b : Bool} (hc : aeval E fr.tmps c = some (.bool b))
    (h : ACodeS E (if b then x else y) fr md st Q) : ACodeS E (.cond c x y) fr md st Q := by
  intro m w a c₀ cs hG ha hm hs
  have hv := aeval_ok hG ha.tmps hc
  refine wpSIn_cond (t := b) ?_ (h m w a c₀ cs hG ha hm hs)
  generalize a.eval c = v at hv
  cases hv
  rfl

def isRecover : Op → Bool
  | .call { callee := .builtin .recover, args := ⟨[]⟩, .. } => true
  | _ => false

theorem run_recover {ρ : Operand → Value} {o : Oper} (h : isRecover o.op = true) (w : World) : (execOp ρ o).run P w = .ok .recover w := by
  unfold isRecover at h
  split at h
  · rename_i e
    simp [execOp, e, resolve, invoke, builtin]
  · cases h

def AOpsS (E : Env P) (ops : Array Oper) (l : List Nat) (fr : AFr) (md : AMode) (st : ASt) (Q : AExit → AFr → AMode → ASt → Prop) : Prop :=
  ∀ m w a (c₀ : Frame) cs, GR E m → ActR m fr a → ModeR m md c₀.mode → SR m st w → wpOpsSIn Fence.wide 0 P ops (PostS Q m st w c₀ cs) l a (c₀ :: cs) w

theorem wpOpsSIn_mono {F : Fence} {n : Nat} {ops : Array Oper} {Q Q' : Exit → Act → List Frame → World → Prop} (hq : ∀ e a cs w, Q e a cs w → Q' e a cs w) : ∀ (l : List Nat) (a : Act) (cs : List Frame) (w : World), wpOpsSIn F n P ops Q l a cs w → wpOpsSIn F n P ops Q' l a cs w
  | [], a, cs, w, h => hq _ _ _ _ h
  | i :: rest, a, cs, w, h => by
    simp only [wpOpsSIn] at h ⊢
    split
    · rename_i ho; simp only [ho] at h; exact wpOpsSIn_mono hq rest _ _ _ h
    · rename_i o ho
      simp only [ho] at h
      refine ⟨h.1, ?_⟩
      have h := h.2
      split
      · rename_i hw
        simp only [hw, if_true] at h
        generalize (execOp a.eval o).run P w = r at h ⊢
        split <;> simp only at h ⊢
        · split <;> simp_all only
          · exact wpOpsSIn_mono hq rest _ _ _ h
          · exact wpOpsSIn_mono hq rest _ _ _ h
        · exact wpOpsSIn_mono hq rest _ _ _ h
        · exact wpOpsSIn_mono hq rest _ _ _ h
        · exact hq _ _ _ _ h
      · rename_i hw
        simp only [hw] at h
        exact wpOpsSIn_mono hq rest _ _ _ h

theorem ACodeS.region {E : Env P} {id : Nat} {ops : Array Oper} {fr : AFr} {md : AMode} {st : ASt} {Q : AExit → AFr → AMode → ASt → Prop} (h : AOpsS E ops (List.range ops.size) fr md st Q) : ACodeS E (.region id ops false) fr md st Q :=
  fun m w a c₀ cs hG ha hm hs => wpSIn_region (h m w a c₀ cs hG ha hm hs)

theorem AOpsS.nil {E : Env P} {ops : Array Oper} {fr : AFr} {md : AMode} {st : ASt} {Q : AExit → AFr → AMode → ASt → Prop} (h : Q .normal fr md st) : AOpsS E ops [] fr md st Q :=
  fun m _ _ c₀ _ _ ha hm hs => ⟨.normal, fr, md, st, m, c₀.mode, h, .normal, ha, hm, rfl, .refl hs⟩

theorem AOpsS.unwanted {E : Env P} {ops : Array Oper} {i : Nat} {l : List Nat} {o : Oper} {fr : AFr} {md : AMode} {st : ASt} {Q : AExit → AFr → AMode → ASt → Prop} (ho : ops[i]? = some o) (hw : awanted ops fr.tmps o = false)
    (h : AOpsS E ops l (fr.put o.dst .undef) md st Q) : AOpsS E ops (i :: l) fr md st Q := by
  intro m w a c₀ cs hG ha hm hs
  simp only [wpOpsSIn, ho]
  rw [if_neg (by rw [awanted_eq ha.tmps, hw]; simp)]
  exact ⟨fun f _ => trivial, h m w _ c₀ cs hG (ha.put o.dst .undef) hm hs⟩

/-- What recover hands back, and the mode behind it. -/
def arecover : AMode → AV × AMode
  | .panicking v => (v, .recovered v)
  | md => (.nili, md)

theorem AOpsS.recover {E : Env P} {ops : Array Oper} {i : Nat} {l : List Nat} {o : Oper} {fr : AFr} {md : AMode} {st : ASt} {Q : AExit → AFr → AMode → ASt → Prop} (ho : ops[i]? = some o) (hw : awanted ops fr.tmps o = true)
    (hr : isRecover o.op = true) (h : AOpsS E ops l (fr.put o.dst (arecover md).1) (arecover md).2 st Q) : AOpsS E ops (i :: l) fr md st Q := by
  intro m w a c₀ cs hG ha hm hs
  simp only [wpOpsSIn, ho]
  rw [if_pos (by rw [awanted_eq ha.tmps, hw]), run_recover hr w]
  refine ⟨fun f _ => trivial, ?_⟩
  simp only
  generalize hu : c₀.mode = u at hm
  cases hm with
  | returning =>
    have : recoverD (c₀ :: cs) = none := by simp [recoverD, hu]
    rw [this]
    exact h m w _ c₀ cs hG (ha.put o.dst .nili) (by rw [hu]; exact .returning) hs
  | panicking hv =>
    rename_i v v'
    have : recoverD (c₀ :: cs) = some (v', { c₀ with mode := .panicking [{ v := v', recovered := true }] } :: cs) := by simp [recoverD, hu]
    rw [this]
    refine wpOpsSIn_mono ?_ _ _ _ _ (h m w _ { c₀ with mode := .panicking [{ v := v', recovered := true }] } cs hG (ha.put o.dst hv) (.recovered hv) hs)
    intro e a' cs' w' k
    exact k
  | recovered hv =>
    have : recoverD (c₀ :: cs) = none := by simp [recoverD, hu]
    rw [this]
    exact h m w _ c₀ cs hG (ha.put o.dst .nili) (by rw [hu]; exact .recovered hv) hs

theorem AOpsS.step {E : Env P} {ops : Array Oper} {i : Nat} {l : List Nat} {o : Oper} {fr : AFr} {md : AMode} {st st' : ASt} {Q : AExit → AFr → AMode → ASt → Prop} {n : ANext} (ho : ops[i]? = some o)
    (hw : awanted ops fr.tmps o = true) (hop : aop E (aeval E fr.tmps) st o.op = some (n, st'))
    (h : match n with
      | .value v => AOpsS E ops l (fr.put o.dst v) md st' Q
      | .skip => AOpsS E ops l (fr.put o.dst .undef) md st' Q
      | .pan v => Q (.pan v) fr md st'
      | _ => False) : AOpsS E ops (i :: l) fr md st Q := by
  intro m w a c₀ cs hG ha hm hs
  simp only [wpOpsSIn, ho]
  rw [if_pos (by rw [awanted_eq ha.tmps, hw])]
  refine ⟨fun f _ => trivial, ?_⟩
  have hρ : ∀ x v, aeval E fr.tmps x = some v → VR m v (a.eval x) := fun x v hx => aeval_ok hG ha.tmps hx
  rcases aop_ok hs (fun _ => rfl) hρ hop with ⟨w', m', hr, hstp⟩ | ⟨rfl, f, as, cargs, rfl, hargs, hr⟩ | ⟨rfl, y, as, yb, r, cargs, rfl, hargs, hyl, hr⟩
  · generalize hq : (execOp a.eval o).run P w = res at hr
    cases hr with
    | value hv =>
      exact wpOpsSIn_mono (fun _ _ _ _ k => PostS.back (u := c₀.mode) hstp k) _ _ _ _ (h m' _ _ c₀ cs (hG.mono hstp.ext) ((ha.mono hstp.ext).put o.dst hv) (hm.mono hstp.ext) hstp.sr)
    | skip =>
      exact wpOpsSIn_mono (fun _ _ _ _ k => PostS.back (u := c₀.mode) hstp k) _ _ _ _ (h m' _ _ c₀ cs (hG.mono hstp.ext) ((ha.mono hstp.ext).put o.dst .undef) (hm.mono hstp.ext) hstp.sr)
    | defer hd => exact h.elim
    | pan hv => exact ⟨.pan _, fr, md, st', m', c₀.mode, h, .pan hv, ha.mono hstp.ext, hm.mono hstp.ext, rfl, hstp⟩
  · exact h.elim
  · exact h.elim

theorem SoundD.bodyS {E : Env P} {f : FuncId} {fn : Func} {c : Code} {args : List AV} {md : AMode} {st : ASt} {Q : AEnd → AMode → ASt → Prop} (hf : E.fn f = some fn) (hb : fn.body = some c)
    (h : ACodeS E c ⟨atmps fn args, []⟩ md st fun e fr' md' st' => fr'.defers = [] ∧ match e with
      | .normal | .ret => ∃ v, aresults E fn fr'.tmps st' = some v ∧ Q (.ret v) md' st'
      | .pan v => Q (.pan v) md' st'
      | .exit _ => False) : SoundD E f args md st Q := by
  intro m w cargs u hG ha hmd hs
  refine callsDIn_of_wpSIn (E.fn_ok f fn hf) hb trivial fun c₀ cs hu => ?_
  subst hu
  refine wpSIn_mono (h m w _ c₀ cs hG ⟨atmps_ok ha, .nil⟩ hmd hs) ?_
  rintro e a' cs' w' ⟨ae, fr', md', st', m', u', ⟨hd, q⟩, r1, r2, r3, rfl, r5⟩
  have hdn : a'.defers = [] := by
    have hdr := r2.defers
    rw [hd] at hdr
    generalize a'.defers = ds at hdr
    cases hdr
    rfl
  cases r1 with
  | normal =>
    obtain ⟨v, h1, h2⟩ := q
    obtain ⟨v', k1, k2⟩ := aresults_ok r5.sr r2.tmps h1
    exact ⟨hdn, u', rfl, v', k2, .ret v, md', st', m', h2, .ret k1, r3, r5⟩
  | ret =>
    obtain ⟨v, h1, h2⟩ := q
    obtain ⟨v', k1, k2⟩ := aresults_ok r5.sr r2.tmps h1
    exact ⟨hdn, u', rfl, v', k2, .ret v, md', st', m', h2, .ret k1, r3, r5⟩
  | pan hv => exact ⟨hdn, u', rfl, .pan _, md', st', m', q, .pan hv, r3, r5⟩
  | exit id => exact q.elim

/-! ## the evaluator's part -/
def evOpsS (E : Env P) (all : List Oper) : List Oper → TFr → AMode → ASt → Option (AExit × TFr × AMode × ASt)
  | [], tf, md, st => some (.normal, tf, md, st)
  | o :: os, tf, md, st =>
    match tguard all tf o with
    | false => evOpsS E all os (tf.put o.dst .undef) md st
    | true => match isRecover o.op with
      | true => evOpsS E all os (tf.put o.dst (arecover md).1) (arecover md).2 st
      | false => match aop E (teval E tf) st o.op with
        | some (.value v, st1) => evOpsS E all os (tf.put o.dst v) md st1
        | some (.skip, st1) => evOpsS E all os (tf.put o.dst .undef) md st1
        | some (.pan v, st1) => some (.pan v, tf, md, st1)
        | _ => none

def LandsS (tf' : TFr) (md' : AMode) (e : AExit) (st' : ASt) : AExit → AFr → AMode → ASt → Prop := fun e1 fr1 md1 s1 => e1 = e ∧ fr1 = tf'.fr ∧ md1 = md' ∧ s1 = st'

theorem evOpsS_ok {E : Env P} {ops : Array Oper} : ∀ (os : List Oper) (i : Nat) (tf : TFr) (md : AMode) (st : ASt) (e : AExit) (tf' : TFr) (md' : AMode) (st' : ASt), ops.toList.drop i = os → tf.Ok →
    evOpsS E ops.toList os tf md st = some (e, tf', md', st') → tf'.Ok ∧ AOpsS E ops (List.range' i os.length) tf.fr md st (LandsS tf' md' e st') := by
  intro os
  induction os with
  | nil =>
    intro i tf md st e tf' md' st' _ ho h
    simp only [evOpsS, Option.some.injEq, Prod.mk.injEq] at h
    obtain ⟨rfl, rfl, rfl, rfl⟩ := h
    exact ⟨ho, AOpsS.nil ⟨rfl, rfl, rfl, rfl⟩⟩
  | cons o os ih =>
    intro i tf md st e tf' md' st' hd ho h
    have hoi : ops[i]? = some o := by
      have : (ops.toList.drop i)[0]? = some o := by rw [hd]; rfl
      rw [List.getElem?_drop] at this
      simpa using this
    have hd' : ops.toList.drop (i + 1) = os := by
      rw [← List.drop_drop, hd]; rfl
    rw [List.length_cons, List.range'_succ]
    simp only [evOpsS] at h
    split at h
    · rename_i hg
      obtain ⟨k1, k2⟩ := ih (i + 1) _ _ _ _ _ _ _ hd' (TFr.put_ok ho _ _) h
      rw [TFr.put_fr] at k2
      exact ⟨k1, AOpsS.unwanted hoi (by rw [← tguard_eq ho, hg]) k2⟩
    · rename_i hg
      have hw : awanted ops tf.fr.tmps o = true := by rw [← tguard_eq ho, hg]
      split at h
      · rename_i hrec
        obtain ⟨k1, k2⟩ := ih (i + 1) _ _ _ _ _ _ _ hd' (TFr.put_ok ho _ _) h
        rw [TFr.put_fr] at k2
        exact ⟨k1, AOpsS.recover hoi hw hrec k2⟩
      · rw [teval_eq ho] at h
        split at h
        · rename_i v st1 hop
          obtain ⟨k1, k2⟩ := ih (i + 1) _ _ _ _ _ _ _ hd' (TFr.put_ok ho _ _) h
          rw [TFr.put_fr] at k2
          exact ⟨k1, AOpsS.step hoi hw hop k2⟩
        · rename_i st1 hop
          obtain ⟨k1, k2⟩ := ih (i + 1) _ _ _ _ _ _ _ hd' (TFr.put_ok ho _ _) h
          rw [TFr.put_fr] at k2
          exact ⟨k1, AOpsS.step hoi hw hop k2⟩
        · rename_i v st1 hop
          simp only [Option.some.injEq, Prod.mk.injEq] at h
          obtain ⟨rfl, rfl, rfl, rfl⟩ := h
          exact ⟨ho, AOpsS.step hoi hw hop ⟨rfl, rfl, rfl, rfl⟩⟩
        · cases h

def evSLeaf (kf : CodeF) (c : Code) (tf : TFr) (md : AMode) (st : ASt) : Option (AExit × TFr × AMode × ASt) :=
  match kf none c tf st with
  | some (e, tf', st') => some (e, tf', md, st')
  | none => none

def evS (E : Env P) (kf : CodeF) : Code → TFr → AMode → ASt → Option (AExit × TFr × AMode × ASt)
  | .seq x y, tf, md, st => match evS E kf x tf md st with
    | some (.normal, tf1, md1, st1) => evS E kf y tf1 md1 st1
    | r => r
  | .cond c x y, tf, md, st => match teval E tf c with
    | some (.bool true) => evS E kf x tf md st
    | some (.bool false) => evS E kf y tf md st
    | _ => none
  | .region id ops false, tf, md, st => match ops.toList.any fun o => isRecover o.op with
    | true => evOpsS E ops.toList ops.toList tf md st
    | false => evSLeaf kf (.region id ops false) tf md st
  | c, tf, md, st => evSLeaf kf c tf md st

theorem evSLeaf_ok {E : Env P} {kf : CodeF} (hk : CodeOk E kf) {c : Code} {tf tf' : TFr} {md md' : AMode} {st st' : ASt} {e : AExit} (ho : tf.Ok) (h : evSLeaf kf c tf md st = some (e, tf', md', st')) :
    tf'.Ok ∧ ACodeS E c tf.fr md st (LandsS tf' md' e st') := by
  unfold evSLeaf at h
  split at h
  · rename_i e1 tf1 st1 hkf
    simp only [Option.some.injEq, Prod.mk.injEq] at h
    obtain ⟨rfl, rfl, rfl, rfl⟩ := h
    obtain ⟨k1, k2⟩ := hk _ _ _ _ _ _ _ ho hkf
    refine ⟨k1, ACodeS.embed (k2.mono ?_)⟩
    rintro e2 fr2 s2 ⟨rfl, rfl, rfl⟩
    exact ⟨rfl, rfl, rfl, rfl⟩
  · cases h

theorem evS_ok {E : Env P} {kf : CodeF} (hk : CodeOk E kf) : ∀ (c : Code) (tf : TFr) (md : AMode) (st : ASt) (e : AExit) (tf' : TFr) (md' : AMode) (st' : ASt), tf.Ok → evS E kf c tf md st = some (e, tf', md', st') →
    tf'.Ok ∧ ACodeS E c tf.fr md st (LandsS tf' md' e st') := by
  intro c
  induction c with
  | seq x y ihx ihy =>
    intro tf md st e tf' md' st' ho h
    simp only [evS] at h
    split at h
    · rename_i tf1 md1 st1 hx
      obtain ⟨k1, k2⟩ := ihx _ _ _ _ _ _ _ ho hx
      obtain ⟨j1, j2⟩ := ihy _ _ _ _ _ _ _ k1 h
      refine ⟨j1, ACodeS.seq (k2.mono ?_)⟩
      rintro e1 fr1 md2 s1 ⟨rfl, rfl, rfl, rfl⟩
      exact j2
    · rename_i hne
      obtain ⟨k1, k2⟩ := ihx _ _ _ _ _ _ _ ho h
      refine ⟨k1, ACodeS.seq (k2.mono ?_)⟩
      rintro e1 fr1 md2 s1 ⟨rfl, rfl, rfl, rfl⟩
      cases e1 with
      | normal => exact absurd h (hne _ _ _)
      | _ => exact ⟨rfl, rfl, rfl, rfl⟩
  | cond c x y ihx ihy =>
    intro tf md st e tf' md' st' ho h
    simp only [evS] at h
    rw [teval_eq ho] at h
    split at h
    · rename_i hb
      obtain ⟨k1, k2⟩ := ihx _ _ _ _ _ _ _ ho h
      exact ⟨k1, ACodeS.cond hb k2⟩
    · rename_i hb
      obtain ⟨k1, k2⟩ := ihy _ _ _ _ _ _ _ ho h
      exact ⟨k1, ACodeS.cond hb k2⟩
    · cases h
  | region id ops draw =>
    intro tf md st e tf' md' st' ho h
    cases draw with
    | true => exact evSLeaf_ok hk ho h
    | false =>
      simp only [evS] at h
      split at h
      · obtain ⟨k1, k2⟩ := evOpsS_ok ops.toList 0 tf md st e tf' md' st' rfl ho h
        refine ⟨k1, ACodeS.region ?_⟩
        rw [List.range_eq_range']
        simpa using k2
      · exact evSLeaf_ok hk ho h
  | _ => intro tf md st e tf' md' st' ho h; exact evSLeaf_ok hk ho h

end Go.Abs

/- THE EVALUATOR, 3: code, calls, rounds; the knot. -/
namespace Go.Abs
variable {P : Program}

/-! ## results, leaving -/
def tresult1 (E : Env P) (f : TFr) (st : ASt) : ResultVar → Option AV
  | .tmp t => some (f.get t)
  | .cell a t => aload E st t (f.get a)

def tresultsL (E : Env P) (f : TFr) (st : ASt) : List ResultVar → Option (List AV)
  | [] => some []
  | r :: rs => match tresult1 E f st r with
    | none => none
    | some a => match tresultsL E f st rs with
      | none => none
      | some as => some (a :: as)

def tresults (E : Env P) (fn : Func) (f : TFr) (st : ASt) : Option AV :=
  match tresultsL E f st fn.results.toList with
  | none => none
  | some as => match as with
    | [a] => some a
    | as => some (.tup as)

theorem tresults_eq {E : Env P} {fn : Func} {f : TFr} (h : f.Ok) (st : ASt) : tresults E fn f st = aresults E fn f.fr.tmps st := by
  have h1 : ∀ r, tresult1 E f st r = aresult1 E f.fr.tmps st r := fun r => by
    cases r <;> simp only [tresult1, aresult1, TFr.get_eq h]
  have h2 : ∀ rs, tresultsL E f st rs = aresultsL E f.fr.tmps st rs := fun rs => by
    induction rs with
    | nil => rfl
    | cons r rs ih =>
      simp only [tresultsL, aresultsL, h1, ih]
      cases aresult1 E f.fr.tmps st r with
      | none => rfl
      | some a => cases aresultsL E f.fr.tmps st rs <;> rfl
  unfold tresults aresults
  rw [h2]
  cases aresultsL E f.fr.tmps st fn.results.toList with
  | none => rfl
  | some as =>
    match as with
    | [] => rfl
    | [a] => rfl
    | a :: b :: as => rfl

def evLeaves (E : Env P) (E2 : Env2 E) (df : DefF) (fn : Func) (tf : TFr) : List ADef → AMode → ASt → Option (AEnd × ASt)
  | [], .returning, st => match tresults E fn tf st with
    | some v => some (.ret v, st)
    | none => none
  | [], .panicking v, st => some (.pan v, st)
  | [], .recovered _, _ => none
  | .mark id :: ds, md, st => match st.get id with
    | some (.deferred (some [])) => evLeaves E E2 df fn tf ds md (st.put id (.deferred none))
    | _ => none
  | .call f args :: ds, md, st => match E2.ent f with
    | false => none
    | true => match df f args md st with
      | some (.ret _, md', st') => evLeaves E E2 df fn tf ds (asettle md') st'
      | some (.pan v, .returning, st') => evLeaves E E2 df fn tf ds (.panicking v) st'
      | _ => none

theorem ALeaves.mono {E : Env P} {E2 : Env2 E} {fn : Func} {tmps : List AV} {Q Q' : AEnd → ASt → Prop} (hq : ∀ e s, Q e s → Q' e s) : ∀ (ds : List ADef) (md : AMode) (st : ASt), ALeaves E E2 fn tmps Q ds md st → ALeaves E E2 fn tmps Q' ds md st
  | [], .returning, st, h => by obtain ⟨v, h1, h2⟩ := h; exact ⟨v, h1, hq _ _ h2⟩
  | [], .panicking v, st, h => hq _ _ h
  | [], .recovered _, _, h => h
  | .mark id :: ds, md, st, h => ⟨h.1, ALeaves.mono hq ds md _ h.2⟩
  | .call f args :: ds, md, st, h => by
    refine ⟨h.1, fun m w cargs u hG ha hmd hs => (h.2 m w cargs u hG ha hmd hs).mono ?_⟩
    rintro e u' w' ⟨ae, md', st', m', q, r⟩
    refine ⟨ae, md', st', m', ?_, r⟩
    cases ae with
    | ret v => exact ALeaves.mono hq ds _ _ q
    | pan v => exact ⟨q.1, ALeaves.mono hq ds _ _ q.2⟩

theorem evLeaves_ok {E : Env P} {E2 : Env2 E} {df : DefF} (hd : DefOk E df) {fn : Func} {tf : TFr} (ho : tf.Ok) : ∀ (ds : List ADef) (md : AMode) (st : ASt) (e : AEnd) (s : ASt), evLeaves E E2 df fn tf ds md st = some (e, s) →
    ALeaves E E2 fn tf.fr.tmps (fun e' s' => e' = e ∧ s' = s) ds md st := by
  intro ds
  induction ds with
  | nil =>
    intro md st e s h
    cases md with
    | returning =>
      simp only [evLeaves] at h
      rw [tresults_eq ho] at h
      cases hr : aresults E fn tf.fr.tmps st with
      | none => rw [hr] at h; cases h
      | some v =>
        rw [hr] at h
        simp only [Option.some.injEq, Prod.mk.injEq] at h
        exact ⟨v, hr, h⟩
    | panicking v =>
      simp only [evLeaves, Option.some.injEq, Prod.mk.injEq] at h
      exact h
    | recovered v => cases h
  | cons d ds ih =>
    intro md st e s h
    cases d with
    | mark id =>
      simp only [evLeaves] at h
      split at h
      · rename_i hg
        exact ⟨hg, ih _ _ _ _ h⟩
      · cases h
    | call f args =>
      simp only [evLeaves] at h
      split at h
      · cases h
      · rename_i hen
        split at h
        · rename_i v md' st' hdf
          refine ⟨hen, fun m w cargs u hG ha hmd hs => (hd _ _ _ _ _ _ _ hdf m w cargs u hG ha hmd hs).mono ?_⟩
          rintro e1 u' w' ⟨ae, md2, st2, m', ⟨rfl, rfl, rfl⟩, r⟩
          exact ⟨.ret v, md2, st2, m', ih _ _ _ _ h, r⟩
        · rename_i v st' hdf
          refine ⟨hen, fun m w cargs u hG ha hmd hs => (hd _ _ _ _ _ _ _ hdf m w cargs u hG ha hmd hs).mono ?_⟩
          rintro e1 u' w' ⟨ae, md2, st2, m', ⟨rfl, rfl, rfl⟩, r⟩
          exact ⟨.pan v, .returning, st2, m', ⟨rfl, ih _ _ _ _ h⟩, r⟩
        · cases h

/-! ## calls -/
/-- What lies behind a slice that is handed back is let go. -/
def atrim : Bool → Option (AEnd × ASt) → Option (AEnd × ASt)
  | true, some (.ret (.oslc id off len sz x), st) => match st.get id with
    | some (.row cells) => some (.ret (.oslc id off len sz x), st.put id (.row (cells.take (off + len * sz))))
    | _ => some (.ret (.oslc id off len sz x), st)
  | _, r => r

theorem Sound.trim {E : Env P} {f : FuncId} {as : List AV} {st : ASt} {b : Bool} {r : Option (AEnd × ASt)} {e : AEnd} {s : ASt} (h : ∀ e s, r = some (e, s) → Sound E f as st fun e' s' => e' = e ∧ s' = s)
    (hr : atrim b r = some (e, s)) : Sound E f as st fun e' s' => e' = e ∧ s' = s := by
  unfold atrim at hr
  split at hr
  · rename_i id off len sz x st1
    split at hr
    · rename_i cells hg
      simp only [Option.some.injEq, Prod.mk.injEq] at hr
      obtain ⟨rfl, rfl⟩ := hr
      intro m w cargs hG ha hs
      refine (h _ _ rfl m w cargs hG ha hs).mono ?_
      rintro e' w' ⟨ae, st', m', ⟨rfl, rfl⟩, h2, h3⟩
      refine ⟨_, _, m', ⟨rfl, rfl⟩, h2, h3.weaken ?_ (Nat.le_refl _)⟩
      intro j o hj
      rw [ASt.get_put] at hj
      by_cases hid : j = id
      · subst hid
        rw [if_pos rfl] at hj
        cases hj
        exact ⟨_, hg, fun ob r ho => ho.first _⟩
      · rw [if_neg hid] at hj
        exact ⟨o, hj, fun _ _ ho => ho⟩
    · exact h _ _ hr
  · exact h _ _ hr

def evCall1 (E : Env P) (E2 : Env2 E) (kf : CodeF) (df : DefF) : CallF := fun f as st =>
  match E.fn f with
  | none => none
  | some fn => match fn.body with
    | none => none
    | some c => match kf none c (tinit (fn.ntmps - as.length) as) st with
      | some (.normal, tf, st1) => evLeaves E E2 df fn tf tf.ds .returning st1
      | some (.ret, tf, st1) => evLeaves E E2 df fn tf tf.ds .returning st1
      | some (.pan v, tf, st1) => evLeaves E E2 df fn tf tf.ds (.panicking v) st1
      | _ => none

theorem evCall1_ok {E : Env P} {E2 : Env2 E} {kf : CodeF} {df : DefF} (hk : CodeOk E kf) (hd : DefOk E df) : CallOk E (evCall1 E E2 kf df) := by
  intro f as st e s h
  unfold evCall1 at h
  split at h
  · cases h
  · rename_i fn hf
    split at h
    · cases h
    · rename_i c hb
      have body : ∀ {e1 tf1 st1} , kf none c (tinit (fn.ntmps - as.length) as) st = some (e1, tf1, st1) → tf1.Ok ∧ ACode E none c ⟨atmps fn as, []⟩ st (Lands tf1 e1 st1) := by
        intro e1 tf1 st1 hk1
        obtain ⟨k1, k2⟩ := hk _ _ _ _ _ _ _ (tinit_ok _ _) hk1
        rw [tinit_fr] at k2
        exact ⟨k1, k2⟩
      split at h
      · rename_i tf st1 hkf
        obtain ⟨k1, k2⟩ := body hkf
        refine Sound.body (E2 := E2) hf hb (k2.mono ?_)
        rintro e1 fr1 s1 ⟨rfl, rfl, rfl⟩
        exact evLeaves_ok hd k1 _ _ _ _ _ h
      · rename_i tf st1 hkf
        obtain ⟨k1, k2⟩ := body hkf
        refine Sound.body (E2 := E2) hf hb (k2.mono ?_)
        rintro e1 fr1 s1 ⟨rfl, rfl, rfl⟩
        exact evLeaves_ok hd k1 _ _ _ _ _ h
      · rename_i v tf st1 hkf
        obtain ⟨k1, k2⟩ := body hkf
        refine Sound.body (E2 := E2) hf hb (k2.mono ?_)
        rintro e1 fr1 s1 ⟨rfl, rfl, rfl⟩
        exact evLeaves_ok hd k1 _ _ _ _ _ h
      · cases h

def evCall (E : Env P) (E2 : Env2 E) (tab : CallF) (kf : CodeF) (df : DefF) : CallF := fun f as st =>
  match tab f as st with
  | some r => some r
  | none => atrim (E2.trim f) (evCall1 E E2 kf df f as st)

theorem evCall_ok {E : Env P} {E2 : Env2 E} {tab : CallF} {kf : CodeF} {df : DefF} (ht : CallOk E tab) (hk : CodeOk E kf) (hd : DefOk E df) : CallOk E (evCall E E2 tab kf df) := by
  intro f as st e s h
  unfold evCall at h
  split at h
  · rename_i r hr
    simp only [Option.some.injEq] at h
    subst h
    exact ht _ _ _ _ _ hr
  · exact Sound.trim (fun e s hr => evCall1_ok hk hd _ _ _ _ _ hr) h

/-! ## deferred calls -/
def evDef (E : Env P) (kf : CodeF) : DefF := fun f as md st =>
  match E.fn f with
  | none => none
  | some fn => match fn.body with
    | none => none
    | some c => match evS E kf c (tinit (fn.ntmps - as.length) as) md st with
      | some (e, tf, md1, st1) => match tf.ds with
        | _ :: _ => none
        | [] => match e with
          | .normal => match tresults E fn tf st1 with
            | some v => some (.ret v, md1, st1)
            | none => none
          | .ret => match tresults E fn tf st1 with
            | some v => some (.ret v, md1, st1)
            | none => none
          | .pan v => some (.pan v, md1, st1)
          | .exit _ => none
      | none => none

theorem evDef_ok {E : Env P} {kf : CodeF} (hk : CodeOk E kf) : DefOk E (evDef E kf) := by
  intro f as md st e md' s h
  unfold evDef at h
  split at h
  · cases h
  · rename_i fn hf
    split at h
    · cases h
    · rename_i c hb
      split at h
      · rename_i e1 tf md1 st1 hkf
        obtain ⟨k1, k2⟩ := evS_ok hk _ _ _ _ _ _ _ _ (tinit_ok _ _) hkf
        rw [tinit_fr] at k2
        split at h
        · cases h
        · rename_i hds
          refine SoundD.bodyS hf hb (k2.mono ?_)
          rintro e2 fr2 md2 s2 ⟨rfl, rfl, rfl, rfl⟩
          refine ⟨hds, ?_⟩
          cases e2 with
          | normal =>
            simp only at h ⊢
            rw [tresults_eq k1] at h
            cases hr : aresults E fn tf.fr.tmps s2 with
            | none => rw [hr] at h; cases h
            | some v =>
              rw [hr] at h
              simp only [Option.some.injEq, Prod.mk.injEq] at h
              exact ⟨v, rfl, h.1, h.2.1, h.2.2⟩
          | ret =>
            simp only at h ⊢
            rw [tresults_eq k1] at h
            cases hr : aresults E fn tf.fr.tmps s2 with
            | none => rw [hr] at h; cases h
            | some v =>
              rw [hr] at h
              simp only [Option.some.injEq, Prod.mk.injEq] at h
              exact ⟨v, rfl, h.1, h.2.1, h.2.2⟩
          | pan v =>
            simp only [Option.some.injEq, Prod.mk.injEq] at h
            exact ⟨h.1, h.2.1, h.2.2⟩
          | exit id => cases h
      · cases h

/-! ## rounds -/
def evRound (kf : CodeF) : RoundF := fun l as st =>
  match st.get l with
  | some (.loop .ready _ tmps ps assign body _) =>
    match Nat.beq as.length ps.size with
    | false => none
    | true => match kf (some l) assign (tinit 0 (asetAll tmps ps.toList as)) st with
      | some (.normal, tf1, st1) => match st1.get l with
        | some (.loop .ready p1 t1 ps1 a1 b1 d1) => match kf (some l) body tf1 (st1.put l (.loop .busy p1 t1 ps1 a1 b1 d1)) with
          | some (e2, _, st2) => match st2.get l with
            | some (.loop _ _ t2 ps2 a2 b2 d2) => match e2 with
              | .normal => some (.bool true, st2.put l (.loop .ready none t2 ps2 a2 b2 d2))
              | .ret => some (.bool false, st2.put l (.loop .done (some .ret) t2 ps2 a2 b2 d2))
              | .exit id => some (.bool false, st2.put l (.loop .done (some (.exit id)) t2 ps2 a2 b2 d2))
              | .pan _ => none
            | _ => none
          | none => none
        | _ => none
      | _ => none
  | _ => none

theorem evRound_ok {E : Env P} {kf : CodeF} (hk : CodeOk E kf) : RoundOk E (evRound kf) := by
  intro l as st v s h
  unfold evRound at h
  split at h
  · rename_i pend tmps ps assign body d hg
    split at h
    · cases h
    · rename_i hb
      split at h
      · rename_i tf1 st1 hkf
        obtain ⟨k1, k2⟩ := hk _ _ _ _ _ _ _ (tinit_ok _ _) hkf
        rw [tinit_fr] at k2
        simp only [List.replicate_zero, List.append_nil] at k2
        split at h
        · rename_i p1 t1 ps1 a1 b1 d1 hg1
          split at h
          · rename_i e2 tf2 st2 hkf2
            obtain ⟨j1, j2⟩ := hk _ _ _ _ _ _ _ k1 hkf2
            split at h
            · rename_i s2 p2 t2 ps2 a2 b2 d2 hg2
              refine ARound.of hg (Nat.eq_of_beq_eq_true hb) (k2.mono ?_)
              rintro e3 fr3 s3 ⟨rfl, rfl, rfl⟩
              refine ⟨p1, t1, ps1, a1, b1, d1, hg1, j2.mono ?_⟩
              rintro e4 fr4 s4 ⟨rfl, rfl, rfl⟩
              refine ⟨s2, p2, t2, ps2, a2, b2, d2, hg2, ?_⟩
              cases e4 with
              | normal =>
                simp only [Option.some.injEq, Prod.mk.injEq] at h
                exact ⟨h.1, h.2⟩
              | ret =>
                simp only [Option.some.injEq, Prod.mk.injEq] at h
                exact ⟨h.1, h.2⟩
              | exit id =>
                simp only [Option.some.injEq, Prod.mk.injEq] at h
                exact ⟨h.1, h.2⟩
              | pan v => cases h
            · cases h
          · cases h
        · cases h
      · cases h
  · cases h

/-! ## ranges over functions -/
def evPend (kf : CodeF) (rd : Option Nat) (tf : TFr) (st : ASt) : Option Code → Option (AExit × TFr × ASt)
  | none => some (.normal, tf, st)
  | some c => kf rd c tf st

def evRange (E : Env P) (E2 : Env2 E) (cf : CallF) (kf : CodeF) (rd : Option Nat) (g : Operand) (ps : Array Tmp) (assign body : Code) (tf : TFr) (st : ASt) : Option (AExit × TFr × ASt) :=
  match teval E tf g with
  | some (.func gf first captured) => match E2.ent gf with
    | false => none
    | true => match aenter rd tf.fr st ps assign body with
      | none => none
      | some (l, fr1, st1) => match cf gf (first ++ [.yield l] ++ captured) st1 with
        | none => none
        | some (e, st2) => match e with
          | .pan v => some (.pan v, { tf with ds := fr1.defers }, st2)
          | .ret _ => match st2.get l with
            | some (.loop s pend t2 ps2 a2 b2 d2) => match s with
              | .busy => none
              | _ => evPend kf rd { tf with ds := fr1.defers } (st2.put l (.loop .exhausted pend t2 ps2 a2 b2 d2)) pend
            | _ => none
  | _ => none

theorem aenter_tmps {rd : Option Nat} {fr fr1 : AFr} {st st1 : ASt} {ps : Array Tmp} {assign body : Code} {l : Nat} (h : aenter rd fr st ps assign body = some (l, fr1, st1)) : fr1 = { fr with defers := fr1.defers } := by
  unfold aenter at h
  split at h
  · simp only [Option.some.injEq, Prod.mk.injEq] at h
    obtain ⟨_, rfl, _⟩ := h
    rfl
  · split at h
    · simp only [Option.some.injEq, Prod.mk.injEq] at h
      obtain ⟨_, rfl, _⟩ := h
      rfl
    · cases h

theorem evRange_ok {E : Env P} {E2 : Env2 E} {cf : CallF} {kf : CodeF} (hc : CallOk E cf) (hk : CodeOk E kf) {rd : Option Nat} {g : Operand} {ps : Array Tmp} {assign body : Code} {tf tf' : TFr} {st st' : ASt} {e : AExit} (ho : tf.Ok)
    (h : evRange E E2 cf kf rd g ps assign body tf st = some (e, tf', st')) : tf'.Ok ∧ ACode E rd (.rangeFunc g ps assign body) tf.fr st (Lands tf' e st') := by
  unfold evRange at h
  rw [teval_eq ho] at h
  split at h
  · rename_i gf first captured hg
    split at h
    · cases h
    · rename_i hen
      split at h
      · cases h
      · rename_i l fr1 st1 hen2
        have hfr := aenter_tmps hen2
        have hfr' : ({ tf with ds := fr1.defers } : TFr).fr = fr1 := by rw [hfr]; rfl
        have ho' : ({ tf with ds := fr1.defers } : TFr).Ok := ho
        split at h
        · cases h
        · rename_i e2 st2 hcf
          have hs := hc _ _ _ _ _ hcf
          cases e2 with
          | pan v =>
            simp only [Option.some.injEq, Prod.mk.injEq] at h
            obtain ⟨rfl, rfl, rfl⟩ := h
            refine ⟨ho', ACode.rangeFunc hg hen hen2 (hs.mono ?_)⟩
            rintro e1 s1 ⟨rfl, rfl⟩
            exact ⟨rfl, hfr'.symm, rfl⟩
          | ret v =>
            simp only at h
            split at h
            · rename_i s pend t2 ps2 a2 b2 d2 hg2
              have hcase : s ≠ .busy ∧ evPend kf rd { tf with ds := fr1.defers } (st2.put l (.loop .exhausted pend t2 ps2 a2 b2 d2)) pend = some (e, tf', st') := by
                cases s <;> first | (cases h; done) | exact ⟨by simp, h⟩
              obtain ⟨hne, h⟩ := hcase
              cases pend with
              | none =>
                simp only [evPend, Option.some.injEq, Prod.mk.injEq] at h
                obtain ⟨rfl, rfl, rfl⟩ := h
                refine ⟨ho', ACode.rangeFunc hg hen hen2 (hs.mono ?_)⟩
                rintro e1 s1 ⟨rfl, rfl⟩
                exact ⟨_, _, _, _, _, _, _, hg2, hne, rfl, hfr'.symm, rfl⟩
              | some c =>
                obtain ⟨k1, k2⟩ := hk _ _ _ _ _ _ _ ho' h
                refine ⟨k1, ACode.rangeFunc hg hen hen2 (hs.mono ?_)⟩
                rintro e1 s1 ⟨rfl, rfl⟩
                refine ⟨_, _, _, _, _, _, _, hg2, hne, ?_⟩
                rw [hfr'] at k2
                exact k2
            · cases h
  · cases h

/-! ## code -/
def evLoop (kf : CodeF) (rd : Option Nat) (c : Code) : Nat → TFr → ASt → Option (AExit × TFr × ASt)
  | 0, _, _ => none
  | n + 1, tf, st => match kf rd c tf st with
    | some (.normal, tf1, st1) => evLoop kf rd c n tf1 st1
    | r => r

theorem evLoop_ok {E : Env P} {kf : CodeF} (hk : CodeOk E kf) {rd : Option Nat} {c : Code} : ∀ (n : Nat) (tf : TFr) (st : ASt) (e : AExit) (tf' : TFr) (st' : ASt), tf.Ok → evLoop kf rd c n tf st = some (e, tf', st') →
    tf'.Ok ∧ ARounds E rd c (Lands tf' e st') n tf.fr st := by
  intro n
  induction n with
  | zero => intro tf st e tf' st' _ h; cases h
  | succ n ih =>
    intro tf st e tf' st' ho h
    simp only [evLoop] at h
    split at h
    · rename_i tf1 st1 hkf
      obtain ⟨k1, k2⟩ := hk _ _ _ _ _ _ _ ho hkf
      obtain ⟨j1, j2⟩ := ih _ _ _ _ _ k1 h
      refine ⟨j1, k2.mono ?_⟩
      rintro e1 fr1 s1 ⟨rfl, rfl, rfl⟩
      exact j2
    · rename_i hne
      obtain ⟨k1, k2⟩ := hk _ _ _ _ _ _ _ ho h
      refine ⟨k1, k2.mono ?_⟩
      rintro e1 fr1 s1 ⟨rfl, rfl, rfl⟩
      cases e1 with
      | normal => exact absurd h (hne _ _)
      | _ => exact ⟨rfl, rfl, rfl⟩

def evCode (E : Env P) (E2 : Env2 E) (kf : CodeF) (cf : CallF) (rf : RoundF) (n : Nat) : CodeF := fun rd c tf st =>
  match c with
  | .skip => some (.normal, tf, st)
  | .label _ => some (.normal, tf, st)
  | .exit id => some (.exit id, tf, st)
  | .ret => some (.ret, tf, st)
  | .seq x y => match kf rd x tf st with
    | some (.normal, tf1, st1) => kf rd y tf1 st1
    | r => r
  | .cond c x y => match teval E tf c with
    | some (.bool true) => kf rd x tf st
    | some (.bool false) => kf rd y tf st
    | _ => none
  | .block id c => match kf rd c tf st with
    | some (.exit id', tf1, st1) => match Nat.beq id' id with
      | true => some (.normal, tf1, st1)
      | false => some (.exit id', tf1, st1)
    | r => r
  | .loop c => evLoop kf rd c n tf st
  | .scope c => kf rd c tf st
  | .region _ ops false => evOps E E2 cf rf rd ops.toList ops.toList tf st
  | .region _ ops true => evDraw E E2 cf rd ops.toList tf st
  | .rangeFunc g ps assign body => evRange E E2 cf kf rd g ps assign body tf st
  | _ => none

theorem evCode_ok {E : Env P} {E2 : Env2 E} {kf : CodeF} {cf : CallF} {rf : RoundF} (hk : CodeOk E kf) (hc : CallOk E cf) (hr : RoundOk E rf) (n : Nat) : CodeOk E (evCode E E2 kf cf rf n) := by
  intro rd c tf st e tf' st' ho h
  cases c with
  | skip =>
    simp only [evCode, Option.some.injEq, Prod.mk.injEq] at h
    obtain ⟨rfl, rfl, rfl⟩ := h
    exact ⟨ho, ACode.skip ⟨rfl, rfl, rfl⟩⟩
  | label l =>
    simp only [evCode, Option.some.injEq, Prod.mk.injEq] at h
    obtain ⟨rfl, rfl, rfl⟩ := h
    exact ⟨ho, ACode.label ⟨rfl, rfl, rfl⟩⟩
  | exit id =>
    simp only [evCode, Option.some.injEq, Prod.mk.injEq] at h
    obtain ⟨rfl, rfl, rfl⟩ := h
    exact ⟨ho, ACode.exit ⟨rfl, rfl, rfl⟩⟩
  | ret =>
    simp only [evCode, Option.some.injEq, Prod.mk.injEq] at h
    obtain ⟨rfl, rfl, rfl⟩ := h
    exact ⟨ho, ACode.ret ⟨rfl, rfl, rfl⟩⟩
  | seq x y =>
    simp only [evCode] at h
    split at h
    · rename_i tf1 st1 hkf
      obtain ⟨k1, k2⟩ := hk _ _ _ _ _ _ _ ho hkf
      obtain ⟨j1, j2⟩ := hk _ _ _ _ _ _ _ k1 h
      refine ⟨j1, ACode.seq (k2.mono ?_)⟩
      rintro e1 fr1 s1 ⟨rfl, rfl, rfl⟩
      exact j2
    · rename_i hne
      obtain ⟨k1, k2⟩ := hk _ _ _ _ _ _ _ ho h
      refine ⟨k1, ACode.seq (k2.mono ?_)⟩
      rintro e1 fr1 s1 ⟨rfl, rfl, rfl⟩
      cases e1 with
      | normal => exact absurd h (hne _ _)
      | _ => exact ⟨rfl, rfl, rfl⟩
  | cond c x y =>
    simp only [evCode] at h
    rw [teval_eq ho] at h
    split at h
    · rename_i hb
      obtain ⟨k1, k2⟩ := hk _ _ _ _ _ _ _ ho h
      exact ⟨k1, ACode.cond hb k2⟩
    · rename_i hb
      obtain ⟨k1, k2⟩ := hk _ _ _ _ _ _ _ ho h
      exact ⟨k1, ACode.cond hb k2⟩
    · cases h
  | block id c =>
    simp only [evCode] at h
    split at h
    · rename_i id' tf1 st1 hkf
      obtain ⟨k1, k2⟩ := hk _ _ _ _ _ _ _ ho hkf
      split at h
      · rename_i hb
        have := Nat.eq_of_beq_eq_true hb
        subst this
        simp only [Option.some.injEq, Prod.mk.injEq] at h
        obtain ⟨rfl, rfl, rfl⟩ := h
        refine ⟨k1, ACode.block (k2.mono ?_)⟩
        rintro e1 fr1 s1 ⟨rfl, rfl, rfl⟩
        show if id' = id' then _ else _
        rw [if_pos rfl]
        exact ⟨rfl, rfl, rfl⟩
      · rename_i hb
        simp only [Option.some.injEq, Prod.mk.injEq] at h
        obtain ⟨rfl, rfl, rfl⟩ := h
        refine ⟨k1, ACode.block (k2.mono ?_)⟩
        rintro e1 fr1 s1 ⟨rfl, rfl, rfl⟩
        show if id' = id then _ else _
        rw [if_neg (fun hx => by rw [hx, Nat.beq_refl] at hb; cases hb)]
        exact ⟨rfl, rfl, rfl⟩
    · rename_i hne
      obtain ⟨k1, k2⟩ := hk _ _ _ _ _ _ _ ho h
      refine ⟨k1, ACode.block (k2.mono ?_)⟩
      rintro e1 fr1 s1 ⟨rfl, rfl, rfl⟩
      cases e1 with
      | exit id' => exact absurd h (hne _ _ _)
      | _ => exact ⟨rfl, rfl, rfl⟩
  | loop c =>
    obtain ⟨k1, k2⟩ := evLoop_ok hk n tf st e tf' st' ho h
    exact ⟨k1, ACode.loop n k2⟩
  | region id ops draw =>
    cases draw with
    | false =>
      obtain ⟨k1, k2⟩ := evOps_ok hc hr ops.toList 0 tf st e tf' st' rfl ho h
      refine ⟨k1, ACode.region ?_⟩
      rw [List.range_eq_range']
      simpa using k2
    | true => exact evDraw_ok hc ho h
  | rangeFunc g ps assign body => exact evRange_ok hc hk ho h
  | scope c =>
    obtain ⟨k1, k2⟩ := hk _ _ _ _ _ _ _ ho h
    exact ⟨k1, ACode.scope k2⟩
  | goto l => cases h
  | refuse w => cases h

/-! ## the knot -/
def ev (E : Env P) (E2 : Env2 E) (tab : CallF) : Nat → CodeF
  | 0 => fun _ _ _ _ => none
  | n + 1 => evCode E E2 (ev E E2 tab n) (evCall E E2 tab (ev E E2 tab n) (evDef E (ev E E2 tab n))) (evRound (ev E E2 tab n)) n

theorem ev_ok {E : Env P} {E2 : Env2 E} {tab : CallF} (ht : CallOk E tab) : ∀ n, CodeOk E (ev E E2 tab n)
  | 0 => fun _ _ _ _ _ _ _ _ h => by cases h
  | n + 1 => evCode_ok (ev_ok ht n) (evCall_ok ht (ev_ok ht n) (evDef_ok (ev_ok ht n))) (evRound_ok (ev_ok ht n)) n

/-- A call, all of it. -/
def run (E : Env P) (E2 : Env2 E) (tab : CallF) (n : Nat) : CallF := evCall E E2 tab (ev E E2 tab n) (evDef E (ev E E2 tab n))

theorem run_ok {E : Env P} {E2 : Env2 E} {tab : CallF} (ht : CallOk E tab) (n : Nat) : CallOk E (run E E2 tab n) :=
  evCall_ok ht (ev_ok ht n) (evDef_ok (ev_ok ht n))

end Go.Abs

/- THE EVALUATOR, 4: what it asks of a program, out of the program itself. -/
namespace Go.Abs

def evens {α : Type} : List α → List α
  | [] => []
  | [a] => [a]
  | a :: _ :: as => a :: evens as

def odds {α : Type} : List α → List α
  | [] => []
  | _ :: as => evens as

theorem evens_get {α : Type} : ∀ (l : List α) (i : Nat), (evens l)[i]? = l[2 * i]?
  | [], i => by simp [evens]
  | [a], 0 => by simp [evens]
  | [a], i + 1 => by simp [evens, Nat.mul_add]
  | a :: b :: as, 0 => by simp [evens]
  | a :: b :: as, i + 1 => by
    simp only [evens, List.getElem?_cons_succ, Nat.mul_add]
    rw [evens_get as i]

theorem odds_get {α : Type} (l : List α) (i : Nat) : (odds l)[i]? = l[2 * i + 1]? := by
  cases l with
  | nil => simp [odds]
  | cons a as => simp [odds, evens_get]

theorem evens_length {α : Type} : ∀ (l : List α), (evens l).length ≤ l.length
  | [] => by simp [evens]
  | [a] => by simp [evens]
  | a :: b :: as => by
    have := evens_length as
    simp [evens]; omega

/-- A finite map of a list. -/
def build {α : Type} : Nat → List α → Tr α
  | 0, _ => .leaf
  | n + 1, l => match l with
    | [] => .leaf
    | a :: as => .node (some a) (build n (evens as)) (build n (odds as))

theorem build_get {α : Type} : ∀ (n : Nat) (l : List α) (k : Nat) (a : α), (build n l).get k = some a → l[k]? = some a := by
  intro n
  induction n with
  | zero => intro l k a h; simp [build, Tr.get] at h
  | succ n ih =>
    intro l k a h
    cases l with
    | nil => simp [build, Tr.get] at h
    | cons x xs =>
      simp only [build, Tr.get_node] at h
      split at h
      · rename_i hk; subst hk; simpa using h
      · rename_i hk
        split at h
        · rename_i ho
          have := ih _ _ _ h
          rw [evens_get] at this
          rw [show k = (2 * (k / 2)) + 1 by omega, List.getElem?_cons_succ]
          exact this
        · rename_i ho
          have := ih _ _ _ h
          rw [odds_get] at this
          rw [show k = (2 * (k / 2 - 1) + 1) + 1 by omega, List.getElem?_cons_succ]
          exact this

theorem info_of_types {P : Program} {t : TypeId} {i : TypeInfo} (h : P.types[t]? = some i) : P.info? t = some i := by
  show Tables.info? P.toTables t = some i
  unfold Tables.info?
  rw [if_pos (Array.getElem?_eq_some_iff.1 h).1, h]

def undT (T : Tr TypeInfo) (t : TypeId) : Option TypeDesc :=
  match T.get t with
  | some { desc := .named _ u, .. } => match T.get u with
    | some i => some i.desc
    | none => none
  | some i => some i.desc
  | none => none

/-- What the evaluator asks of a program. 'T', 'F': its types and functions, as finite maps. -/
def envOf (P : Program) (T : Tr TypeInfo) (F : Tr Func) (G : Nat → Option (Nat × List AV)) (hT : ∀ t i, T.get t = some i → P.types.toList[t]? = some i) (hF : ∀ f x, F.get f = some x → P.funcs.toList[f]? = some x)
    (hm : P.follows .mixedOrders = true) : Env P where
  und := undT T
  info := T.get
  fn := F.get
  plain t := !P.stoodInHeld t && !P.eqGuardType P.depth t
  glob := G
  und_ok t d h := by
    have hT' : ∀ t i, T.get t = some i → P.info? t = some i := fun t i h => by
      have := hT t i h
      have : P.types[t]? = some i := by simpa using this
      exact info_of_types this
    unfold undT at h
    unfold Program.underlying
    split at h
    · rename_i n u _ _ _ _ _ h1
      rw [hT' _ _ h1]
      simp only
      split at h
      · rename_i i h2
        rw [hT' _ _ h2]
        exact h
      · cases h
    · rename_i i hne h1
      rw [hT' _ _ h1]
      cases h
      split
      · rename_i n u _ _ _ _ _ _ _ _ _ he
        cases he
        exact absurd rfl (hne _ _ _ _ _ _ _ _ _ _ _)
      · rename_i he; cases he; rfl
      · rename_i he; cases he
    · cases h
  info_ok t i h := by
    have := hT t i h
    have : P.types[t]? = some i := by simpa using this
    exact info_of_types this
  fn_ok f x h := by
    have := hF f x h
    simpa using this
  plain_ok t h := by
    simp only [Bool.and_eq_true, Bool.not_eq_true'] at h
    exact h
  mixed := hm

def entB2 (F : Tr Func) (f : FuncId) : Bool :=
  match F.get f with
  | none => false
  | some fn => !(fn.name == "runtime.NumGoroutine") && fn.body.isSome

def env2Of {P : Program} (E : Env P) (F : Tr Func) (hF : ∀ f x, F.get f = some x → P.funcs.toList[f]? = some x) (X : FuncId → List AV → Option AV)
    (hX : ∀ f as a, X f as = some a → ∀ m as', VRs m as as' → ∃ v, VR m a v ∧ ∀ w, (callFunc f ⟨as'⟩).run P w = .ok (.value v) w) (trim : FuncId → Bool) : Env2 E where
  ent := entB2 F
  ent_ok f h args w := by
    unfold entB2 at h
    split at h
    · cases h
    · rename_i fn hf
      have := hF f fn hf
      simp only [Array.getElem?_toList] at this
      simp only [Bool.and_eq_true, Bool.not_eq_true'] at h
      obtain ⟨h1, h2⟩ := h
      unfold callFunc
      have hb : fn.body.isNone = false := by
        cases hb : fn.body with
        | none => rw [hb] at h2; cases h2
        | some c => rfl
      simp only [Sem.run_bind, show (program).run P w = .ok P w from rfl, Result.andThen_ok, this, h1, hb, Bool.false_eq_true, if_false, Sem.run_pure]
  ext := X
  ext_ok := hX
  trim := trim

end Go.Abs
