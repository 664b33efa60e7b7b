import Derived.Test.YtmphidppfclaoaaGreatDoorFd
/- CLOSED VALUES: what leads to no object; a call of such that hands back such leaves the state as it was. -/
namespace Go.Abs
variable {P : Program}

mutual
/-- A value that leads to no object of the abstract heap. -/
def AV.closed : AV → Bool
  | .bool _ | .int _ _ | .str _ | .undef | .nilp | .nilm | .nilf | .nili | .nils => true
  | .ptr _ _ | .oslc _ _ _ _ _ | .map _ | .yield _ => false
  | .fptr _ es _ _ => AVs.closed es
  | .fslc _ es _ => AVs.closed es
  | .func _ a b => AVs.closed a && AVs.closed b
  | .iface _ v => AV.closed v
  | .agg cs => AVs.closed cs
  | .tup cs => AVs.closed cs
def AVs.closed : List AV → Bool
  | [] => true
  | a :: as => AV.closed a && AVs.closed as
end

theorem AVs.closed_append : ∀ (as bs : List AV), AVs.closed (as ++ bs) = (AVs.closed as && AVs.closed bs)
  | [], bs => by simp [AVs.closed]
  | a :: as, bs => by simp [AVs.closed, AVs.closed_append as bs, Bool.and_assoc]

theorem AV.closed_cells (a : AV) : AVs.closed a.cells = a.closed := by
  cases a <;> simp [AV.cells, AVs.closed, AV.closed]

theorem AVs.closed_flatMap : ∀ (es : List AV), AVs.closed (es.flatMap AV.cells) = AVs.closed es
  | [] => by simp [AVs.closed]
  | e :: es => by
    rw [List.flatMap_cons, AVs.closed_append, AV.closed_cells, AVs.closed_flatMap es]
    simp [AVs.closed]

mutual
theorem VR.reloc {m m' : Mu} (hk : ∀ b o v, m.K b o = some v → m'.K b o = some v) : ∀ {a : AV} {v : Value}, VR m a v → a.closed = true → VR m' a v
  | _, _, .bool b, _ => .bool b
  | _, _, .int k n, _ => .int k n
  | _, _, .str s, _ => .str s
  | _, _, .undef, _ => .undef
  | _, _, .nilp, _ => .nilp
  | _, _, .nilm, _ => .nilm
  | _, _, .nilf, _ => .nilf
  | _, _, .nili, _ => .nili
  | _, _, .nils, _ => .nils
  | _, _, .ptr off _, h => by simp [AV.closed] at h
  | _, _, .fptr i j hr hw, h => .fptr i j (RowR.reloc hk hr (by rw [AVs.closed_flatMap]; simpa [AV.closed] using h)) hw
  | _, _, .oslc _ _ _ _, h => by simp [AV.closed] at h
  | _, _, .fslc0 a hx, _ => .fslc0 a hx
  | _, _, .fslc hr hw hlen hl hx, h => .fslc (RowR.reloc hk hr (by rw [AVs.closed_flatMap]; simpa [AV.closed] using h)) hw hlen hl hx
  | _, _, .map _, h => by simp [AV.closed] at h
  | _, _, .func f h1 h2, h => .func f (VRs.reloc hk h1 (by simp [AV.closed] at h; exact h.1)) (VRs.reloc hk h2 (by simp [AV.closed] at h; exact h.2))
  | _, _, .yield _, h => by simp [AV.closed] at h
  | _, _, .iface t hv, h => .iface t (VR.reloc hk hv (by simpa [AV.closed] using h))
  | _, _, .agg hv, h => .agg (VRs.reloc hk hv (by simpa [AV.closed] using h))
  | _, _, .tup hv, h => .tup (VRs.reloc hk hv (by simpa [AV.closed] using h))
theorem VRs.reloc {m m' : Mu} (hk : ∀ b o v, m.K b o = some v → m'.K b o = some v) : ∀ {a : List AV} {v : List Value}, VRs m a v → AVs.closed a = true → VRs m' a v
  | _, _, .nil, _ => .nil
  | _, _, .cons hv t, h => .cons (VR.reloc hk hv (by simp [AVs.closed] at h; exact h.1)) (VRs.reloc hk t (by simp [AVs.closed] at h; exact h.2))
theorem RowR.reloc {m m' : Mu} (hk : ∀ b o v, m.K b o = some v → m'.K b o = some v) : ∀ {b o : Nat} {a : List AV}, RowR m b o a → AVs.closed a = true → RowR m' b o a
  | _, _, _, .nil b o, _ => .nil b o
  | _, _, _, .cons hc hv t, h => .cons (hk _ _ _ hc) (VR.reloc hk hv (by simp [AVs.closed] at h; exact h.1)) (RowR.reloc hk t (by simp [AVs.closed] at h; exact h.2))
end

/-- The package-level variables hold closed values. -/
def Env.GClosed (E : Env P) : Prop := ∀ g sz elems, E.glob g = some (sz, elems) → AVs.closed elems = true

def AEnd.val : AEnd → AV
  | .ret v | .pan v => v

theorem EndR.reloc {m m' : Mu} (hk : ∀ b o v, m.K b o = some v → m'.K b o = some v) {ae : AEnd} {e : Ending} (hc : ae.val.closed = true) (h : EndR m ae e) : EndR m' ae e := by
  cases h with
  | ret h => exact .ret (VR.reloc hk h hc)
  | pan h => exact .pan (VR.reloc hk h hc)

/-- **A CALL OF CLOSED VALUES THAT HANDS BACK A CLOSED ONE**: what holds in the empty state holds in every state, and leaves it as it was. -/
theorem Sound.closed {E : Env P} (hE : E.GClosed) {f : FuncId} {args : List AV} (ha : AVs.closed args = true) {n : Nat} {Q : AEnd → ASt → Prop} (h : Sound E f args ⟨n, .leaf⟩ Q) (hq : ∀ e s, Q e s → e.val.closed = true) (st : ASt) :
    Sound E f args st fun e s => (∃ s0, Q e s0) ∧ s = st := by
  intro m w cargs hG hv hs
  let m0 : Mu := ⟨fun _ => none, m.K⟩
  have hk0 : ∀ b o v, m.K b o = some v → m0.K b o = some v := fun _ _ _ h => h
  have hG0 : GR E m0 := fun g sz elems hg => ⟨RowR.reloc hk0 ((hG g sz elems hg).1) (by rw [AVs.closed_flatMap]; exact hE g sz elems hg), (hG g sz elems hg).2⟩
  have hnone : ∀ id o, ASt.get ⟨n, .leaf⟩ id = some o → False := fun id o h => by cases h
  have hs0 : SR m0 ⟨n, .leaf⟩ w := ⟨fun id o h => (hnone id o h).elim, fun id id' o o' _ _ _ h => (hnone id o h).elim, hs.cell, fun b i v ⟨id, o, r, h, _⟩ => (hnone id o h).elim, fun id x h => by cases h⟩
  refine (h m0 w cargs hG0 (VRs.reloc hk0 hv ha) hs0).mono ?_
  rintro e w' ⟨ae, st', m', hQ, hend, hstp⟩
  let m2 : Mu := ⟨m.loc, m'.K⟩
  have hK : ∀ b o v, m.K b o = some v → m2.K b o = some v := fun b o v h => hstp.ext.K b o v h
  have hext : Ext m m2 := ⟨fun _ _ h => h, hK⟩
  have hno : ∀ b, ¬ Owned m0 ⟨n, .leaf⟩ b := fun b ⟨id, o, r, h, _⟩ => hnone id o h
  have hblock : ∀ b, b < w.heap.size → w'.heap[b]? = w.heap[b]? := fun b hb => hstp.fr.block b hb (hno b)
  have hfrz : ∀ b i v, b < w.heap.size → m'.K b i = some v → m.K b i = some v := fun b i v hb hk => (hstp.frz b i v hb hk).elim (fun h => h) fun ho => (hno b ho).elim
  have hown : ∀ b, Owned m2 st b → Owned m st b := fun b h => h
  refine ⟨ae, st, m2, ⟨⟨st', hQ⟩, rfl⟩, EndR.reloc (m := m') (m' := m2) (fun _ _ _ h => h) (hq _ _ hQ) hend, ⟨⟨hext, ⟨?_, ?_, hstp.sr.cell, ?_, hs.dom⟩, ⟨hstp.fr.os, hstp.fr.tape, hstp.fr.output, hstp.fr.size, fun b hb _ => hblock b hb⟩, fun b _ h => hown b h, Nat.le_refl _⟩, fun _ _ => rfl, ?_⟩⟩
  · intro id o h
    obtain ⟨b, r, ob, h1, h2, h3⟩ := hs.obj id o h
    exact ⟨b, r, ob, h1, (hblock b (Array.getElem?_eq_some_iff.1 h2).1).trans h2, h3.mono hext⟩
  · exact hs.inj
  · intro b i v ho hk
    exact hs.apart b i v (hown b ho) (hfrz b i v (hs.owned_lt (hown b ho)) hk)
  · intro b i v hb hk
    exact .inl (hfrz b i v hb hk)

end Go.Abs

/- CLOSED CALLS THAT HAND BACK ONE NEW OBJECT. -/
namespace Go.Abs
variable {P : Program}

def closedEs : List (AV × AV × Nat) → Bool
  | [] => true
  | (k, v, _) :: es => k.closed && v.closed && closedEs es

/-- An object that leads to no other. -/
def AObj.closed : AObj → Bool
  | .row cs => AVs.closed cs
  | .map es _ => closedEs es
  | _ => false

theorem MapR.reloc {m m' : Mu} (hk : ∀ b o v, m.K b o = some v → m'.K b o = some v) : ∀ {es : List (AV × AV × Nat)} {fs : List MapEntry}, MapR m es fs → closedEs es = true → MapR m' es fs
  | _, _, .nil, _ => .nil
  | _, _, .cons h1 h2 t, h => by
    simp only [closedEs, Bool.and_eq_true] at h
    exact .cons (VR.reloc hk h1 h.1.1) (VR.reloc hk h2 h.1.2) (MapR.reloc hk t h.2)

theorem OR.reloc {m m' : Mu} (hk : ∀ b o v, m.K b o = some v → m'.K b o = some v) {o : AObj} {ob : Obj} {r : Nat} (h : OR m o ob r) (hc : o.closed = true) : OR m' o ob r := by
  cases h with
  | row hl h => exact .row hl (VRs.reloc hk h hc)
  | map h hb => exact .map (MapR.reloc hk h hc) hb
  | _ => cases hc

/-- The value that leads to an object, at another number. -/
def AV.reid (j : Nat) : AV → AV
  | .map _ => .map j
  | .ptr _ off => .ptr j off
  | .oslc _ off len sz x => .oslc j off len sz x
  | v => v

def AV.leads (id : Nat) : AV → Prop
  | .map i => i = id
  | .ptr i _ => i = id
  | .oslc i _ _ _ _ => i = id
  | _ => False

theorem VR.reid {m m' : Mu} {id j b r : Nat} (h1 : m.loc id = some (b, r)) (h2 : m'.loc j = some (b, r)) {a : AV} {v : Value} (hl : a.leads id) (h : VR m a v) : VR m' (a.reid j) v := by
  cases h with
  | map hx => have hl : _ = _ := hl; subst hl; rw [h1] at hx; cases hx; exact .map h2
  | ptr off hx => have hl : _ = _ := hl; subst hl; rw [h1] at hx; cases hx; exact .ptr off h2
  | oslc hx hc hle hxx => have hl : _ = _ := hl; subst hl; rw [h1] at hx; cases hx; exact .oslc h2 hc hle hxx
  | _ => cases hl

/-- **A CALL OF CLOSED VALUES THAT HANDS BACK ONE NEW OBJECT.** -/
theorem Sound.closedObj {E : Env P} (hE : E.GClosed) {f : FuncId} {args : List AV} (ha : AVs.closed args = true) {n id : Nat} {v : AV} {o : AObj} (hl : v.leads id) (ho : o.closed = true)
    (h : Sound E f args ⟨n, .leaf⟩ fun e s => e = .ret v ∧ s.get id = some o) (st : ASt) :
    Sound E f args st fun e s => e = .ret (v.reid st.next) ∧ s = { (st.put st.next o) with next := st.next + 1 } := by
  intro m w cargs hG hv hs
  let m0 : Mu := ⟨fun _ => none, m.K⟩
  have hk0 : ∀ b o v, m.K b o = some v → m0.K b o = some v := fun _ _ _ h => h
  have hG0 : GR E m0 := fun g sz elems hg => ⟨RowR.reloc hk0 ((hG g sz elems hg).1) (by rw [AVs.closed_flatMap]; exact hE g sz elems hg), (hG g sz elems hg).2⟩
  have hnone : ∀ id o, ASt.get ⟨n, .leaf⟩ id = some o → False := fun id o h => by cases h
  have hs0 : SR m0 ⟨n, .leaf⟩ w := ⟨fun id o h => (hnone id o h).elim, fun id id' o o' _ _ _ h => (hnone id o h).elim, hs.cell, fun b i v ⟨id, o, r, h, _⟩ => (hnone id o h).elim, fun id x h => by cases h⟩
  refine (h m0 w cargs hG0 (VRs.reloc hk0 hv ha) hs0).mono ?_
  rintro e w' ⟨ae, st', m', ⟨rfl, hget⟩, hend, hstp⟩
  obtain ⟨b, r, ob, hloc, hheap, hor⟩ := hstp.sr.obj id o hget
  have hfree : m.loc st.next = none := hs.free (Nat.le_refl _)
  let m1 : Mu := ⟨m.loc, m'.K⟩
  have hK : ∀ b o v, m.K b o = some v → m1.K b o = some v := fun b o v h => hstp.ext.K b o v h
  have hext1 : Ext m m1 := ⟨fun _ _ h => h, hK⟩
  have hext2 : Ext m1 (m1.add st.next b r) := Mu.ext_add hfree
  have hext := hext1.trans hext2
  have hno : ∀ b, ¬ Owned m0 ⟨n, .leaf⟩ b := fun b ⟨id, o, r, h, _⟩ => hnone id o h
  have hblock : ∀ b, b < w.heap.size → w'.heap[b]? = w.heap[b]? := fun b hb => hstp.fr.block b hb (hno b)
  have hfrz : ∀ b i v, b < w.heap.size → m'.K b i = some v → m.K b i = some v := fun b i v hb hk => (hstp.frz b i v hb hk).elim (fun h => h) fun ho => (hno b ho).elim
  have hfresh : ¬ b < w.heap.size := fun hb => hno b (hstp.own b hb ⟨id, o, r, hget, hloc⟩)
  have hgetn : ∀ j, ASt.get { (st.put st.next o) with next := st.next + 1 } j = if j = st.next then some o else st.get j := fun j => ASt.get_put st st.next j o
  have hnew : (m1.add st.next b r).loc st.next = some (b, r) := Mu.loc_add _ _ _ _
  have hold : ∀ j, j ≠ st.next → (m1.add st.next b r).loc j = m.loc j := fun j hj => Mu.loc_add_ne _ _ _ hj
  have hlt : ∀ j o1 b1 r1, j ≠ st.next → st.get j = some o1 → (m1.add st.next b r).loc j = some (b1, r1) → b1 < w.heap.size := fun j o1 b1 r1 hj e l => hs.owned_lt ⟨j, o1, r1, e, by rw [← hold j hj]; exact l⟩
  refine ⟨_, _, m1.add st.next b r, ⟨rfl, rfl⟩, ?_, ⟨⟨hext, ⟨?_, ?_, hstp.sr.cell, ?_, ?_⟩, ⟨hstp.fr.os, hstp.fr.tape, hstp.fr.output, hstp.fr.size, fun b hb _ => hblock b hb⟩, ?_, Nat.le_succ _⟩, fun j hj => hold j (by omega), ?_⟩⟩
  · cases hend with
    | ret hv' => exact .ret (VR.reid hloc hnew hl hv')
  · intro j o1 e
    rw [hgetn] at e
    by_cases hj : j = st.next
    · rw [if_pos hj] at e
      cases e
      subst hj
      exact ⟨b, r, ob, hnew, hheap, OR.reloc (m := m') (m' := m1.add st.next b r) (fun _ _ _ h => h) hor ho⟩
    · rw [if_neg hj] at e
      obtain ⟨b1, r1, ob1, h1, h2, h3⟩ := hs.obj j o1 e
      exact ⟨b1, r1, ob1, by rw [hold j hj]; exact h1, (hblock b1 (Array.getElem?_eq_some_iff.1 h2).1).trans h2, h3.mono hext⟩
  · intro i j o1 o2 b1 r1 r2 e1 e2 l1 l2
    rw [hgetn] at e1 e2
    by_cases hi : i = st.next
    · by_cases hj : j = st.next
      · rw [hi, hj]
      · rw [if_neg hj] at e2
        exfalso
        have := hlt j o2 b1 r2 hj e2 l2
        rw [hi, hnew] at l1
        cases l1
        exact hfresh this
    · rw [if_neg hi] at e1
      by_cases hj : j = st.next
      · exfalso
        have := hlt i o1 b1 r1 hi e1 l1
        rw [hj, hnew] at l2
        cases l2
        exact hfresh this
      · rw [if_neg hj] at e2
        rw [hold i hi] at l1
        rw [hold j hj] at l2
        exact hs.inj i j o1 o2 b1 r1 r2 e1 e2 l1 l2
  · intro b1 i v1 ⟨j, o1, r1, e, l⟩ hk
    rw [hgetn] at e
    by_cases hj : j = st.next
    · rw [hj, hnew] at l
      cases l
      exact hstp.sr.apart b i v1 ⟨id, o, r, hget, hloc⟩ hk
    · rw [if_neg hj] at e
      have hb := hlt j o1 b1 r1 hj e l
      rw [hold j hj] at l
      exact hs.apart b1 i v1 ⟨j, o1, r1, e, l⟩ (hfrz b1 i v1 hb hk)
  · intro j x e
    show j < st.next + 1
    by_cases hj : j = st.next
    · omega
    · rw [hold j hj] at e
      have := hs.dom j x e
      omega
  · intro b1 hb ⟨j, o1, r1, e, l⟩
    rw [hgetn] at e
    by_cases hj : j = st.next
    · rw [hj, hnew] at l
      cases l
      exact (hfresh hb).elim
    · rw [if_neg hj] at e
      rw [hold j hj] at l
      exact ⟨j, o1, r1, e, l⟩
  · intro b1 i v1 hb hk
    exact .inl (hfrz b1 i v1 hb hk)

end Go.Abs

/- THE KERNEL's EVALUATOR, 1: finite maps, numbers and operands by recursors alone (the kernel steps through these, and keeps what it came to). -/
namespace Go.Abs
variable {P : Program}
noncomputable section

/-! ## finite maps -/
namespace Tr
variable {α : Type}
def xget (t : Tr α) : Nat → Option α := Tr.rec (motive := fun _ => Nat → Option α) (fun _ => none)
  (fun v _ _ ihl ihr k => Nat.rec (motive := fun _ => Option α) v (fun k' _ => Bool.rec (motive := fun _ => Option α) (ihl (Nat.div k' 2)) (ihr (Nat.div k' 2)) (Nat.beq (Nat.mod k' 2) 1)) k) t

def mk1 (n : Nat) : Option α → Nat → Tr α := Nat.rec (motive := fun _ => Option α → Nat → Tr α) (fun _ _ => .leaf)
  (fun _ ih x k => Nat.rec (motive := fun _ => Tr α) (.node x .leaf .leaf) (fun k' _ => Bool.rec (motive := fun _ => Tr α) (.node none (ih x (Nat.div k' 2)) .leaf) (.node none .leaf (ih x (Nat.div k' 2))) (Nat.beq (Nat.mod k' 2) 1)) k) n

def xset (t : Tr α) : Option α → Nat → Tr α := Tr.rec (motive := fun _ => Option α → Nat → Tr α) (fun x k => mk1 (Nat.succ k) x k)
  (fun v l r ihl ihr x k => Nat.rec (motive := fun _ => Tr α) (.node x l r) (fun k' _ => Bool.rec (motive := fun _ => Tr α) (.node v (ihl x (Nat.div k' 2)) r) (.node v l (ihr x (Nat.div k' 2))) (Nat.beq (Nat.mod k' 2) 1)) k) t

theorem brec {β : Type} (a b : β) (m : Nat) : (Bool.rec (motive := fun _ => β) a b (Nat.beq (Nat.mod m 2) 1) : β) = if m % 2 = 1 then b else a := by
  by_cases h : m % 2 = 1
  · rw [if_pos h]
    have : Nat.beq (Nat.mod m 2) 1 = true := by
      show Nat.beq (m % 2) 1 = true
      rw [h]; rfl
    rw [this]
  · rw [if_neg h]
    have : Nat.beq (Nat.mod m 2) 1 = false := by
      cases hb : Nat.beq (Nat.mod m 2) 1 with
      | true => exact absurd (Nat.eq_of_beq_eq_true hb) h
      | false => rfl
    rw [this]

theorem xget_succ (v : Option α) (l r : Tr α) (k : Nat) : (Tr.node v l r).xget (k + 1) = if k % 2 = 1 then r.xget (k / 2) else l.xget (k / 2) := brec _ _ _
theorem xset_succ (v : Option α) (l r : Tr α) (k : Nat) (x : Option α) : (Tr.node v l r).xset x (k + 1) = if k % 2 = 1 then .node v l (r.xset x (k / 2)) else .node v (l.xset x (k / 2)) r := brec _ _ _
theorem mk1_succ (x : Option α) (n k : Nat) : mk1 (n + 1) x (k + 1) = if k % 2 = 1 then .node none .leaf (mk1 n x (k / 2)) else .node none (mk1 n x (k / 2)) .leaf := brec _ _ _

theorem xget_eq (t : Tr α) : ∀ k, t.xget k = t.get k := by
  induction t with
  | leaf => intro k; rfl
  | node v l r ihl ihr =>
    intro k
    rw [get_node]
    cases k with
    | zero => rfl
    | succ k =>
      rw [xget_succ, if_neg (by omega : ¬ k + 1 = 0)]
      by_cases hk : k % 2 = 1
      · rw [if_pos hk, if_neg (by omega), ihr, show (k + 1) / 2 - 1 = k / 2 by omega]
      · rw [if_neg hk, if_pos (by omega), ihl, show (k + 1) / 2 = k / 2 by omega]

theorem setF_fuel : ∀ (n m : Nat) (t : Tr α) (k : Nat) (x : Option α), k < n → k < m → setF n t k x = setF m t k x := by
  intro n
  induction n with
  | zero => intro m t k x h; omega
  | succ n ih =>
    intro m t k x h hm
    obtain ⟨m, rfl⟩ : ∃ m', m = m' + 1 := ⟨m - 1, by omega⟩
    cases t with
    | leaf =>
      rw [setF_leaf, setF_leaf]
      by_cases h0 : k = 0
      · simp [h0]
      · simp only [h0, if_false]
        rw [ih m _ (k / 2) _ (by omega) (by omega), ih m _ (k / 2 - 1) _ (by omega) (by omega)]
    | node v l r =>
      rw [setF_node, setF_node]
      by_cases h0 : k = 0
      · simp [h0]
      · simp only [h0, if_false]
        rw [ih m _ (k / 2) _ (by omega) (by omega), ih m _ (k / 2 - 1) _ (by omega) (by omega)]

theorem mk1_eq (x : Option α) : ∀ (n k : Nat), k < n → mk1 n x k = setF n .leaf k x := by
  intro n
  induction n with
  | zero => intro k h; omega
  | succ n ih =>
    intro k h
    rw [setF_leaf]
    cases k with
    | zero => rfl
    | succ k =>
      rw [mk1_succ, if_neg (by omega : ¬ k + 1 = 0)]
      by_cases hk : k % 2 = 1
      · rw [if_pos hk, if_neg (by omega), show (k + 1) / 2 - 1 = k / 2 by omega, ih _ (by omega)]
      · rw [if_neg hk, if_pos (by omega), show (k + 1) / 2 = k / 2 by omega, ih _ (by omega)]

theorem xset_eq (x : Option α) (t : Tr α) : ∀ k, t.xset x k = t.set k x := by
  unfold set
  induction t with
  | leaf => intro k; exact mk1_eq x (k + 1) k (by omega)
  | node v l r ihl ihr =>
    intro k
    show _ = setF (k + 1) _ _ _
    rw [setF_node]
    cases k with
    | zero => rfl
    | succ k =>
      rw [xset_succ, if_neg (by omega : ¬ k + 1 = 0)]
      by_cases hk : k % 2 = 1
      · rw [if_pos hk, if_neg (by omega), ihr, show (k + 1) / 2 - 1 = k / 2 by omega]
        congr 1
        exact setF_fuel _ _ _ _ _ (by omega) (by omega)
      · rw [if_neg hk, if_pos (by omega), ihl, show (k + 1) / 2 = k / 2 by omega]
        congr 1
        exact setF_fuel _ _ _ _ _ (by omega) (by omega)

end Tr

/-! ## paths into a frame -/
inductive Pth where
  | z
  | o (p : Pth)
  | i (p : Pth)

def pathF (n : Nat) : Nat → Pth := Nat.rec (motive := fun _ => Nat → Pth) (fun _ => .z)
  (fun _ ih k => Nat.rec (motive := fun _ => Pth) .z (fun k' _ => Bool.rec (motive := fun _ => Pth) (.o (ih (Nat.div k' 2))) (.i (ih (Nat.div k' 2))) (Nat.beq (Nat.mod k' 2) 1)) k) n
def path (k : Nat) : Pth := pathF (Nat.succ k) k

/-- What stands in a frame. -/
def fget (p : Pth) : Tr AV → AV := Pth.rec (motive := fun _ => Tr AV → AV)
  (fun T => Tr.rec (motive := fun _ => AV) .undef (fun v _ _ _ _ => Option.rec (motive := fun _ => AV) .undef (fun a => a) v) T)
  (fun _ ih T => Tr.rec (motive := fun _ => AV) .undef (fun _ l _ _ _ => ih l) T)
  (fun _ ih T => Tr.rec (motive := fun _ => AV) .undef (fun _ _ r _ _ => ih r) T) p

def fset (p : Pth) : AV → Tr AV → Tr AV := Pth.rec (motive := fun _ => AV → Tr AV → Tr AV)
  (fun a T => Tr.rec (motive := fun _ => Tr AV) (.node (some a) .leaf .leaf) (fun _ l r _ _ => .node (some a) l r) T)
  (fun _ ih a T => Tr.rec (motive := fun _ => Tr AV) (.node none (ih a .leaf) .leaf) (fun v l r _ _ => .node v (ih a l) r) T)
  (fun _ ih a T => Tr.rec (motive := fun _ => Tr AV) (.node none .leaf (ih a .leaf)) (fun v l r _ _ => .node v l (ih a r)) T) p

theorem pathF_succ (n k : Nat) : pathF (n + 1) (k + 1) = if k % 2 = 1 then .i (pathF n (k / 2)) else .o (pathF n (k / 2)) := Tr.brec _ _ _

theorem fget_eq : ∀ (n k : Nat), k < n → ∀ T : Tr AV, fget (pathF n k) T = (match T.get k with | some v => v | none => .undef) := by
  intro n
  induction n with
  | zero => intro k h; omega
  | succ n ih =>
    intro k h T
    cases T with
    | leaf =>
      cases k with
      | zero => rfl
      | succ k =>
        rw [pathF_succ]
        by_cases hk : k % 2 = 1 <;> simp only [hk, if_true, if_false] <;> rfl
    | node v l r =>
      rw [← Tr.xget_eq]
      cases k with
      | zero =>
        show Option.rec (motive := fun _ => AV) .undef (fun a => a) v = _
        cases v <;> rfl
      | succ k =>
        rw [pathF_succ, Tr.xget_succ]
        by_cases hk : k % 2 = 1
        · simp only [hk, if_true]
          rw [Tr.xget_eq]
          exact ih _ (by omega) r
        · simp only [hk, if_false]
          rw [Tr.xget_eq]
          exact ih _ (by omega) l

theorem fget_path (k : Nat) (T : Tr AV) : fget (path k) T = (match T.get k with | some v => v | none => .undef) := fget_eq _ _ (by omega) T

theorem fset_leaf (a : AV) : ∀ (n k : Nat), k < n → fset (pathF n k) a .leaf = Tr.mk1 n (some a) k := by
  intro n
  induction n with
  | zero => intro k h; omega
  | succ n ih =>
    intro k h
    cases k with
    | zero => rfl
    | succ k =>
      rw [pathF_succ, Tr.mk1_succ]
      by_cases hk : k % 2 = 1
      · simp only [hk, if_true]
        rw [← ih _ (by omega)]; rfl
      · simp only [hk, if_false]
        rw [← ih _ (by omega)]; rfl

theorem fset_eq (a : AV) (T : Tr AV) : ∀ (n k : Nat), k < n → fset (pathF n k) a T = T.xset (some a) k := by
  induction T with
  | leaf =>
    intro n k h
    rw [fset_leaf a n k h, Tr.mk1_eq _ _ _ h, Tr.xset_eq]
    exact Tr.setF_fuel _ _ _ _ _ h (by omega)
  | node v l r ihl ihr =>
    intro n k h
    obtain ⟨n, rfl⟩ : ∃ m', n = m' + 1 := ⟨n - 1, by omega⟩
    cases k with
    | zero => rfl
    | succ k =>
      rw [pathF_succ, Tr.xset_succ]
      by_cases hk : k % 2 = 1
      · simp only [hk, if_true]
        rw [← ihr n (k / 2) (by omega)]; rfl
      · simp only [hk, if_false]
        rw [← ihl n (k / 2) (by omega)]; rfl

theorem fset_path (k : Nat) (a : AV) (T : Tr AV) : fset (path k) a T = T.set k (some a) := by
  rw [← Tr.xset_eq]; exact fset_eq a T _ _ (by omega)

/-! ## numbers -/
def kidx (k : IntKind) : Nat := IntKind.rec (motive := fun _ => Nat) 0 1 2 3 4 5 6 7 k
def keq (j k : IntKind) : Bool := Nat.beq (kidx j) (kidx k)
theorem keq_iff {j k : IntKind} (h : keq j k = true) : j = k := by
  have := Nat.eq_of_beq_eq_true h
  cases j <;> cases k <;> first | rfl | (simp [kidx] at this)

def ieq (a b : Int) : Bool := Int.rec (motive := fun _ => Bool) (fun m => Int.rec (motive := fun _ => Bool) (fun n => Nat.beq m n) (fun _ => false) b) (fun m => Int.rec (motive := fun _ => Bool) (fun _ => false) (fun n => Nat.beq m n) b) a
theorem ieq_eq (a b : Int) : ieq a b = (a == b) := by
  have h : ∀ m n : Nat, Nat.beq m n = (m == n) := fun m n => by rw [Bool.eq_iff_iff]; simp [Nat.beq_eq]
  cases a <;> cases b
  · rename_i m n
    show Nat.beq m n = _
    rw [h, Bool.eq_iff_iff]
    simp
    omega
  · simp [ieq]
  · simp [ieq]
  · rename_i m n
    show Nat.beq m n = _
    rw [h, Bool.eq_iff_iff]
    simp

def ile (a b : Int) : Bool := Int.rec (motive := fun _ => Bool) (fun m => Int.rec (motive := fun _ => Bool) (fun n => Nat.ble m n) (fun _ => false) b) (fun m => Int.rec (motive := fun _ => Bool) (fun _ => true) (fun n => Nat.ble n m) b) a
theorem ile_eq (a b : Int) : ile a b = decide (a ≤ b) := by
  have h : ∀ m n : Nat, Nat.ble m n = decide (m ≤ n) := fun m n => by
    rw [Bool.eq_iff_iff]; simp [Nat.ble_eq]
  cases a <;> cases b
  · rename_i m n
    show Nat.ble m n = _
    rw [h, Bool.eq_iff_iff]
    simp
  · rename_i m n
    simp only [ile]
    symm
    simp only [decide_eq_false_iff_not]
    have h1 : Int.negSucc n < 0 := Int.negSucc_lt_zero n
    have h2 : Int.ofNat m ≥ 0 := Int.natCast_nonneg m
    omega
  · rename_i m n
    simp only [ile]
    symm
    simp only [decide_eq_true_eq]
    have h1 : Int.negSucc m < 0 := Int.negSucc_lt_zero m
    have h2 : Int.ofNat n ≥ 0 := Int.natCast_nonneg n
    omega
  · rename_i m n
    show Nat.ble n m = _
    rw [h, Bool.eq_iff_iff]
    simp only [decide_eq_true_eq]
    omega

/-- A sum, quick where it is small. -/
def iadd (k : IntKind) (a b : Int) : Int := Int.rec (motive := fun _ => Int) (fun m => Int.rec (motive := fun _ => Int)
    (fun n => Bool.rec (motive := fun _ => Int) (k.wrap (Int.ofNat m + Int.ofNat n)) (.ofNat (Nat.add m n)) (Nat.ble (Nat.add m n) 127)) (fun n => k.wrap (Int.ofNat m + .negSucc n)) b) (fun m => k.wrap (.negSucc m + b)) a

theorem wrap_small (k : IntKind) {n : Nat} (h : n ≤ 127) : k.wrap (Int.ofNat n) = Int.ofNat n := by
  have h1 : Int.ofNat n = (n : Int) := rfl
  rw [h1]
  unfold IntKind.wrap
  cases k <;> simp only [IntKind.bits, IntKind.signed, Bool.true_and, Bool.false_and] <;> simp <;> omega

theorem iadd_eq (k : IntKind) (a b : Int) : iadd k a b = k.wrap (a + b) := by
  cases a with
  | negSucc m => rfl
  | ofNat m =>
    cases b with
    | negSucc n => rfl
    | ofNat n =>
      show (Bool.rec (motive := fun _ => Int) (k.wrap (Int.ofNat m + Int.ofNat n)) (.ofNat (Nat.add m n)) (Nat.ble (Nat.add m n) 127) : Int) = _
      cases hb : Nat.ble (Nat.add m n) 127 with
      | false => rfl
      | true =>
        have := Nat.le_of_ble_eq_true hb
        show Int.ofNat (m + n) = k.wrap (Int.ofNat (m + n))
        rw [wrap_small k (n := m + n) this]

end
end Go.Abs

/- THE KERNEL's EVALUATOR, 2: operations. -/
namespace Go.Abs
variable {P : Program}
noncomputable section

inductive XR where
  | fail
  | norm (T : Tr AV) (ds : List ADef) (nx : Nat) (H : Tr AObj)
  | exit (id : Nat) (T : Tr AV) (ds : List ADef) (nx : Nat) (H : Tr AObj)
  | ret (T : Tr AV) (ds : List ADef) (nx : Nat) (H : Tr AObj)
  | pan (v : AV) (T : Tr AV) (ds : List ADef) (nx : Nat) (H : Tr AObj)

def XR.opt (n : Nat) : XR → Option (AExit × TFr × ASt)
  | .fail => none
  | .norm T ds nx H => some (.normal, ⟨n, T, ds⟩, ⟨nx, H⟩)
  | .exit id T ds nx H => some (.exit id, ⟨n, T, ds⟩, ⟨nx, H⟩)
  | .ret T ds nx H => some (.ret, ⟨n, T, ds⟩, ⟨nx, H⟩)
  | .pan v T ds nx H => some (.pan v, ⟨n, T, ds⟩, ⟨nx, H⟩)

/-! ## looks at a value: each takes what is done behind it -/
/-- The value's outermost form is made, then it is handed on. -/
def cps (v : AV) : (AV → XR) → XR := AV.rec (motive_1 := fun _ => (AV → XR) → XR) (motive_2 := fun _ => PUnit)
  (fun b k => k (.bool b)) (fun j n k => k (.int j n)) (fun s k => k (.str s)) (fun k => k .undef) (fun k => k .nilp) (fun k => k .nilm) (fun k => k .nilf) (fun k => k .nili) (fun k => k .nils)
  (fun id off k => k (.ptr id off)) (fun sz es i j _ k => k (.fptr sz es i j)) (fun id off len sz x k => k (.oslc id off len sz x)) (fun sz es x _ k => k (.fslc sz es x)) (fun id k => k (.map id))
  (fun f a b _ _ k => k (.func f a b)) (fun l k => k (.yield l)) (fun t v _ k => k (.iface t v)) (fun cs _ k => k (.agg cs)) (fun vs _ k => k (.tup vs)) PUnit.unit (fun _ _ _ _ => PUnit.unit) v

theorem cps_eq (v : AV) (k : AV → XR) : cps v k = k v := by cases v <;> rfl

def avBool (v : AV) : (Bool → XR) → XR := AV.rec (motive_1 := fun _ => (Bool → XR) → XR) (motive_2 := fun _ => PUnit)
  (fun b k => k b) (fun _ _ _ => .fail) (fun _ _ => .fail) (fun _ => .fail) (fun _ => .fail) (fun _ => .fail) (fun _ => .fail) (fun _ => .fail) (fun _ => .fail)
  (fun _ _ _ => .fail) (fun _ _ _ _ _ _ => .fail) (fun _ _ _ _ _ _ => .fail) (fun _ _ _ _ _ => .fail) (fun _ _ => .fail)
  (fun _ _ _ _ _ _ => .fail) (fun _ _ => .fail) (fun _ _ _ _ => .fail) (fun _ _ _ => .fail) (fun _ _ _ => .fail) PUnit.unit (fun _ _ _ _ => PUnit.unit) v

theorem avBool_eq {v : AV} {k : Bool → XR} {r : XR} (h : avBool v k = r) (hr : r ≠ .fail) : ∃ b, v = .bool b ∧ k b = r := by
  cases v <;> first | exact ⟨_, rfl, h⟩ | exact absurd h.symm hr

/-- An integer, or a string, or else. -/
def avNum (v : AV) : (IntKind → Int → XR) → (List UInt8 → XR) → XR → XR := AV.rec (motive_1 := fun _ => (IntKind → Int → XR) → (List UInt8 → XR) → XR → XR) (motive_2 := fun _ => PUnit)
  (fun _ _ _ d => d) (fun j n k _ _ => k j n) (fun s _ k _ => k s) (fun _ _ d => d) (fun _ _ d => d) (fun _ _ d => d) (fun _ _ d => d) (fun _ _ d => d) (fun _ _ d => d)
  (fun _ _ _ _ d => d) (fun _ _ _ _ _ _ _ d => d) (fun _ _ _ _ _ _ _ d => d) (fun _ _ _ _ _ _ d => d) (fun _ _ _ d => d)
  (fun _ _ _ _ _ _ _ d => d) (fun _ _ _ d => d) (fun _ _ _ _ _ d => d) (fun _ _ _ _ d => d) (fun _ _ _ _ d => d) PUnit.unit (fun _ _ _ _ => PUnit.unit) v

theorem avNum_eq (v : AV) (ki : IntKind → Int → XR) (ks : List UInt8 → XR) (d : XR) : avNum v ki ks d = (match v with | .int j n => ki j n | .str s => ks s | _ => d) := by cases v <;> rfl

/-- A pointer into the heap, or into what is frozen. -/
def avPtr (v : AV) : (Nat → Nat → XR) → (Nat → List AV → Nat → Nat → XR) → XR := AV.rec (motive_1 := fun _ => (Nat → Nat → XR) → (Nat → List AV → Nat → Nat → XR) → XR) (motive_2 := fun _ => PUnit)
  (fun _ _ _ => .fail) (fun _ _ _ _ => .fail) (fun _ _ _ => .fail) (fun _ _ => .fail) (fun _ _ => .fail) (fun _ _ => .fail) (fun _ _ => .fail) (fun _ _ => .fail) (fun _ _ => .fail)
  (fun id off k _ => k id off) (fun sz es i j _ _ k => k sz es i j) (fun _ _ _ _ _ _ _ => .fail) (fun _ _ _ _ _ _ => .fail) (fun _ _ _ => .fail)
  (fun _ _ _ _ _ _ _ => .fail) (fun _ _ _ => .fail) (fun _ _ _ _ _ => .fail) (fun _ _ _ _ => .fail) (fun _ _ _ _ => .fail) PUnit.unit (fun _ _ _ _ => PUnit.unit) v

theorem avPtr_eq (v : AV) (k : Nat → Nat → XR) (k2 : Nat → List AV → Nat → Nat → XR) : avPtr v k k2 = (match v with | .ptr id off => k id off | .fptr sz es i j => k2 sz es i j | _ => .fail) := by cases v <;> rfl

/-- A slice of a row, or of what is frozen. -/
def avSlc (v : AV) : (Nat → Nat → Nat → Nat → XR) → (Nat → List AV → XR) → XR → XR := AV.rec (motive_1 := fun _ => (Nat → Nat → Nat → Nat → XR) → (Nat → List AV → XR) → XR → XR) (motive_2 := fun _ => PUnit)
  (fun _ _ _ d => d) (fun _ _ _ _ d => d) (fun _ _ _ d => d) (fun _ _ d => d) (fun _ _ d => d) (fun _ _ d => d) (fun _ _ d => d) (fun _ _ d => d) (fun _ _ d => d)
  (fun _ _ _ _ d => d) (fun _ _ _ _ _ _ _ d => d) (fun id off len sz _ k _ _ => k id off len sz) (fun sz es _ _ _ k _ => k sz es) (fun _ _ _ d => d)
  (fun _ _ _ _ _ _ _ d => d) (fun _ _ _ d => d) (fun _ _ _ _ _ d => d) (fun _ _ _ _ d => d) (fun _ _ _ _ d => d) PUnit.unit (fun _ _ _ _ => PUnit.unit) v

theorem avSlc_eq (v : AV) (k : Nat → Nat → Nat → Nat → XR) (k2 : Nat → List AV → XR) (d : XR) : avSlc v k k2 d = (match v with | .oslc id off len sz _ => k id off len sz | .fslc sz es _ => k2 sz es | _ => d) := by cases v <;> rfl

/-- A struct's cells, or a tuple's. -/
def avAgg (v : AV) : (List AV → XR) → (List AV → XR) → XR := AV.rec (motive_1 := fun _ => (List AV → XR) → (List AV → XR) → XR) (motive_2 := fun _ => PUnit)
  (fun _ _ _ => .fail) (fun _ _ _ _ => .fail) (fun _ _ _ => .fail) (fun _ _ => .fail) (fun _ _ => .fail) (fun _ _ => .fail) (fun _ _ => .fail) (fun _ _ => .fail) (fun _ _ => .fail)
  (fun _ _ _ _ => .fail) (fun _ _ _ _ _ _ _ => .fail) (fun _ _ _ _ _ _ _ => .fail) (fun _ _ _ _ _ _ => .fail) (fun _ _ _ => .fail)
  (fun _ _ _ _ _ _ _ => .fail) (fun _ _ _ => .fail) (fun _ _ _ _ _ => .fail) (fun cs _ k _ => k cs) (fun vs _ _ k => k vs) PUnit.unit (fun _ _ _ _ => PUnit.unit) v

theorem avAgg_eq (v : AV) (k : List AV → XR) (k2 : List AV → XR) : avAgg v k k2 = (match v with | .agg cs => k cs | .tup vs => k2 vs | _ => .fail) := by cases v <;> rfl

def avFunc (v : AV) : (FuncId → List AV → List AV → XR) → (Nat → XR) → XR := AV.rec (motive_1 := fun _ => (FuncId → List AV → List AV → XR) → (Nat → XR) → XR) (motive_2 := fun _ => PUnit)
  (fun _ _ _ => .fail) (fun _ _ _ _ => .fail) (fun _ _ _ => .fail) (fun _ _ => .fail) (fun _ _ => .fail) (fun _ _ => .fail) (fun _ _ => .fail) (fun _ _ => .fail) (fun _ _ => .fail)
  (fun _ _ _ _ => .fail) (fun _ _ _ _ _ _ _ => .fail) (fun _ _ _ _ _ _ _ => .fail) (fun _ _ _ _ _ _ => .fail) (fun _ _ _ => .fail)
  (fun f a b _ _ k _ => k f a b) (fun l _ k => k l) (fun _ _ _ _ _ => .fail) (fun _ _ _ _ => .fail) (fun _ _ _ _ => .fail) PUnit.unit (fun _ _ _ _ => PUnit.unit) v

theorem avFunc_eq (v : AV) (k : FuncId → List AV → List AV → XR) (k2 : Nat → XR) : avFunc v k k2 = (match v with | .func f a b => k f a b | .yield l => k2 l | _ => .fail) := by cases v <;> rfl

def avLeaf (v : AV) : Bool := AV.rec (motive_1 := fun _ => Bool) (motive_2 := fun _ => PUnit)
  (fun _ => true) (fun _ _ => true) (fun _ => true) false true true true true true
  (fun _ _ => true) (fun _ _ _ _ _ => true) (fun _ _ _ _ _ => true) (fun _ _ _ _ => true) (fun _ => true)
  (fun _ _ _ _ _ => true) (fun _ => true) (fun _ _ _ => true) (fun _ _ => false) (fun _ _ => false) PUnit.unit (fun _ _ _ _ => PUnit.unit) v
theorem avLeaf_eq (v : AV) : avLeaf v = v.leaf := by cases v <;> rfl

/-- An object: a row? -/
def obRow (o : Option AObj) : (List AV → XR) → XR := Option.rec (motive := fun _ => (List AV → XR) → XR) (fun _ => .fail)
  (fun o => AObj.rec (motive := fun _ => (List AV → XR) → XR) (fun cs k => k cs) (fun _ _ _ => .fail) (fun _ _ _ _ _ _ _ _ => .fail) (fun _ _ => .fail) (fun _ _ _ => .fail) o) o
theorem obRow_eq (o : Option AObj) (k : List AV → XR) : obRow o k = (match o with | some (.row cs) => k cs | _ => .fail) := by
  cases o with
  | none => rfl
  | some o => cases o <;> rfl

def lnth {α : Type} (l : List α) : Nat → (α → XR) → XR := List.rec (motive := fun _ => Nat → (α → XR) → XR) (fun _ _ => .fail)
  (fun a _ ih n => Nat.rec (motive := fun _ => (α → XR) → XR) (fun k => k a) (fun n' _ => ih n') n) l
theorem lnth_eq {α : Type} (l : List α) : ∀ (n : Nat) (k : α → XR), lnth l n k = (match l[n]? with | some a => k a | none => .fail) := by
  induction l with
  | nil => intro n k; rfl
  | cons a l ih =>
    intro n k
    cases n with
    | zero => rfl
    | succ n => rw [List.getElem?_cons_succ, ← ih]; rfl

def llen {α : Type} (l : List α) : Nat := List.rec (motive := fun _ => Nat) 0 (fun _ _ ih => Nat.succ ih) l
theorem llen_eq {α : Type} (l : List α) : llen l = l.length := by
  induction l with
  | nil => rfl
  | cons a l ih => rw [List.length_cons, ← ih]; rfl

def ldrop {α : Type} (l : List α) : Nat → List α := List.rec (motive := fun _ => Nat → List α) (fun _ => []) (fun a l ih n => Nat.rec (motive := fun _ => List α) (a :: l) (fun n' _ => ih n') n) l
theorem ldrop_eq {α : Type} (l : List α) : ∀ n, ldrop l n = l.drop n := by
  induction l with
  | nil => intro n; simp; rfl
  | cons a l ih =>
    intro n
    cases n with
    | zero => rfl
    | succ n => rw [List.drop_succ_cons, ← ih]; rfl
def ltake {α : Type} (l : List α) : Nat → List α := List.rec (motive := fun _ => Nat → List α) (fun _ => []) (fun a _ ih n => Nat.rec (motive := fun _ => List α) [] (fun n' _ => a :: ih n') n) l
theorem ltake_eq {α : Type} (l : List α) : ∀ n, ltake l n = l.take n := by
  induction l with
  | nil => intro n; simp; rfl
  | cons a l ih =>
    intro n
    cases n with
    | zero => rfl
    | succ n => rw [List.take_succ_cons, ← ih]; rfl
def lset {α : Type} (l : List α) : Nat → α → List α := List.rec (motive := fun _ => Nat → α → List α) (fun _ _ => []) (fun a l ih n x => Nat.rec (motive := fun _ => List α) (x :: l) (fun n' _ => a :: ih n' x) n) l
theorem lset_eq {α : Type} (l : List α) : ∀ n x, lset l n x = l.set n x := by
  induction l with
  | nil => intro n x; rfl
  | cons a l ih =>
    intro n x
    cases n with
    | zero => rfl
    | succ n => rw [List.set_cons_succ, ← ih]; rfl

def sbeq (x : List UInt8) : List UInt8 → Bool := List.rec (motive := fun _ => List UInt8 → Bool) (fun y => List.rec (motive := fun _ => Bool) true (fun _ _ _ => false) y)
  (fun a _ ih y => List.rec (motive := fun _ => Bool) false (fun b ys _ => Bool.rec (motive := fun _ => Bool) false (ih ys) (Nat.beq a.toNat b.toNat)) y) x
theorem sbeq_eq (x : List UInt8) : ∀ y, sbeq x y = (x == y) := by
  induction x with
  | nil => intro y; cases y <;> rfl
  | cons a x ih =>
    intro y
    cases y with
    | nil => rfl
    | cons b y =>
      show (Bool.rec (motive := fun _ => Bool) false (sbeq x y) (Nat.beq a.toNat b.toNat) : Bool) = _
      rw [List.cons_beq_cons, ih]
      cases hb : Nat.beq a.toNat b.toNat with
      | true =>
        have := UInt8.toNat_inj.1 (Nat.eq_of_beq_eq_true hb)
        subst this
        simp
      | false =>
        have : (a == b) = false := by
          cases hab : a == b with
          | false => rfl
          | true =>
            have e := LawfulBEq.eq_of_beq hab
            subst e
            rw [Nat.beq_refl] at hb
            cases hb
        rw [this]; rfl

/-! ## operands -/
inductive XOpnd where
  | tmp (p : Pth)
  | val (v : AV)

def xe (x : XOpnd) : Tr AV → AV := XOpnd.rec (motive := fun _ => Tr AV → AV) (fun p => fget p) (fun v _ => v) x

def cop (E : Env P) : Operand → Option XOpnd
  | .tmp t => some (.tmp (path t))
  | .const v => match ofV v with
    | some a => some (.val a)
    | none => none
  | .global g => match E.glob g with
    | some (sz, elems) => some (.val (.fptr sz elems 0 0))
    | none => none
  | .func f => some (.val (.func f [] []))

abbrev fr0 (T : Tr AV) : TFr := ⟨0, T, []⟩
theorem teval_fr0 (E : Env P) (f : TFr) : teval E f = teval E (fr0 f.T) := by
  funext x
  cases x <;> rfl

theorem cop_ok {E : Env P} {x : Operand} {X : XOpnd} (h : cop E x = some X) (T : Tr AV) : teval E (fr0 T) x = some (xe X T) := by
  cases x with
  | tmp t =>
    cases h
    show some (TFr.get (fr0 T) t) = some (fget (path t) T)
    rw [fget_path]
    rfl
  | const v =>
    simp only [cop] at h
    cases hv : ofV v with
    | none => rw [hv] at h; cases h
    | some a => rw [hv] at h; cases h; simp only [teval, hv]; rfl
  | global g =>
    simp only [cop] at h
    cases hv : E.glob g with
    | none => rw [hv] at h; cases h
    | some a => rw [hv] at h; cases h; simp only [teval, hv]; rfl
  | func f => cases h; rfl

def cops (E : Env P) : List Operand → Option (List XOpnd)
  | [] => some []
  | x :: xs => match cop E x with
    | none => none
    | some X => match cops E xs with
      | none => none
      | some Xs => some (X :: Xs)

/-- Arguments, each made. -/
def xes (l : List XOpnd) : Tr AV → (List AV → XR) → XR := List.rec (motive := fun _ => Tr AV → (List AV → XR) → XR) (fun _ k => k [])
  (fun x _ ih T k => cps (xe x T) (fun v => ih T (fun vs => k (v :: vs)))) l

theorem cops_ok {E : Env P} (T : Tr AV) : ∀ {xs : List Operand} {Xs : List XOpnd}, cops E xs = some Xs → aargs (teval E (fr0 T)) xs = some (Xs.map fun X => xe X T)
  | [], _, h => by cases h; rfl
  | x :: xs, _, h => by
    simp only [cops] at h
    split at h
    · cases h
    · rename_i X hX
      split at h
      · cases h
      · rename_i Xs hXs
        cases h
        simp only [aargs, cop_ok hX T, cops_ok T hXs, List.map_cons]

theorem xes_eq (T : Tr AV) : ∀ (l : List XOpnd) (k : List AV → XR), xes l T k = k (l.map fun X => xe X T)
  | [], k => rfl
  | x :: l, k => by
    show cps (xe x T) (fun v => xes l T (fun vs => k (v :: vs))) = _
    rw [cps_eq, xes_eq T l]
    rfl

end
end Go.Abs

/- THE KERNEL's EVALUATOR, 3: operations, compiled. -/
namespace Go.Abs
variable {P : Program}
noncomputable section

inductive XBin where
  | add | sub | eql | neq | lss | leq | gtr | geq

def isub (k : IntKind) (a b : Int) : Int := Int.rec (motive := fun _ => Int) (fun m => Int.rec (motive := fun _ => Int)
    (fun n => Bool.rec (motive := fun _ => Int) (k.wrap (Int.ofNat m - Int.ofNat n)) (Bool.rec (motive := fun _ => Int) (k.wrap (Int.ofNat m - Int.ofNat n)) (.ofNat (Nat.sub m n)) (Nat.ble n m)) (Nat.ble m 127)) (fun n => k.wrap (Int.ofNat m - .negSucc n)) b) (fun m => k.wrap (.negSucc m - b)) a

theorem isub_eq (k : IntKind) (a b : Int) : isub k a b = k.wrap (a - b) := by
  cases a with
  | negSucc m => rfl
  | ofNat m =>
    cases b with
    | negSucc n => rfl
    | ofNat n =>
      show (Bool.rec (motive := fun _ => Int) (k.wrap (Int.ofNat m - Int.ofNat n)) (Bool.rec (motive := fun _ => Int) (k.wrap (Int.ofNat m - Int.ofNat n)) (.ofNat (Nat.sub m n)) (Nat.ble n m)) (Nat.ble m 127) : Int) = _
      cases hb : Nat.ble m 127 with
      | false => rfl
      | true =>
        cases hc : Nat.ble n m with
        | false => rfl
        | true =>
          have h1 := Nat.le_of_ble_eq_true hb
          have h2 := Nat.le_of_ble_eq_true hc
          show Int.ofNat (m - n) = k.wrap (Int.ofNat m - Int.ofNat n)
          have : Int.ofNat m - Int.ofNat n = Int.ofNat (m - n) := by
            show (m : Int) - (n : Int) = ((m - n : Nat) : Int)
            omega
          rw [this, wrap_small k (n := m - n) (by omega)]

def xint (b : XBin) : IntKind → Int → Int → AV := XBin.rec (motive := fun _ => IntKind → Int → Int → AV)
  (fun k x y => .int k (iadd k x y)) (fun k x y => .int k (isub k x y)) (fun _ x y => .bool (ieq x y)) (fun _ x y => .bool (not (ieq x y)))
  (fun _ x y => .bool (not (ile y x))) (fun _ x y => .bool (ile x y)) (fun _ x y => .bool (not (ile x y))) (fun _ x y => .bool (ile y x)) b

def XBin.op : XBin → BinOp
  | .add => .add | .sub => .sub | .eql => .eql | .neq => .neq | .lss => .lss | .leq => .leq | .gtr => .gtr | .geq => .geq

theorem xint_eq (b : XBin) (k : IntKind) (x y : Int) : aarith b.op k x y = some (xint b k x y) := by
  cases b <;> simp only [XBin.op, aarith, xint, iadd_eq, isub_eq, ieq_eq, ile_eq, Option.some.injEq, AV.bool.injEq]
  · rfl
  · rw [Bool.eq_iff_iff]; simp
  · rw [Bool.eq_iff_iff]; simp

def xstr (b : XBin) : List UInt8 → List UInt8 → XR → (AV → XR) → XR := XBin.rec (motive := fun _ => List UInt8 → List UInt8 → XR → (AV → XR) → XR)
  (fun _ _ d _ => d) (fun _ _ d _ => d) (fun x y _ k => k (.bool (sbeq x y))) (fun x y _ k => k (.bool (not (sbeq x y)))) (fun _ _ d _ => d) (fun _ _ d _ => d) (fun _ _ d _ => d) (fun _ _ d _ => d) b

inductive XOp where
  | mov (x : XOpnd)
  | pick (c a b : XOpnd)
  | load1 (x : XOpnd)
  | loadN (x : XOpnd) (n : Nat)
  | faddr (x : XOpnd) (off : Nat)
  | fld1 (x : XOpnd) (off : Nat)
  | fldN (x : XOpnd) (off n : Nat)
  | bin (b : XBin) (x y : XOpnd) (o : Oper)
  | not (x : XOpnd)
  | store1 (x v : XOpnd)
  | box (x : XOpnd)
  | alloc (cells : List AV)
  | lenS (x : XOpnd)
  | lenL (x : XOpnd) (o : Oper)
  | call (f : XOpnd) (args : List XOpnd)
  | iaddr (x i : XOpnd) (sz : Nat) (o : Oper)
  | idx (x i : XOpnd)
  | extract (x : XOpnd) (i : Nat)
  | mkfn (f : FuncId) (a b : List XOpnd)
  | gen (o : Oper)

/-- The continuations: a value and the state; whatever else. -/
abbrev KV := AV → Nat → Tr AObj → XR
abbrev KN := ANext → ASt → XR

def xgen (E : Env P) (o : Oper) (T : Tr AV) (nx : Nat) (H : Tr AObj) (kn : KN) : XR :=
  Option.rec (motive := fun _ => KN → XR) (fun _ => .fail) (fun p kn => Prod.rec (motive := fun _ => KN → XR) (fun n st kn => kn n st) p kn) (aop E (teval E (fr0 T)) ⟨nx, H⟩ o.op) kn

def x_load1 (x : XOpnd) (T : Tr AV) (nx : Nat) (H : Tr AObj) (kv : KV) : XR :=
  avPtr (xe x T) (fun id off => obRow (H.xget id) (fun cs => lnth cs off (fun v => kv v nx H))) (fun _ es i j => lnth es i (fun e => lnth e.cells j (fun v => kv v nx H)))
def x_part (cs : List AV) (off n : Nat) (k : AV → XR) : XR := Bool.rec (motive := fun _ => (AV → XR) → XR) (fun _ => .fail) (fun k => k (.agg (ltake (ldrop cs off) n))) (Nat.ble (Nat.add off n) (llen cs)) k
def x_loadN (x : XOpnd) (n : Nat) (T : Tr AV) (nx : Nat) (H : Tr AObj) (kv : KV) : XR :=
  avPtr (xe x T) (fun id off => obRow (H.xget id) (fun cs => x_part cs off n (fun v => kv v nx H))) (fun _ es i j => lnth es i (fun e => x_part e.cells j n (fun v => kv v nx H)))
def x_store1 (x v : XOpnd) (T : Tr AV) (nx : Nat) (H : Tr AObj) (kn : KN) : XR :=
  avPtr (xe x T) (fun id off => obRow (H.xget id) (fun cs => cps (xe v T) (fun a => Bool.rec (motive := fun _ => KN → XR) (fun _ => .fail)
    (fun kn => Bool.rec (motive := fun _ => KN → XR) (fun _ => .fail) (fun kn => kn .skip ⟨nx, H.xset (some (.row (lset cs off a))) id⟩) (Nat.ble (Nat.succ off) (llen cs)) kn) (avLeaf a) kn))) (fun _ _ _ _ => .fail)
def x_bin (E : Env P) (b : XBin) (x y : XOpnd) (o : Oper) (T : Tr AV) (nx : Nat) (H : Tr AObj) (kv : KV) (kn : KN) : XR :=
  avNum (xe x T)
    (fun k m => avNum (xe y T) (fun k' n => Bool.rec (motive := fun _ => KV → XR) (fun _ => .fail) (fun kv => kv (xint b k m n) nx H) (keq k k') kv) (fun _ => .fail) .fail)
    (fun s => avNum (xe y T) (fun _ _ => .fail) (fun t => xstr b s t (xgen E o T nx H kn) (fun v => kv v nx H)) .fail)
    (xgen E o T nx H kn)
def x_lenL (E : Env P) (x : XOpnd) (o : Oper) (T : Tr AV) (nx : Nat) (H : Tr AObj) (kv : KV) (kn : KN) : XR :=
  avSlc (xe x T) (fun _ _ len _ => kv (.int .i64 (.ofNat len)) nx H) (fun _ es => kv (.int .i64 (.ofNat (llen es))) nx H) (xgen E o T nx H kn)
def x_iaddr (E : Env P) (x i : XOpnd) (sz : Nat) (o : Oper) (T : Tr AV) (nx : Nat) (H : Tr AObj) (kv : KV) (kn : KN) : XR :=
  avSlc (xe x T)
    (fun id off len s => avNum (xe i T) (fun _ n => Int.rec (motive := fun _ => KV → XR) (fun n kv => Bool.rec (motive := fun _ => KV → XR) (fun _ => .fail)
      (fun kv => Bool.rec (motive := fun _ => KV → XR) (fun _ => .fail) (fun kv => kv (.ptr id (Nat.add off (Nat.mul n s))) nx H) (Nat.beq sz s) kv) (Nat.ble (Nat.succ n) len) kv) (fun _ _ => .fail) n kv) (fun _ => .fail) .fail)
    (fun s es => avNum (xe i T) (fun _ n => Int.rec (motive := fun _ => KV → XR) (fun n kv => Bool.rec (motive := fun _ => KV → XR) (fun _ => .fail)
      (fun kv => Bool.rec (motive := fun _ => KV → XR) (fun _ => .fail) (fun kv => kv (.fptr s es n 0) nx H) (Nat.beq sz s) kv) (Nat.ble (Nat.succ n) (llen es)) kv) (fun _ _ => .fail) n kv) (fun _ => .fail) .fail)
    (xgen E o T nx H kn)
def x_idx (x i : XOpnd) (T : Tr AV) (nx : Nat) (H : Tr AObj) (kv : KV) : XR :=
  avNum (xe x T) (fun _ _ => .fail) (fun s => avNum (xe i T) (fun _ n => Int.rec (motive := fun _ => KV → XR) (fun n kv => lnth s n (fun b => kv (.int .u8 (.ofNat b.toNat)) nx H)) (fun _ _ => .fail) n kv) (fun _ => .fail) .fail) .fail

def xop (E : Env P) (x : XOp) : Tr AV → Nat → Tr AObj → KV → KN → XR := XOp.rec (motive := fun _ => Tr AV → Nat → Tr AObj → KV → KN → XR)
  (fun x T nx H kv _ => cps (xe x T) (fun v => kv v nx H))
  (fun c a b T nx H kv _ => avBool (xe c T) (fun t => cps (Bool.rec (motive := fun _ => AV) (xe b T) (xe a T) t) (fun v => kv v nx H)))
  (fun x T nx H kv _ => x_load1 x T nx H kv)
  (fun x n T nx H kv _ => x_loadN x n T nx H kv)
  (fun x n T nx H kv _ => avPtr (xe x T) (fun id off => kv (.ptr id (Nat.add off n)) nx H) (fun sz es i j => kv (.fptr sz es i (Nat.add j n)) nx H))
  (fun x off T nx H kv _ => avAgg (xe x T) (fun cs => lnth cs off (fun v => kv v nx H)) (fun _ => .fail))
  (fun x off n T nx H kv _ => avAgg (xe x T) (fun cs => kv (.agg (ltake (ldrop cs off) n)) nx H) (fun _ => .fail))
  (fun b x y o T nx H kv kn => x_bin E b x y o T nx H kv kn)
  (fun x T nx H kv _ => avBool (xe x T) (fun t => kv (.bool (Bool.rec (motive := fun _ => Bool) true false t)) nx H))
  (fun x v T nx H _ kn => x_store1 x v T nx H kn)
  (fun x T nx H kv _ => cps (xe x T) (fun v => kv (.ptr nx 0) (Nat.succ nx) (H.xset (some (.row v.cells)) nx)))
  (fun cs _ nx H kv _ => kv (.ptr nx 0) (Nat.succ nx) (H.xset (some (.row cs)) nx))
  (fun x T nx H kv _ => avNum (xe x T) (fun _ _ => .fail) (fun s => kv (.int .i64 (.ofNat (llen s))) nx H) .fail)
  (fun x o T nx H kv kn => x_lenL E x o T nx H kv kn)
  (fun f l T nx H _ kn => avFunc (xe f T) (fun g a b => xes l T (fun vs => kn (.call g (a ++ vs ++ b)) ⟨nx, H⟩)) (fun y => xes l T (fun vs => kn (.yield y vs) ⟨nx, H⟩)))
  (fun x i sz o T nx H kv kn => x_iaddr E x i sz o T nx H kv kn)
  (fun x i T nx H kv _ => x_idx x i T nx H kv)
  (fun x i T nx H kv _ => avAgg (xe x T) (fun _ => .fail) (fun vs => lnth vs i (fun v => kv v nx H)))
  (fun f a b T nx H kv _ => xes a T (fun as => xes b T (fun bs => kv (.func f as bs) nx H)))
  (fun o T nx H _ kn => xgen E o T nx H kn) x

def xbinOf : BinOp → Option XBin
  | .add => some .add | .sub => some .sub | .eql => some .eql | .neq => some .neq | .lss => some .lss | .leq => some .leq | .gtr => some .gtr | .geq => some .geq
  | _ => none

def nilConst : Operand → Bool
  | .const (.slice none _ _) => true
  | _ => false

/-- One operation, compiled. -/
def cxop (E : Env P) (o : Oper) : XOp :=
  match o.op with
  | .move x => match cop E x with | some X => .mov X | none => .gen o
  | .assign x => match cop E x with | some X => .mov X | none => .gen o
  | .pick c a b => match cop E c, cop E a, cop E b with
    | some C, some A, some B => .pick C A B
    | _, _, _ => .gen o
  | .load t x => match cop E x, E.isAgg t, E.size t with
    | some X, some false, _ => .load1 X
    | some X, some true, some n => .loadN X n
    | _, _, _ => .gen o
  | .fieldAddr s x f => match E.und s with
    | some (.struct fields) => match fields[f]? with
      | some fd => match E.size fd.type, cop E x with
        | some (_ + 1), some X => .faddr X fd.offset
        | _, _ => .gen o
      | none => .gen o
    | _ => .gen o
  | .field s x f => match E.und s with
    | some (.struct fields) => match fields[f]? with
      | some fd => match E.isAgg fd.type, E.size fd.type, cop E x with
        | some false, _, some X => .fld1 X fd.offset
        | some true, some n, some X => .fldN X fd.offset n
        | _, _, _ => .gen o
      | none => .gen o
    | _ => .gen o
  | .binOp op _ x y _ => match nilConst y with
    | true => .gen o
    | false => match xbinOf op, cop E x, cop E y with
      | some b, some X, some Y => .bin b X Y o
      | _, _, _ => .gen o
  | .unOp op _ x => match op, cop E x with
    | .not, some X => .not X
    | _, _ => .gen o
  | .store t x v => match E.isAgg t, E.size t, cop E x, cop E v with
    | some false, some 1, some X, some V => .store1 X V
    | _, _, _, _ => .gen o
  | .box _ x => match cop E x with | some X => .box X | none => .gen o
  | .alloc t => match E.zero t with | some z => .alloc z.cells | none => .gen o
  | .call { callee := .builtin b, args, argTypes } => match b, args.toList, argTypes.toList with
    | .len, [x], [t] => match E.und t, cop E x with
      | some .string, some X => .lenS X
      | some (.slice _), some X => .lenL X o
      | _, _ => .gen o
    | _, _, _ => .gen o
  | .call { callee := .value f, args, .. } => match cop E f, cops E args.toList with
    | some X, some Xs => .call X Xs
    | _, _ => .gen o
  | .indexAddr t x i => match E.und t with
    | some (.slice elem) => match E.size elem, cop E x, cop E i with
      | some sz, some X, some I => .iaddr X I sz o
      | _, _, _ => .gen o
    | _ => .gen o
  | .index t x i => match E.und t with
    | some .string => match cop E x, cop E i with
      | some X, some I => .idx X I
      | _, _ => .gen o
    | _ => .gen o
  | .extract x i => match cop E x with | some X => .extract X i | none => .gen o
  | .makeFunc (.func f) a b => match cops E a.toList, cops E b.toList with
    | some A, some B => .mkfn f A B
    | _, _ => .gen o
  | _ => .gen o

/-- What a compiled operation comes to is what the operation comes to. -/
def XGood (E : Env P) (o : Oper) (T : Tr AV) (nx : Nat) (H : Tr AObj) (kn : KN) (r : XR) : Prop :=
  ∃ n st', aop E (teval E (fr0 T)) ⟨nx, H⟩ o.op = some (n, st') ∧ r = kn n st'

theorem xgen_ok {E : Env P} {o : Oper} {T : Tr AV} {nx : Nat} {H : Tr AObj} {kn : KN} {r : XR} (h : xgen E o T nx H kn = r) (hr : r ≠ .fail) : XGood E o T nx H kn r := by
  unfold xgen at h
  cases ha : aop E (teval E (fr0 T)) ⟨nx, H⟩ o.op with
  | none => rw [ha] at h; exact absurd h.symm hr
  | some p =>
    obtain ⟨n, st'⟩ := p
    rw [ha] at h
    exact ⟨n, st', ha, h.symm⟩

theorem lnth_ok {α : Type} {l : List α} {n : Nat} {k : α → XR} {r : XR} (h : lnth l n k = r) (hr : r ≠ .fail) : ∃ a, l[n]? = some a ∧ r = k a := by
  rw [lnth_eq] at h
  cases ha : l[n]? with
  | none => rw [ha] at h; exact absurd h.symm hr
  | some a => rw [ha] at h; exact ⟨a, rfl, h.symm⟩

theorem obRow_ok {o : Option AObj} {k : List AV → XR} {r : XR} (h : obRow o k = r) (hr : r ≠ .fail) : ∃ cs, o = some (.row cs) ∧ r = k cs := by
  rw [obRow_eq] at h
  split at h
  · exact ⟨_, rfl, h.symm⟩
  · exact absurd h.symm hr

theorem avPtr_ok {v : AV} {k : Nat → Nat → XR} {k2 : Nat → List AV → Nat → Nat → XR} {r : XR} (h : avPtr v k k2 = r) (hr : r ≠ .fail) :
    (∃ id off, v = .ptr id off ∧ k id off = r) ∨ (∃ sz es i j, v = .fptr sz es i j ∧ k2 sz es i j = r) := by
  rw [avPtr_eq] at h
  split at h
  · exact .inl ⟨_, _, rfl, h⟩
  · exact .inr ⟨_, _, _, _, rfl, h⟩
  · exact absurd h.symm hr

theorem avSlc_ok {v : AV} {k : Nat → Nat → Nat → Nat → XR} {k2 : Nat → List AV → XR} {d r : XR} (h : avSlc v k k2 d = r) :
    (∃ id off len sz x, v = .oslc id off len sz x ∧ k id off len sz = r) ∨ (∃ sz es x, v = .fslc sz es x ∧ k2 sz es = r) ∨ d = r := by
  rw [avSlc_eq] at h
  split at h
  · exact .inl ⟨_, _, _, _, _, rfl, h⟩
  · exact .inr (.inl ⟨_, _, _, rfl, h⟩)
  · exact .inr (.inr h)

theorem avNum_ok {v : AV} {ki : IntKind → Int → XR} {ks : List UInt8 → XR} {d r : XR} (h : avNum v ki ks d = r) :
    (∃ k n, v = .int k n ∧ ki k n = r) ∨ (∃ s, v = .str s ∧ ks s = r) ∨ d = r := by
  rw [avNum_eq] at h
  split at h
  · exact .inl ⟨_, _, rfl, h⟩
  · exact .inr (.inl ⟨_, rfl, h⟩)
  · exact .inr (.inr h)

theorem brecK {α : Type} {b : Bool} {x : α → XR} {a : α} {r : XR} (h : (Bool.rec (motive := fun _ => α → XR) (fun _ => .fail) x b a : XR) = r) (hr : r ≠ .fail) : b = true ∧ x a = r := by
  cases b with
  | false => exact absurd h.symm hr
  | true => exact ⟨rfl, h⟩

theorem irecK {α : Type} {n : Int} {x : Nat → α → XR} {a : α} {r : XR} (h : (Int.rec (motive := fun _ => α → XR) x (fun _ _ => .fail) n a : XR) = r) (hr : r ≠ .fail) : ∃ m : Nat, n = Int.ofNat m ∧ x m a = r := by
  cases n with
  | negSucc _ => exact absurd h.symm hr
  | ofNat m => exact ⟨m, rfl, h⟩

theorem pureGood {E : Env P} {o : Oper} {T : Tr AV} {nx : Nat} {H : Tr AObj} {kv : KV} {kn : KN} (hk : ∀ v n h, kv v n h = kn (.value v) ⟨n, h⟩) {v : AV} (h : apure E (teval E (fr0 T)) o.op = some v) :
    XGood E o T nx H kn (kv v nx H) :=
  ⟨.value v, ⟨nx, H⟩, by unfold aop; rw [h], hk _ _ _⟩

theorem readGood {E : Env P} {o : Oper} {T : Tr AV} {nx : Nat} {H : Tr AObj} {kv : KV} {kn : KN} (hk : ∀ v n h, kv v n h = kn (.value v) ⟨n, h⟩) {v : AV} (h0 : apure E (teval E (fr0 T)) o.op = none)
    (h1 : aalloc E (teval E (fr0 T)) nx o.op = none) (h : aread E (teval E (fr0 T)) ⟨nx, H⟩ o.op = some v) : XGood E o T nx H kn (kv v nx H) :=
  ⟨.value v, ⟨nx, H⟩, by unfold aop; simp only [h0, h1, h], hk _ _ _⟩

theorem x_load1_ok {E : Env P} {o : Oper} {t : TypeId} {x : Operand} (ho : o.op = .load t x) {X : XOpnd} (hX : cop E x = some X) (ha : E.isAgg t = some false) {T : Tr AV} {nx : Nat} {H : Tr AObj} {kv : KV} {kn : KN} {r : XR}
    (hk : ∀ v n h, kv v n h = kn (.value v) ⟨n, h⟩) (h : x_load1 X T nx H kv = r) (hr : r ≠ .fail) : XGood E o T nx H kn r := by
  unfold x_load1 at h
  have key : ∀ v, aload E ⟨nx, H⟩ t (xe X T) = some v → XGood E o T nx H kn (kv v nx H) := fun v hv => by
    refine readGood hk (by rw [ho]; rfl) (by rw [ho]; rfl) ?_
    rw [ho]
    simp only [aread, cop_ok hX T, Option.bind_some, hv]
  rcases avPtr_ok h hr with ⟨id, off, hv, h⟩ | ⟨sz, es, i, j, hv, h⟩
  · obtain ⟨cs, h1, rfl⟩ := obRow_ok h hr
    obtain ⟨a, h2, h3⟩ := lnth_ok rfl hr
    rw [h3]
    refine key a ?_
    rw [hv]
    have : ASt.get ⟨nx, H⟩ id = some (.row cs) := by
      show Tr.get H id = _
      rw [← Tr.xget_eq, h1]
    simp only [aload, this, aloadRow, ha, h2]
  · obtain ⟨e, h1, rfl⟩ := lnth_ok h hr
    obtain ⟨a, h2, h3⟩ := lnth_ok rfl hr
    rw [h3]
    refine key a ?_
    rw [hv]
    simp only [aload, h1, aloadRow, ha, h2]

theorem x_part_ok {cs : List AV} {off n : Nat} {k : AV → XR} {r : XR} (h : x_part cs off n k = r) (hr : r ≠ .fail) : off + n ≤ cs.length ∧ r = k (.agg ((cs.drop off).take n)) := by
  unfold x_part at h
  obtain ⟨h1, h2⟩ := brecK h hr
  rw [llen_eq] at h1
  rw [ltake_eq, ldrop_eq] at h2
  exact ⟨Nat.le_of_ble_eq_true h1, h2.symm⟩

theorem x_loadN_ok {E : Env P} {o : Oper} {t : TypeId} {x : Operand} (ho : o.op = .load t x) {X : XOpnd} (hX : cop E x = some X) {n : Nat} (ha : E.isAgg t = some true) (hn : E.size t = some n) {T : Tr AV} {nx : Nat} {H : Tr AObj} {kv : KV} {kn : KN} {r : XR}
    (hk : ∀ v n h, kv v n h = kn (.value v) ⟨n, h⟩) (h : x_loadN X n T nx H kv = r) (hr : r ≠ .fail) : XGood E o T nx H kn r := by
  unfold x_loadN at h
  have key : ∀ v, aload E ⟨nx, H⟩ t (xe X T) = some v → XGood E o T nx H kn (kv v nx H) := fun v hv => by
    refine readGood hk (by rw [ho]; rfl) (by rw [ho]; rfl) ?_
    rw [ho]
    simp only [aread, cop_ok hX T, Option.bind_some, hv]
  rcases avPtr_ok h hr with ⟨id, off, hv, h⟩ | ⟨sz, es, i, j, hv, h⟩
  · obtain ⟨cs, h1, rfl⟩ := obRow_ok h hr
    obtain ⟨h2, h3⟩ := x_part_ok rfl hr
    rw [h3]
    refine key _ ?_
    rw [hv]
    have : ASt.get ⟨nx, H⟩ id = some (.row cs) := by
      show Tr.get H id = _
      rw [← Tr.xget_eq, h1]
    simp only [aload, this, aloadRow, ha, hn, h2, if_true]
  · obtain ⟨e, h1, rfl⟩ := lnth_ok h hr
    obtain ⟨h2, h3⟩ := x_part_ok rfl hr
    rw [h3]
    refine key _ ?_
    rw [hv]
    simp only [aload, h1, aloadRow, ha, hn, h2, if_true]

theorem x_store1_ok {E : Env P} {o : Oper} {t : TypeId} {x v : Operand} (ho : o.op = .store t x v) {X V : XOpnd} (hX : cop E x = some X) (hV : cop E v = some V) (hn : E.size t = some 1) {T : Tr AV} {nx : Nat} {H : Tr AObj} {kn : KN} {r : XR}
    (h : x_store1 X V T nx H kn = r) (hr : r ≠ .fail) : XGood E o T nx H kn r := by
  unfold x_store1 at h
  rcases avPtr_ok h hr with ⟨id, off, hv, h⟩ | ⟨sz, es, i, j, hv, h⟩
  · obtain ⟨cs, h1, rfl⟩ := obRow_ok h hr
    generalize hq : cps (xe V T) _ = q at hr ⊢
    rw [cps_eq] at hq
    obtain ⟨h2, h3⟩ := brecK hq hr
    obtain ⟨h4, h5⟩ := brecK h3 hr
    rw [avLeaf_eq] at h2
    rw [llen_eq] at h4
    have hlt : off + 1 ≤ cs.length := Nat.le_of_ble_eq_true h4
    have hget : ASt.get ⟨nx, H⟩ id = some (.row cs) := by
      show Tr.get H id = _
      rw [← Tr.xget_eq, h1]
    have hcells : (xe V T).cells = [xe V T] := by
      generalize xe V T = a at h2
      cases a <;> first | rfl | (simp [AV.leaf] at h2)
    refine ⟨.skip, _, ?_, h5.symm⟩
    have e1 : apure E (teval E (fr0 T)) o.op = none := by rw [ho]; rfl
    have e2 : aalloc E (teval E (fr0 T)) nx o.op = none := by rw [ho]; rfl
    have e3 : aread E (teval E (fr0 T)) ⟨nx, H⟩ o.op = none := by rw [ho]; rfl
    have e4 : aeffect E (teval E (fr0 T)) ⟨nx, H⟩ o.op = some (none, ⟨nx, H.xset (some (.row (lset cs off (xe V T)))) id⟩) := by
      rw [ho]
      simp only [aeffect, cop_ok hX T, cop_ok hV T, hv, astore, hget, hn, hcells]
      rw [if_pos ⟨rfl, hlt, by simp [h2]⟩]
      simp only [Option.map_some, awrite, ASt.put]
      rw [Tr.xset_eq, lset_eq]
    unfold aop
    simp only [e1, e2, e3, e4]
  · exact absurd h.symm hr

theorem x_bin_ok {E : Env P} {o : Oper} {op : BinOp} {t t2 : TypeId} {x y : Operand} (ho : o.op = .binOp op t x y t2) (hy : nilConst y = false) {b : XBin} (hb : xbinOf op = some b) {X Y : XOpnd} (hX : cop E x = some X) (hY : cop E y = some Y)
    {T : Tr AV} {nx : Nat} {H : Tr AObj} {kv : KV} {kn : KN} {r : XR} (hk : ∀ v n h, kv v n h = kn (.value v) ⟨n, h⟩) (h : x_bin E b X Y o T nx H kv kn = r) (hr : r ≠ .fail) : XGood E o T nx H kn r := by
  unfold x_bin at h
  have hop : op = b.op := by
    cases op <;> first | (cases hb; rfl) | cases hb
  have hp : apure E (teval E (fr0 T)) o.op = abinop E op t (xe X T) (xe Y T) (isConst x || isConst y) := by
    rw [ho]
    have : ∀ ρ : Operand → Option AV, apure E ρ (.binOp op t x y t2) = match ρ x, ρ y with | some a, some b => abinop E op t a b (isConst x || isConst y) | _, _ => none := by
      intro ρ
      cases y with
      | const v =>
        cases v with
        | slice a l c =>
          cases a with
          | none => simp [nilConst] at hy
          | some a => rfl
        | _ => rfl
      | _ => rfl
    rw [this, cop_ok hX T, cop_ok hY T]
  rcases avNum_ok h with ⟨k, m, hx, h⟩ | ⟨s, hx, h⟩ | h
  · rcases avNum_ok h with ⟨k', n, hy', h⟩ | ⟨s, _, h⟩ | h
    · obtain ⟨h1, rfl⟩ := brecK h hr
      have := keq_iff h1
      subst this
      refine pureGood hk ?_
      rw [hp, hx, hy', ← xint_eq, hop]
      cases b <;> simp [abinop, XBin.op]
    · exact absurd h.symm hr
    · exact absurd h.symm hr
  · rcases avNum_ok h with ⟨_, _, _, h⟩ | ⟨s', hy', h⟩ | h
    · exact absurd h.symm hr
    · cases b with
      | eql =>
        have h : kv (.bool (sbeq s s')) nx H = r := h
        rw [← h]
        refine pureGood hk ?_
        rw [hp, hx, hy', hop, sbeq_eq]
        simp [abinop, XBin.op, astrOp]
      | neq =>
        have h : kv (.bool (not (sbeq s s'))) nx H = r := h
        rw [← h]
        refine pureGood hk ?_
        rw [hp, hx, hy', hop, sbeq_eq]
        simp [abinop, XBin.op, astrOp]
      | _ => exact xgen_ok h hr
    · exact absurd h.symm hr
  · exact xgen_ok h hr

end
end Go.Abs

/- THE KERNEL's EVALUATOR, 4: every compiled operation is sound; operations in a row. -/
namespace Go.Abs
variable {P : Program}
noncomputable section

theorem avAgg_ok {v : AV} {k k2 : List AV → XR} {r : XR} (h : avAgg v k k2 = r) (hr : r ≠ .fail) : (∃ cs, v = .agg cs ∧ k cs = r) ∨ (∃ vs, v = .tup vs ∧ k2 vs = r) := by
  rw [avAgg_eq] at h
  split at h
  · exact .inl ⟨_, rfl, h⟩
  · exact .inr ⟨_, rfl, h⟩
  · exact absurd h.symm hr

theorem avFunc_ok {v : AV} {k : FuncId → List AV → List AV → XR} {k2 : Nat → XR} {r : XR} (h : avFunc v k k2 = r) (hr : r ≠ .fail) : (∃ f a b, v = .func f a b ∧ k f a b = r) ∨ (∃ l, v = .yield l ∧ k2 l = r) := by
  rw [avFunc_eq] at h
  split at h
  · exact .inl ⟨_, _, _, rfl, h⟩
  · exact .inr ⟨_, rfl, h⟩
  · exact absurd h.symm hr

theorem x_lenL_ok {E : Env P} {o : Oper} {t : TypeId} {e : TypeId} {x : Operand} {c : Call} (ho : o.op = .call c) (hc : c.callee = .builtin .len) (ha : c.args.toList = [x]) (hts : c.argTypes.toList = [t]) (hu : E.und t = some (.slice e)) {X : XOpnd} (hX : cop E x = some X)
    {T : Tr AV} {nx : Nat} {H : Tr AObj} {kv : KV} {kn : KN} {r : XR} (hk : ∀ v n h, kv v n h = kn (.value v) ⟨n, h⟩) (h : x_lenL E X o T nx H kv kn = r) (hr : r ≠ .fail) : XGood E o T nx H kn r := by
  unfold x_lenL at h
  have key : ∀ v, alen E t (xe X T).norm = some v → XGood E o T nx H kn (kv v nx H) := fun v hv => by
    refine pureGood hk ?_
    obtain ⟨callee, args, argTypes⟩ := c
    simp only at hc ha hts
    subst hc
    rw [ho]
    simp only [apure, ha, hts, aargs, rnorm, cop_ok hX T, Option.bind_some, abuiltin, hv]
  rcases avSlc_ok h with ⟨id, off, len, sz, x', hv, h⟩ | ⟨sz, es, x', hv, h⟩ | h
  · rw [← h]
    refine key _ ?_
    rw [hv]
    simp only [AV.norm, alen, hu]
    rfl
  · rw [← h, llen_eq]
    refine key _ ?_
    rw [hv]
    simp only [AV.norm, alen, hu]
    rfl
  · exact xgen_ok h hr

theorem x_iaddr_ok {E : Env P} {o : Oper} {t e : TypeId} {x i : Operand} (ho : o.op = .indexAddr t x i) (hu : E.und t = some (.slice e)) {sz : Nat} (hs : E.size e = some sz) {X I : XOpnd} (hX : cop E x = some X) (hI : cop E i = some I)
    {T : Tr AV} {nx : Nat} {H : Tr AObj} {kv : KV} {kn : KN} {r : XR} (hk : ∀ v n h, kv v n h = kn (.value v) ⟨n, h⟩) (h : x_iaddr E X I sz o T nx H kv kn = r) (hr : r ≠ .fail) : XGood E o T nx H kn r := by
  unfold x_iaddr at h
  have key : ∀ v, aindexAddr E t (xe X T) (xe I T) = some v → XGood E o T nx H kn (kv v nx H) := fun v hv => by
    refine pureGood hk ?_
    rw [ho]
    simp only [apure, cop_ok hX T, cop_ok hI T, hv]
  rcases avSlc_ok h with ⟨id, off, len, s, x', hv, h⟩ | ⟨s, es, x', hv, h⟩ | h
  · rcases avNum_ok h with ⟨k, n, hi, h⟩ | ⟨_, _, h⟩ | h
    · obtain ⟨m, rfl, h⟩ := irecK h hr
      obtain ⟨h1, h⟩ := brecK h hr
      obtain ⟨h2, h⟩ := brecK h hr
      have hlt : m + 1 ≤ len := Nat.le_of_ble_eq_true h1
      have hse : sz = s := Nat.eq_of_beq_eq_true h2
      subst hse
      rw [← h]
      refine key _ ?_
      rw [hv, hi]
      simp only [aindexAddr, hu, hs]
      rw [if_neg (by have : Int.ofNat m ≥ 0 := Int.natCast_nonneg m; omega), if_pos ⟨hlt, trivial⟩]
      rfl
    · exact absurd h.symm hr
    · exact absurd h.symm hr
  · rcases avNum_ok h with ⟨k, n, hi, h⟩ | ⟨_, _, h⟩ | h
    · obtain ⟨m, rfl, h⟩ := irecK h hr
      obtain ⟨h1, h⟩ := brecK h hr
      obtain ⟨h2, h⟩ := brecK h hr
      rw [llen_eq] at h1
      have hlt : m + 1 ≤ es.length := Nat.le_of_ble_eq_true h1
      have hse : sz = s := Nat.eq_of_beq_eq_true h2
      subst hse
      rw [← h]
      refine key _ ?_
      rw [hv, hi]
      simp only [aindexAddr, hu, hs]
      rw [if_neg (by have : Int.ofNat m ≥ 0 := Int.natCast_nonneg m; omega), if_pos ⟨hlt, trivial⟩]
      rfl
    · exact absurd h.symm hr
    · exact absurd h.symm hr
  · exact xgen_ok h hr

theorem x_idx_ok {E : Env P} {o : Oper} {t : TypeId} {x i : Operand} (ho : o.op = .index t x i) (hu : E.und t = some .string) {X I : XOpnd} (hX : cop E x = some X) (hI : cop E i = some I)
    {T : Tr AV} {nx : Nat} {H : Tr AObj} {kv : KV} {kn : KN} {r : XR} (hk : ∀ v n h, kv v n h = kn (.value v) ⟨n, h⟩) (h : x_idx X I T nx H kv = r) (hr : r ≠ .fail) : XGood E o T nx H kn r := by
  unfold x_idx at h
  rcases avNum_ok h with ⟨_, _, _, h⟩ | ⟨s, hx, h⟩ | h
  · exact absurd h.symm hr
  · rcases avNum_ok h with ⟨k, n, hi, h⟩ | ⟨_, _, h⟩ | h
    · obtain ⟨m, rfl, h⟩ := irecK h hr
      obtain ⟨b, h1, h⟩ := lnth_ok h hr
      rw [h]
      refine pureGood hk ?_
      rw [ho]
      simp only [apure, cop_ok hX T, cop_ok hI T, hx, hi, aindex, hu]
      rw [if_neg (by have : Int.ofNat m ≥ 0 := Int.natCast_nonneg m; omega)]
      have : (Int.ofNat m).toNat = m := rfl
      rw [this, h1]
      rfl
    · exact absurd h.symm hr
    · exact absurd h.symm hr
  · exact absurd h.symm hr

theorem faddr_ok {E : Env P} {o : Oper} {s : TypeId} {x : Operand} {f : Nat} (ho : o.op = .fieldAddr s x f) {fields : Array Field} (hu : E.und s = some (.struct fields)) {fd : Field} (hf : fields[f]? = some fd) {n : Nat} (hn : E.size fd.type = some (n + 1)) {X : XOpnd} (hX : cop E x = some X)
    {T : Tr AV} {nx : Nat} {H : Tr AObj} {kv : KV} {kn : KN} {r : XR} (hk : ∀ v n h, kv v n h = kn (.value v) ⟨n, h⟩) (h : xop E (.faddr X fd.offset) T nx H kv kn = r) (hr : r ≠ .fail) : XGood E o T nx H kn r := by
  have key : ∀ v, ashift (xe X T) fd.offset = some v → XGood E o T nx H kn (kv v nx H) := fun v hv => by
    refine pureGood hk ?_
    rw [ho]
    simp only [apure, cop_ok hX T, Option.bind_some, afieldAddr, hu, hf, hn, hv]
  rcases avPtr_ok h hr with ⟨id, off, hv, h⟩ | ⟨sz, es, i, j, hv, h⟩
  · rw [← h]; exact key _ (by rw [hv]; rfl)
  · rw [← h]; exact key _ (by rw [hv]; rfl)

theorem fld_ok {E : Env P} {o : Oper} {s : TypeId} {x : Operand} {f : Nat} (ho : o.op = .field s x f) {fields : Array Field} (hu : E.und s = some (.struct fields)) {fd : Field} (hf : fields[f]? = some fd) {X : XOpnd} (hX : cop E x = some X)
    {T : Tr AV} {nx : Nat} {H : Tr AObj} {kv : KV} {kn : KN} {cs : List AV} (hcs : xe X T = .agg cs) {v : AV} (hv : apart E fd.type cs fd.offset = some v) (hk : ∀ v n h, kv v n h = kn (.value v) ⟨n, h⟩) : XGood E o T nx H kn (kv v nx H) := by
  refine pureGood hk ?_
  rw [ho]
  simp only [apure, cop_ok hX T, Option.bind_some, hcs, afield, hu, hf, hv]

theorem allocGood {E : Env P} {o : Oper} {T : Tr AV} {nx : Nat} {H : Tr AObj} {kv : KV} {kn : KN} (hk : ∀ v n h, kv v n h = kn (.value v) ⟨n, h⟩) {cs : List AV} (h0 : apure E (teval E (fr0 T)) o.op = none)
    (h1 : aalloc E (teval E (fr0 T)) nx o.op = some (.ptr nx 0, .obj (.row cs))) : XGood E o T nx H kn (kv (.ptr nx 0) (Nat.succ nx) (H.xset (some (.row cs)) nx)) := by
  refine ⟨.value (.ptr nx 0), ⟨Nat.succ nx, H.xset (some (.row cs)) nx⟩, ?_, hk _ _ _⟩
  unfold aop
  simp only [h0, h1]
  rw [Tr.xset_eq]
  rfl

theorem xop_ok {E : Env P} {o : Oper} {T : Tr AV} {nx : Nat} {H : Tr AObj} {kv : KV} {kn : KN} {r : XR} (hk : ∀ v n h, kv v n h = kn (.value v) ⟨n, h⟩) (h : xop E (cxop E o) T nx H kv kn = r) (hr : r ≠ .fail) :
    XGood E o T nx H kn r := by
  unfold cxop at h
  split at h
  · rename_i x ho
    cases hX : cop E x with
    | none => rw [hX] at h; exact xgen_ok h hr
    | some X =>
      rw [hX] at h
      have h : cps (xe X T) (fun v => kv v nx H) = r := h
      rw [cps_eq] at h
      rw [← h]
      exact pureGood hk (by rw [ho]; simp only [apure, cop_ok hX T])
  · rename_i x ho
    cases hX : cop E x with
    | none => rw [hX] at h; exact xgen_ok h hr
    | some X =>
      rw [hX] at h
      have h : cps (xe X T) (fun v => kv v nx H) = r := h
      rw [cps_eq] at h
      rw [← h]
      exact pureGood hk (by rw [ho]; simp only [apure, cop_ok hX T])
  · rename_i c a b ho
    split at h
    · rename_i C A B hC hA hB
      have h : avBool (xe C T) (fun t => cps (Bool.rec (motive := fun _ => AV) (xe B T) (xe A T) t) (fun v => kv v nx H)) = r := h
      obtain ⟨t, ht, h⟩ := avBool_eq h hr
      rw [cps_eq] at h
      rw [← h]
      refine pureGood hk ?_
      rw [ho]
      simp only [apure, cop_ok hC T, ht]
      cases t
      · exact cop_ok hB T
      · exact cop_ok hA T
    · exact xgen_ok h hr
  · rename_i t x ho
    split at h
    · rename_i X hX ha
      exact x_load1_ok ho hX ha hk h hr
    · rename_i X n hX ha hn
      exact x_loadN_ok ho hX ha hn hk h hr
    · exact xgen_ok h hr
  · rename_i s x f ho
    split at h
    · rename_i fields hu
      split at h
      · rename_i fd hf
        split at h
        · rename_i n X hn hX
          exact faddr_ok ho hu hf hn hX hk h hr
        · exact xgen_ok h hr
      · exact xgen_ok h hr
    · exact xgen_ok h hr
  · rename_i s x f ho
    split at h
    · rename_i fields hu
      split at h
      · rename_i fd hf
        split at h
        · rename_i X ha hX
          rcases avAgg_ok h hr with ⟨cs, hcs, h⟩ | ⟨_, _, h⟩
          · obtain ⟨v, h1, h⟩ := lnth_ok h hr
            rw [h]
            exact fld_ok ho hu hf hX hcs (by simp only [apart, ha, h1]) hk
          · exact absurd h.symm hr
        · rename_i n X ha hn hX
          rcases avAgg_ok h hr with ⟨cs, hcs, h⟩ | ⟨_, _, h⟩
          · rw [ltake_eq, ldrop_eq] at h
            rw [← h]
            exact fld_ok ho hu hf hX hcs (by simp only [apart, ha, hn]) hk
          · exact absurd h.symm hr
        · exact xgen_ok h hr
      · exact xgen_ok h hr
    · exact xgen_ok h hr
  · rename_i op t x y t2 ho
    split at h
    · exact xgen_ok h hr
    · rename_i hy
      split at h
      · rename_i b X Y hb hX hY
        exact x_bin_ok ho hy hb hX hY hk h hr
      · exact xgen_ok h hr
  · rename_i op t x ho
    split at h
    · rename_i X hX
      have h : avBool (xe X T) (fun t => kv (.bool (Bool.rec (motive := fun _ => Bool) true false t)) nx H) = r := h
      obtain ⟨t, ht, h⟩ := avBool_eq h hr
      rw [← h]
      refine pureGood hk ?_
      rw [ho]
      simp only [apure, cop_ok hX T, ht, Option.bind_some]
      cases t <;> rfl
    · exact xgen_ok h hr
  · rename_i t x v ho
    split at h
    · rename_i X V _ hn hX hV
      exact x_store1_ok ho hX hV hn h hr
    · exact xgen_ok h hr
  · rename_i t x ho
    cases hX : cop E x with
    | none => rw [hX] at h; exact xgen_ok h hr
    | some X =>
      rw [hX] at h
      have h : cps (xe X T) (fun v => kv (.ptr nx 0) (Nat.succ nx) (H.xset (some (.row v.cells)) nx)) = r := h
      rw [cps_eq] at h
      rw [← h]
      exact allocGood hk (by rw [ho]; rfl) (by rw [ho]; simp only [aalloc, cop_ok hX T, Option.map_some])
  · rename_i t ho
    cases hz : E.zero t with
    | none => rw [hz] at h; exact xgen_ok h hr
    | some z =>
      rw [hz] at h
      have h : kv (.ptr nx 0) (Nat.succ nx) (H.xset (some (.row z.cells)) nx) = r := h
      rw [← h]
      exact allocGood hk (by rw [ho]; rfl) (by rw [ho]; simp only [aalloc, hz, Option.map_some])
  · rename_i b args argTypes ho
    split at h
    · rename_i x t ha ht
      split at h
      · rename_i X hu hX
        have h : avNum (xe X T) (fun _ _ => .fail) (fun s => kv (.int .i64 (.ofNat (llen s))) nx H) .fail = r := h
        rcases avNum_ok h with ⟨_, _, _, h⟩ | ⟨s, hs, h⟩ | h
        · exact absurd h.symm hr
        · rw [← h, llen_eq]
          refine pureGood hk ?_
          rw [ho]
          simp only [apure, ha, ht, aargs, rnorm, cop_ok hX T, hs, AV.norm, Option.bind_some, abuiltin, alen, hu]
          rfl
        · exact absurd h.symm hr
      · rename_i e X hu hX
        exact x_lenL_ok ho rfl ha ht hu hX hk h hr
      · exact xgen_ok h hr
    · exact xgen_ok h hr
  · rename_i f args argTypes ho
    split at h
    · rename_i X Xs hX hXs
      have h : avFunc (xe X T) (fun g a b => xes Xs T (fun vs => kn (.call g (a ++ vs ++ b)) ⟨nx, H⟩)) (fun y => xes Xs T (fun vs => kn (.yield y vs) ⟨nx, H⟩)) = r := h
      have hp : apure E (teval E (fr0 T)) o.op = none := by rw [ho]; rfl
      have hq : aalloc E (teval E (fr0 T)) nx o.op = none := by rw [ho]; rfl
      have hs : aread E (teval E (fr0 T)) ⟨nx, H⟩ o.op = none := by rw [ho]; rfl
      have hu : aeffect E (teval E (fr0 T)) ⟨nx, H⟩ o.op = none := by rw [ho]; rfl
      rcases avFunc_ok h hr with ⟨g, a, b, hg, h⟩ | ⟨y, hg, h⟩
      · rw [xes_eq] at h
        refine ⟨_, _, ?_, h.symm⟩
        unfold aop
        simp only [hp, hq, hs, hu]
        rw [ho]
        simp only [cops_ok T hXs, Option.bind_some, acallee, cop_ok hX T, hg, Option.map_some]
      · rw [xes_eq] at h
        refine ⟨_, _, ?_, h.symm⟩
        unfold aop
        simp only [hp, hq, hs, hu]
        rw [ho]
        simp only [cops_ok T hXs, Option.bind_some, acallee, cop_ok hX T, hg, Option.map_some]
    · exact xgen_ok h hr
  · rename_i t x i ho
    split at h
    · rename_i e hu
      split at h
      · rename_i sz X I hs hX hI
        exact x_iaddr_ok ho hu hs hX hI hk h hr
      · exact xgen_ok h hr
    · exact xgen_ok h hr
  · rename_i t x i ho
    split at h
    · rename_i hu
      split at h
      · rename_i X I hX hI
        exact x_idx_ok ho hu hX hI hk h hr
      · exact xgen_ok h hr
    · exact xgen_ok h hr
  · rename_i x i ho
    cases hX : cop E x with
    | none => rw [hX] at h; exact xgen_ok h hr
    | some X =>
      rw [hX] at h
      rcases avAgg_ok h hr with ⟨_, _, h⟩ | ⟨vs, hv, h⟩
      · exact absurd h.symm hr
      · obtain ⟨v, h1, h⟩ := lnth_ok h hr
        rw [h]
        refine pureGood hk ?_
        rw [ho]
        simp only [apure, cop_ok hX T, hv, h1]
  · rename_i f a b ho
    split at h
    · rename_i A B hA hB
      have h : xes A T (fun as => xes B T (fun bs => kv (.func f as bs) nx H)) = r := h
      rw [xes_eq, xes_eq] at h
      rw [← h]
      refine pureGood hk ?_
      rw [ho]
      simp only [apure, cops_ok T hA, cops_ok T hB]
    · exact xgen_ok h hr
  · exact xgen_ok h hr

end
end Go.Abs

/- THE KERNEL's EVALUATOR, 5: operations in a row; code; calls. -/
namespace Go.Abs
variable {P : Program}
noncomputable section

inductive XG where
  | yes
  | never
  | on (p : Pth) (want : Bool)

inductive XD where
  | none
  | put (t : Nat) (p : Pth)

inductive XOper where
  | mk (x : XOp) (g : XG) (d : XD)

def avWant (v : AV) : Bool → Bool := AV.rec (motive_1 := fun _ => Bool → Bool) (motive_2 := fun _ => PUnit)
  (fun b w => Bool.rec (motive := fun _ => Bool) (Bool.rec (motive := fun _ => Bool) true false w) w b) (fun _ _ _ => false) (fun _ _ => false) (fun _ => false) (fun _ => false) (fun _ => false) (fun _ => false) (fun _ => false) (fun _ => false)
  (fun _ _ _ => false) (fun _ _ _ _ _ _ => false) (fun _ _ _ _ _ _ => false) (fun _ _ _ _ _ => false) (fun _ _ => false)
  (fun _ _ _ _ _ _ => false) (fun _ _ => false) (fun _ _ _ _ => false) (fun _ _ _ => false) (fun _ _ _ => false) PUnit.unit (fun _ _ _ _ => PUnit.unit) v

theorem avWant_eq (v : AV) (w : Bool) : avWant v w = (match v with | .bool b => b == w | _ => false) := by
  cases v <;> try rfl
  rename_i b
  cases b <;> cases w <;> rfl

def xg (g : XG) : Tr AV → Bool := XG.rec (motive := fun _ => Tr AV → Bool) (fun _ => true) (fun _ => false) (fun p w T => avWant (fget p T) w) g
def cguard (all : List Oper) (o : Oper) : XG :=
  match o.guard with
  | none => .yes
  | some (j, want) => match all[j]? with
    | none => .never
    | some g => match g.dst with
      | none => .never
      | some t => .on (path t) want

theorem cguard_eq (all : List Oper) (o : Oper) (n : Nat) (T : Tr AV) (ds : List ADef) : tguard all ⟨n, T, ds⟩ o = xg (cguard all o) T := by
  unfold tguard cguard
  cases o.guard with
  | none => rfl
  | some jw =>
    obtain ⟨j, w⟩ := jw
    simp only
    cases all[j]? with
    | none => rfl
    | some g =>
      simp only
      cases g.dst with
      | none => rfl
      | some t =>
        show _ = avWant (fget (path t) T) w
        rw [avWant_eq, fget_path]
        rfl

def xput (d : XD) : Nat → AV → Tr AV → Tr AV := XD.rec (motive := fun _ => Nat → AV → Tr AV → Tr AV) (fun _ _ T => T) (fun t p n v T => Bool.rec (motive := fun _ => Tr AV) (fset p v T) T (Nat.ble n t)) d
def cdst : Option Tmp → XD
  | none => .none
  | some t => .put t (path t)

theorem cdst_eq (dst : Option Tmp) (n : Nat) (T : Tr AV) (ds : List ADef) (v : AV) : TFr.put ⟨n, T, ds⟩ dst v = ⟨n, xput (cdst dst) n v T, ds⟩ := by
  cases dst with
  | none => rfl
  | some t =>
    show (bif Nat.ble n t then (⟨n, T, ds⟩ : TFr) else ⟨n, T.set t (some v), ds⟩) = ⟨n, Bool.rec (motive := fun _ => Tr AV) (fset (path t) v T) T (Nat.ble n t), ds⟩
    rw [fset_path]
    cases Nat.ble n t <;> rfl

def cxoper (E : Env P) (all : List Oper) (o : Oper) : XOper := .mk (cxop E o) (cguard all o) (cdst o.dst)

abbrev XK := Tr AV → List ADef → Nat → Tr AObj → XR

def withSt (s : ASt) : (Nat → Tr AObj → XR) → XR := ASt.rec (motive := fun _ => (Nat → Tr AObj → XR) → XR) (fun nx H k => k nx H) s
theorem withSt_eq (s : ASt) (k : Nat → Tr AObj → XR) : withSt s k = k s.next s.objs := rfl

def xret (k : AV → Nat → Tr AObj → XR) (pn : AV → Nat → Tr AObj → XR) (r : Option (AEnd × ASt)) : XR :=
  Option.rec (motive := fun _ => XR) .fail (fun p => Prod.rec (motive := fun _ => XR) (fun e s => AEnd.rec (motive := fun _ => XR) (fun v => withSt s (fun nx H => cps v (fun v => k v nx H))) (fun v => withSt s (fun nx H => pn v nx H)) e) p) r

theorem xret_eq (k pn : AV → Nat → Tr AObj → XR) (r : Option (AEnd × ASt)) : xret k pn r = (match r with | none => .fail | some (.ret v, s) => k v s.next s.objs | some (.pan v, s) => pn v s.next s.objs) := by
  cases r with
  | none => rfl
  | some p =>
    obtain ⟨e, s⟩ := p
    cases e with
    | ret v =>
      show cps v (fun v => k v s.next s.objs) = _
      rw [cps_eq]
    | pan v => rfl

def xcall (E : Env P) (E2 : Env2 E) (cf : CallF) (f : FuncId) (as : List AV) (s : ASt) (k pn : AV → Nat → Tr AObj → XR) : XR :=
  Option.rec (motive := fun _ => XR) (Bool.rec (motive := fun _ => XR) .fail (xret k pn (cf f as s)) (E2.ent f)) (fun v => withSt s (fun nx H => cps v (fun v => k v nx H))) (E2.ext f as)

def xyield (r : Option (AV × ASt)) (k : AV → Nat → Tr AObj → XR) : XR :=
  Option.rec (motive := fun _ => XR) .fail (fun p => Prod.rec (motive := fun _ => XR) (fun v s => withSt s (fun nx H => cps v (fun v => k v nx H))) p) r

def xdefer (rd : Option Nat) (d : ADef) (k : List ADef → XR) (ds : List ADef) : XR := Option.rec (motive := fun _ => XR) (k (d :: ds)) (fun _ => .fail) rd

/-- What comes behind an operation. -/
def xnext (E : Env P) (E2 : Env2 E) (cf : CallF) (rf : RoundF) (rd : Option Nat) (n : Nat) (d : XD) (ih : XK) (T : Tr AV) (ds : List ADef) (nxt : ANext) (s : ASt) : XR :=
  ANext.rec (motive := fun _ => XR)
    (fun v => withSt s (fun nx H => cps v (fun v => ih (xput d n v T) ds nx H)))
    (withSt s (fun nx H => ih (xput d n .undef T) ds nx H))
    (fun a => withSt s (fun nx H => xdefer rd a (fun ds => ih (xput d n .undef T) ds nx H) ds))
    (fun v => withSt s (fun nx H => .pan v T ds nx H))
    (fun f as => xcall E E2 cf f as s (fun v nx H => ih (xput d n v T) ds nx H) (fun v nx H => .pan v T ds nx H))
    (fun l as => xyield (rf l as s) (fun v nx H => ih (xput d n v T) ds nx H)) nxt

def xstep (E : Env P) (E2 : Env2 E) (cf : CallF) (rf : RoundF) (rd : Option Nat) (n : Nat) (x : XOper) (ih : XK) (T : Tr AV) (ds : List ADef) (nx : Nat) (H : Tr AObj) : XR :=
  XOper.rec (motive := fun _ => XR) (fun op g d => Bool.rec (motive := fun _ => XR) (ih (xput d n .undef T) ds nx H)
    (xop E op T nx H (fun v nx H => ih (xput d n v T) ds nx H) (fun nxt s => xnext E E2 cf rf rd n d ih T ds nxt s)) (xg g T)) x

def xops (E : Env P) (E2 : Env2 E) (cf : CallF) (rf : RoundF) (rd : Option Nat) (n : Nat) (l : List XOper) : XK :=
  List.rec (motive := fun _ => XK) (fun T ds nx H => .norm T ds nx H) (fun x _ ih => xstep E E2 cf rf rd n x ih) l

theorem opt_ne {n : Nat} {r : XR} {x : AExit × TFr × ASt} (h : r.opt n = some x) : r ≠ .fail := by
  intro e
  subst e
  cases h

theorem xops_ok {E : Env P} {E2 : Env2 E} {cf : CallF} {rf : RoundF} {rd : Option Nat} {n : Nat} {all : List Oper} : ∀ (os : List Oper) (T : Tr AV) (ds : List ADef) (nx : Nat) (H : Tr AObj) (x : AExit × TFr × ASt),
    (xops E E2 cf rf rd n (os.map (cxoper E all)) T ds nx H).opt n = some x → evOps E E2 cf rf rd all os ⟨n, T, ds⟩ ⟨nx, H⟩ = some x := by
  intro os
  induction os with
  | nil => intro T ds nx H x h; exact h
  | cons o os ih =>
    intro T ds nx H x h
    have h : (Bool.rec (motive := fun _ => XR) (xops E E2 cf rf rd n (os.map (cxoper E all)) (xput (cdst o.dst) n .undef T) ds nx H)
      (xop E (cxop E o) T nx H (fun v nx H => xops E E2 cf rf rd n (os.map (cxoper E all)) (xput (cdst o.dst) n v T) ds nx H) (fun nxt s => xnext E E2 cf rf rd n (cdst o.dst) (xops E E2 cf rf rd n (os.map (cxoper E all))) T ds nxt s)) (xg (cguard all o) T) : XR).opt n = some x := h
    simp only [evOps]
    rw [cguard_eq]
    cases hg : xg (cguard all o) T with
    | false =>
      rw [hg] at h
      simp only
      rw [cdst_eq]
      exact ih _ _ _ _ _ h
    | true =>
      rw [hg] at h
      simp only at h ⊢
      obtain ⟨nxt, s, h1, h2⟩ := xop_ok (kn := fun nxt s => xnext E E2 cf rf rd n (cdst o.dst) (xops E E2 cf rf rd n (os.map (cxoper E all))) T ds nxt s) (fun v nx H => by
        show _ = cps v _
        rw [cps_eq]) rfl (opt_ne h)
      rw [h2] at h
      rw [teval_fr0]
      simp only [h1]
      obtain ⟨nx1, H1⟩ := s
      cases nxt with
      | value v =>
        have h : (cps v (fun v => xops E E2 cf rf rd n (os.map (cxoper E all)) (xput (cdst o.dst) n v T) ds nx1 H1)).opt n = some x := h
        rw [cps_eq] at h
        simp only [cdst_eq]
        exact ih _ _ _ _ _ h
      | skip =>
        simp only [cdst_eq]
        exact ih _ _ _ _ _ h
      | defer d =>
        cases rd with
        | none =>
          simp only [cdst_eq]
          exact ih _ _ _ _ _ h
        | some l => cases h
      | pan v => exact h
      | call f as =>
        have h : (xcall E E2 cf f as ⟨nx1, H1⟩ (fun v nx H => xops E E2 cf rf rd n (os.map (cxoper E all)) (xput (cdst o.dst) n v T) ds nx H) (fun v nx H => .pan v T ds nx H)).opt n = some x := h
        unfold xcall at h
        simp only
        cases hx : E2.ext f as with
        | some v =>
          rw [hx] at h
          have h : (cps v (fun v => xops E E2 cf rf rd n (os.map (cxoper E all)) (xput (cdst o.dst) n v T) ds nx1 H1)).opt n = some x := h
          rw [cps_eq] at h
          simp only [cdst_eq]
          exact ih _ _ _ _ _ h
        | none =>
          rw [hx] at h
          simp only at h ⊢
          cases hen : E2.ent f with
          | false => rw [hen] at h; cases h
          | true =>
            rw [hen] at h
            simp only at h ⊢
            rw [xret_eq] at h
            cases hc : cf f as ⟨nx1, H1⟩ with
            | none => rw [hc] at h; cases h
            | some r =>
              obtain ⟨ae, nx2, H2⟩ := r
              rw [hc] at h
              cases ae with
              | ret v =>
                simp only [cdst_eq]
                exact ih _ _ _ _ _ h
              | pan v => exact h
      | yield l as =>
        have h : (xyield (rf l as ⟨nx1, H1⟩) (fun v nx H => xops E E2 cf rf rd n (os.map (cxoper E all)) (xput (cdst o.dst) n v T) ds nx H)).opt n = some x := h
        unfold xyield at h
        simp only
        cases hc : rf l as ⟨nx1, H1⟩ with
        | none => rw [hc] at h; cases h
        | some r =>
          obtain ⟨v, nx2, H2⟩ := r
          rw [hc] at h
          have h : (cps v (fun v => xops E E2 cf rf rd n (os.map (cxoper E all)) (xput (cdst o.dst) n v T) ds nx2 H2)).opt n = some x := h
          rw [cps_eq] at h
          simp only [cdst_eq]
          exact ih _ _ _ _ _ h

/-! ## code -/
inductive XCode where
  | skip
  | ret
  | exit (id : Nat)
  | seq (a b : XCode)
  | cond (x : XOpnd) (a b : XCode)
  | block (id : Nat) (a : XCode)
  | loop (a : XCode)
  | region (l : List XOper)
  | other (c : Code)

def ccode (E : Env P) : Code → XCode
  | .skip => .skip
  | .label _ => .skip
  | .exit id => .exit id
  | .ret => .ret
  | .seq x y => .seq (ccode E x) (ccode E y)
  | .cond c x y => match cop E c with
    | some X => .cond X (ccode E x) (ccode E y)
    | none => .other (.cond c x y)
  | .block id c => .block id (ccode E c)
  | .loop c => .loop (ccode E c)
  | .scope c => ccode E c
  | .region id ops draw => match draw with
    | false => .region (ops.toList.map (cxoper E ops.toList))
    | true => .other (.region id ops true)
  | c => .other c

def xthen (r : XR) : XK → XR := XR.rec (motive := fun _ => XK → XR) (fun _ => .fail) (fun T ds nx H k => k T ds nx H) (fun id T ds nx H _ => .exit id T ds nx H) (fun T ds nx H _ => .ret T ds nx H) (fun v T ds nx H _ => .pan v T ds nx H) r
def xblk (r : XR) : Nat → XR := XR.rec (motive := fun _ => Nat → XR) (fun _ => .fail) (fun T ds nx H _ => .norm T ds nx H)
  (fun id T ds nx H id0 => Bool.rec (motive := fun _ => XR) (.exit id T ds nx H) (.norm T ds nx H) (Nat.beq id id0)) (fun T ds nx H _ => .ret T ds nx H) (fun v T ds nx H _ => .pan v T ds nx H) r
def xloop (a : XK) (n : Nat) : XK := Nat.rec (motive := fun _ => XK) (fun _ _ _ _ => .fail) (fun _ ih T ds nx H => xthen (a T ds nx H) ih) n

def xopt (n : Nat) (r : Option (AExit × TFr × ASt)) : XR :=
  match r with
  | none => .fail
  | some (e, tf, st) => match Nat.beq tf.n n with
    | false => .fail
    | true => match e with
      | .normal => .norm tf.T tf.ds st.next st.objs
      | .exit id => .exit id tf.T tf.ds st.next st.objs
      | .ret => .ret tf.T tf.ds st.next st.objs
      | .pan v => .pan v tf.T tf.ds st.next st.objs

theorem xopt_ok {n : Nat} {r : Option (AExit × TFr × ASt)} {x : AExit × TFr × ASt} (h : (xopt n r).opt n = some x) : r = some x := by
  unfold xopt at h
  split at h
  · cases h
  · rename_i e tf st
    split at h
    · cases h
    · rename_i hb
      have := Nat.eq_of_beq_eq_true hb
      subst this
      cases e <;> exact h

def xcode (E : Env P) (E2 : Env2 E) (kf : CodeF) (cf : CallF) (rf : RoundF) (fuel : Nat) (rd : Option Nat) (n : Nat) (c : XCode) : XK := XCode.rec (motive := fun _ => XK)
  (fun T ds nx H => .norm T ds nx H)
  (fun T ds nx H => .ret T ds nx H)
  (fun id T ds nx H => .exit id T ds nx H)
  (fun _ _ iha ihb T ds nx H => xthen (iha T ds nx H) ihb)
  (fun x _ _ iha ihb T ds nx H => avBool (xe x T) (fun b => Bool.rec (motive := fun _ => XR) (ihb T ds nx H) (iha T ds nx H) b))
  (fun id _ iha T ds nx H => xblk (iha T ds nx H) id)
  (fun _ iha => xloop iha fuel)
  (fun l => xops E E2 cf rf rd n l)
  (fun c T ds nx H => xopt n (evCode E E2 kf cf rf fuel rd c ⟨n, T, ds⟩ ⟨nx, H⟩)) c


theorem xthen_ok {n : Nat} {r : XR} {k : XK} {x : AExit × TFr × ASt} (h : (xthen r k).opt n = some x) :
    (∃ T ds nx H, r = .norm T ds nx H ∧ (k T ds nx H).opt n = some x) ∨ (r.opt n = some x ∧ x.1 ≠ .normal) := by
  cases r with
  | fail => cases h
  | norm T ds nx H => exact .inl ⟨_, _, _, _, rfl, h⟩
  | exit id T ds nx H => refine .inr ⟨h, ?_⟩; cases h; simp
  | ret T ds nx H => refine .inr ⟨h, ?_⟩; cases h; simp
  | pan v T ds nx H => refine .inr ⟨h, ?_⟩; cases h; simp

theorem xcode_ok {E : Env P} {E2 : Env2 E} {kf : CodeF} {cf : CallF} {rf : RoundF} (hk : CodeOk E kf) (hc : CallOk E cf) (hr : RoundOk E rf) (fuel : Nat) (rd : Option Nat) (n : Nat) : ∀ (c : Code) (T : Tr AV) (ds : List ADef) (nx : Nat) (H : Tr AObj) (e : AExit) (tf' : TFr) (st' : ASt),
    (TFr.mk n T ds).Ok → (xcode E E2 kf cf rf fuel rd n (ccode E c) T ds nx H).opt n = some (e, tf', st') → tf'.Ok ∧ ACode E rd c (TFr.mk n T ds).fr ⟨nx, H⟩ (Lands tf' e st') := by
  intro c
  have other : ∀ (c : Code) (T : Tr AV) (ds : List ADef) (nx : Nat) (H : Tr AObj) (e : AExit) (tf' : TFr) (st' : ASt),
      (TFr.mk n T ds).Ok → (xcode E E2 kf cf rf fuel rd n (.other c) T ds nx H).opt n = some (e, tf', st') → tf'.Ok ∧ ACode E rd c (TFr.mk n T ds).fr ⟨nx, H⟩ (Lands tf' e st') := by
    intro c T ds nx H e tf' st' ho h
    exact evCode_ok hk hc hr fuel _ _ _ _ _ _ _ ho (xopt_ok h)
  induction c with
  | skip =>
    intro T ds nx H e tf' st' ho h
    cases h
    exact ⟨ho, ACode.skip ⟨rfl, rfl, rfl⟩⟩
  | label l =>
    intro T ds nx H e tf' st' ho h
    cases h
    exact ⟨ho, ACode.label ⟨rfl, rfl, rfl⟩⟩
  | exit id =>
    intro T ds nx H e tf' st' ho h
    cases h
    exact ⟨ho, ACode.exit ⟨rfl, rfl, rfl⟩⟩
  | ret =>
    intro T ds nx H e tf' st' ho h
    cases h
    exact ⟨ho, ACode.ret ⟨rfl, rfl, rfl⟩⟩
  | seq x y ihx ihy =>
    intro T ds nx H e tf' st' ho h
    have h : (xthen (xcode E E2 kf cf rf fuel rd n (ccode E x) T ds nx H) (xcode E E2 kf cf rf fuel rd n (ccode E y))).opt n = some (e, tf', st') := h
    rcases xthen_ok h with ⟨T1, ds1, nx1, H1, h1, h2⟩ | ⟨h1, h2⟩
    · obtain ⟨k1, k2⟩ := ihx T ds nx H .normal ⟨n, T1, ds1⟩ ⟨nx1, H1⟩ ho (by rw [h1]; rfl)
      obtain ⟨j1, j2⟩ := ihy T1 ds1 nx1 H1 e tf' st' k1 h2
      refine ⟨j1, ACode.seq (k2.mono ?_)⟩
      rintro e1 fr1 s1 ⟨rfl, rfl, rfl⟩
      exact j2
    · obtain ⟨k1, k2⟩ := ihx T ds nx H e tf' st' ho h1
      refine ⟨k1, ACode.seq (k2.mono ?_)⟩
      rintro e1 fr1 s1 ⟨rfl, rfl, rfl⟩
      cases e1 with
      | normal => exact absurd rfl h2
      | _ => exact ⟨rfl, rfl, rfl⟩
  | cond c x y ihx ihy =>
    intro T ds nx H e tf' st' ho h
    simp only [ccode] at h
    cases hX : cop E c with
    | none => rw [hX] at h; exact other _ T ds nx H e tf' st' ho h
    | some X =>
      rw [hX] at h
      have h : (avBool (xe X T) (fun b => Bool.rec (motive := fun _ => XR) (xcode E E2 kf cf rf fuel rd n (ccode E y) T ds nx H) (xcode E E2 kf cf rf fuel rd n (ccode E x) T ds nx H) b)).opt n = some (e, tf', st') := h
      obtain ⟨b, hb, h2⟩ := avBool_eq rfl (opt_ne h)
      rw [← h2] at h
      have hev : aeval E (TFr.mk n T ds).fr.tmps c = some (.bool b) := by
        rw [← teval_eq ho, teval_fr0]
        rw [← hb]
        exact cop_ok hX T
      cases b with
      | false =>
        obtain ⟨k1, k2⟩ := ihy T ds nx H e tf' st' ho h
        exact ⟨k1, ACode.cond hev k2⟩
      | true =>
        obtain ⟨k1, k2⟩ := ihx T ds nx H e tf' st' ho h
        exact ⟨k1, ACode.cond hev k2⟩
  | block id c ih =>
    intro T ds nx H e tf' st' ho h
    have h : (xblk (xcode E E2 kf cf rf fuel rd n (ccode E c) T ds nx H) id).opt n = some (e, tf', st') := h
    have ih := ih T ds nx H
    cases hq : xcode E E2 kf cf rf fuel rd n (ccode E c) T ds nx H with
    | fail => rw [hq] at h; cases h
    | norm T1 ds1 nx1 H1 =>
      rw [hq] at h
      cases h
      obtain ⟨k1, k2⟩ := ih .normal ⟨n, T1, ds1⟩ ⟨nx1, H1⟩ ho (by rw [hq]; rfl)
      refine ⟨k1, ACode.block (k2.mono ?_)⟩
      rintro e1 fr1 s1 ⟨rfl, rfl, rfl⟩
      exact ⟨rfl, rfl, rfl⟩
    | exit id' T1 ds1 nx1 H1 =>
      rw [hq] at h
      have h3 : (Bool.rec (motive := fun _ => XR) (.exit id' T1 ds1 nx1 H1) (.norm T1 ds1 nx1 H1) (Nat.beq id' id) : XR).opt n = some (e, tf', st') := h
      clear h
      obtain ⟨k1, k2⟩ := ih (.exit id') ⟨n, T1, ds1⟩ ⟨nx1, H1⟩ ho (by rw [hq]; rfl)
      cases hb : Nat.beq id' id with
      | false =>
        rw [hb] at h3
        have h4 : (XR.exit id' T1 ds1 nx1 H1).opt n = some (e, tf', st') := h3
        cases h4
        refine ⟨k1, ACode.block (k2.mono ?_)⟩
        rintro e1 fr1 s1 ⟨rfl, rfl, rfl⟩
        show if id' = id then _ else _
        rw [if_neg (fun hx => by rw [hx, Nat.beq_refl] at hb; cases hb)]
        exact ⟨rfl, rfl, rfl⟩
      | true =>
        rw [hb] at h3
        have h4 : (XR.norm T1 ds1 nx1 H1).opt n = some (e, tf', st') := h3
        have hid := Nat.eq_of_beq_eq_true hb
        cases h4
        refine ⟨k1, ACode.block (k2.mono ?_)⟩
        rintro e1 fr1 s1 ⟨rfl, rfl, rfl⟩
        show if id' = id then _ else _
        rw [if_pos hid]
        exact ⟨rfl, rfl, rfl⟩
    | ret T1 ds1 nx1 H1 =>
      rw [hq] at h
      cases h
      obtain ⟨k1, k2⟩ := ih .ret ⟨n, T1, ds1⟩ ⟨nx1, H1⟩ ho (by rw [hq]; rfl)
      refine ⟨k1, ACode.block (k2.mono ?_)⟩
      rintro e1 fr1 s1 ⟨rfl, rfl, rfl⟩
      exact ⟨rfl, rfl, rfl⟩
    | pan v T1 ds1 nx1 H1 =>
      rw [hq] at h
      cases h
      obtain ⟨k1, k2⟩ := ih (.pan v) ⟨n, T1, ds1⟩ ⟨nx1, H1⟩ ho (by rw [hq]; rfl)
      refine ⟨k1, ACode.block (k2.mono ?_)⟩
      rintro e1 fr1 s1 ⟨rfl, rfl, rfl⟩
      exact ⟨rfl, rfl, rfl⟩
  | loop c ih =>
    have key : ∀ (m : Nat) (T : Tr AV) (ds : List ADef) (nx : Nat) (H : Tr AObj) (e : AExit) (tf' : TFr) (st' : ASt), (TFr.mk n T ds).Ok → (xloop (xcode E E2 kf cf rf fuel rd n (ccode E c)) m T ds nx H).opt n = some (e, tf', st') →
        tf'.Ok ∧ ARounds E rd c (Lands tf' e st') m (TFr.mk n T ds).fr ⟨nx, H⟩ := by
      intro m
      induction m with
      | zero => intro T ds nx H e tf' st' _ h; cases h
      | succ m ihm =>
        intro T ds nx H e tf' st' ho h
        have h : (xthen (xcode E E2 kf cf rf fuel rd n (ccode E c) T ds nx H) (xloop (xcode E E2 kf cf rf fuel rd n (ccode E c)) m)).opt n = some (e, tf', st') := h
        rcases xthen_ok h with ⟨T1, ds1, nx1, H1, h1, h2⟩ | ⟨h1, h2⟩
        · obtain ⟨k1, k2⟩ := ih T ds nx H .normal ⟨n, T1, ds1⟩ ⟨nx1, H1⟩ ho (by rw [h1]; rfl)
          obtain ⟨j1, j2⟩ := ihm T1 ds1 nx1 H1 e tf' st' k1 h2
          refine ⟨j1, k2.mono ?_⟩
          rintro e1 fr1 s1 ⟨rfl, rfl, rfl⟩
          exact j2
        · obtain ⟨k1, k2⟩ := ih T ds nx H e tf' st' ho h1
          refine ⟨k1, k2.mono ?_⟩
          rintro e1 fr1 s1 ⟨rfl, rfl, rfl⟩
          cases e1 with
          | normal => exact absurd rfl h2
          | _ => exact ⟨rfl, rfl, rfl⟩
    intro T ds nx H e tf' st' ho h
    obtain ⟨k1, k2⟩ := key fuel T ds nx H e tf' st' ho h
    exact ⟨k1, ACode.loop fuel k2⟩
  | scope c ih =>
    intro T ds nx H e tf' st' ho h
    obtain ⟨k1, k2⟩ := ih T ds nx H e tf' st' ho h
    exact ⟨k1, ACode.scope k2⟩
  | region id ops draw =>
    intro T ds nx H e tf' st' ho h
    cases draw with
    | true => exact other _ T ds nx H e tf' st' ho h
    | false =>
      have h := xops_ok _ _ _ _ _ _ h
      obtain ⟨k1, k2⟩ := evOps_ok hc hr ops.toList 0 _ _ e tf' st' rfl ho h
      refine ⟨k1, ACode.region ?_⟩
      rw [List.range_eq_range']
      simpa using k2
  | rangeFunc g ps a b _ _ => intro T ds nx H e tf' st' ho h; exact other _ T ds nx H e tf' st' ho h
  | goto l => intro T ds nx H e tf' st' ho h; exact other _ T ds nx H e tf' st' ho h
  | refuse w => intro T ds nx H e tf' st' ho h; exact other _ T ds nx H e tf' st' ho h

/-! ## the knot -/
def xkf (E : Env P) (E2 : Env2 E) (kf : CodeF) (cf : CallF) (rf : RoundF) (fuel : Nat) : CodeF := fun rd c tf st =>
  TFr.rec (motive := fun _ => Option (AExit × TFr × ASt)) (fun n T ds => ASt.rec (motive := fun _ => Option (AExit × TFr × ASt)) (fun nx H => (xcode E E2 kf cf rf fuel rd n (ccode E c) T ds nx H).opt n) st) tf

theorem xkf_ok {E : Env P} {E2 : Env2 E} {kf : CodeF} {cf : CallF} {rf : RoundF} (hk : CodeOk E kf) (hc : CallOk E cf) (hr : RoundOk E rf) (fuel : Nat) : CodeOk E (xkf E E2 kf cf rf fuel) :=
  fun rd c tf _ e tf' st' ho h => xcode_ok hk hc hr fuel rd tf.n c _ _ _ _ e tf' st' ho h

/-! calls -/
def xfill (as : List AV) : Nat → Tr AV → Tr AV := List.rec (motive := fun _ => Nat → Tr AV → Tr AV) (fun _ T => T) (fun a _ ih i T => ih (Nat.succ i) (T.xset (some a) i)) as
theorem xfill_eq : ∀ (as : List AV) (i : Nat) (T : Tr AV), xfill as i T = tfill as i T
  | [], _, _ => rfl
  | a :: as, i, T => by
    show xfill as (i + 1) (T.xset (some a) i) = _
    rw [xfill_eq as, Tr.xset_eq]; rfl

def xcall1 (E : Env P) (E2 : Env2 E) (kf : CodeF) (df : DefF) : CallF := fun f as st =>
  match E.fn f with
  | none => none
  | some fn => match fn.body with
    | none => none
    | some c => match kf none c ⟨Nat.add (llen as) (Nat.sub fn.ntmps (llen as)), xfill as 0 .leaf, []⟩ st with
      | some (.normal, tf, st1) => evLeaves E E2 df fn tf tf.ds .returning st1
      | some (.ret, tf, st1) => evLeaves E E2 df fn tf tf.ds .returning st1
      | some (.pan v, tf, st1) => evLeaves E E2 df fn tf tf.ds (.panicking v) st1
      | _ => none

theorem xcall1_eq (E : Env P) (E2 : Env2 E) (kf : CodeF) (df : DefF) (f : FuncId) (as : List AV) (st : ASt) : xcall1 E E2 kf df f as st = evCall1 E E2 kf df f as st := by
  unfold xcall1 evCall1 tinit
  simp only [llen_eq, xfill_eq]
  rfl

def xCall (E : Env P) (E2 : Env2 E) (tab : CallF) (kf : CodeF) (df : DefF) : CallF := fun f as st =>
  match tab f as st with
  | some r => some r
  | none => atrim (E2.trim f) (xcall1 E E2 kf df f as st)

theorem xCall_ok {E : Env P} {E2 : Env2 E} {tab : CallF} {kf : CodeF} {df : DefF} (ht : CallOk E tab) (hk : CodeOk E kf) (hd : DefOk E df) : CallOk E (xCall E E2 tab kf df) := by
  intro f as st e s h
  refine evCall_ok (E2 := E2) ht hk hd f as st e s ?_
  unfold xCall at h
  unfold evCall
  simp only [xcall1_eq] at h
  exact h

def xev (E : Env P) (E2 : Env2 E) (tab : CallF) (n : Nat) : CodeF := Nat.rec (motive := fun _ => CodeF) (fun _ _ _ _ => none) (fun n ih => xkf E E2 ih (xCall E E2 tab ih (evDef E ih)) (evRound ih) n) n

theorem xev_ok {E : Env P} {E2 : Env2 E} {tab : CallF} (ht : CallOk E tab) : ∀ n, CodeOk E (xev E E2 tab n)
  | 0 => fun _ _ _ _ _ _ _ _ h => by cases h
  | n + 1 => xkf_ok (xev_ok ht n) (xCall_ok ht (xev_ok ht n) (evDef_ok (xev_ok ht n))) (evRound_ok (xev_ok ht n)) n

/-- A call, all of it. -/
def xrun (E : Env P) (E2 : Env2 E) (tab : CallF) (n : Nat) : CallF := xCall E E2 tab (xev E E2 tab n) (evDef E (xev E E2 tab n))

theorem xrun_ok {E : Env P} {E2 : Env2 E} {tab : CallF} (ht : CallOk E tab) (n : Nat) : CallOk E (xrun E E2 tab n) :=
  xCall_ok ht (xev_ok ht n) (evDef_ok (xev_ok ht n))

end
end Go.Abs

/- TABLES OF CALLS WHOSE RESULTS ARE PROVED; code taken piece by piece. -/
namespace Go.Abs
variable {P : Program}
noncomputable section

/-! ## values held against each other -/
mutual
def AV.same : AV → AV → Bool
  | .bool a, .bool b => match a, b with
    | true, true => true
    | false, false => true
    | _, _ => false
  | .int j a, .int k b => keq j k && ieq a b
  | .str a, .str b => sbeq a b
  | .undef, .undef => true
  | .nilp, .nilp => true
  | .nilm, .nilm => true
  | .nilf, .nilf => true
  | .nili, .nili => true
  | .nils, .nils => true
  | .fslc sz es x, .fslc sz' es' x' => Nat.beq sz sz' && (match x, x' with
    | true, true => true
    | false, false => true
    | _, _ => false) && AVs.same es es'
  | .func f a b, .func f' a' b' => Nat.beq f f' && AVs.same a a' && AVs.same b b'
  | .iface t v, .iface t' v' => Nat.beq t t' && AV.same v v'
  | .agg cs, .agg cs' => AVs.same cs cs'
  | .tup cs, .tup cs' => AVs.same cs cs'
  | _, _ => false
def AVs.same : List AV → List AV → Bool
  | [], [] => true
  | a :: as, b :: bs => AV.same a b && AVs.same as bs
  | _, _ => false
end

mutual
theorem AV.same_eq : ∀ (a b : AV), AV.same a b = true → a = b
  | .bool a, b, h => by cases b <;> simp [AV.same] at h; rename_i b; cases a <;> cases b <;> simp at h <;> rfl
  | .int j a, b, h => by
    cases b <;> simp [AV.same] at h
    rw [keq_iff h.1]
    have := h.2
    rw [ieq_eq] at this
    rw [LawfulBEq.eq_of_beq this]
  | .str a, b, h => by
    cases b <;> simp [AV.same] at h
    rw [sbeq_eq] at h
    rw [LawfulBEq.eq_of_beq h]
  | .undef, b, h => by cases b <;> simp [AV.same] at h; rfl
  | .nilp, b, h => by cases b <;> simp [AV.same] at h; rfl
  | .nilm, b, h => by cases b <;> simp [AV.same] at h; rfl
  | .nilf, b, h => by cases b <;> simp [AV.same] at h; rfl
  | .nili, b, h => by cases b <;> simp [AV.same] at h; rfl
  | .nils, b, h => by cases b <;> simp [AV.same] at h; rfl
  | .ptr _ _, b, h => by cases b <;> simp [AV.same] at h
  | .fptr _ _ _ _, b, h => by cases b <;> simp [AV.same] at h
  | .oslc _ _ _ _ _, b, h => by cases b <;> simp [AV.same] at h
  | .map _, b, h => by cases b <;> simp [AV.same] at h
  | .yield _, b, h => by cases b <;> simp [AV.same] at h
  | .fslc sz es x, b, h => by
    cases b <;> simp only [AV.same, Bool.and_eq_true] at h <;> try (cases h; done)
    rename_i sz' es' x'
    obtain ⟨⟨h1, h2⟩, h3⟩ := h
    rw [Nat.eq_of_beq_eq_true h1, AVs.same_eq es es' h3]
    cases x <;> cases x' <;> simp at h2 <;> rfl
  | .func f a b, c, h => by
    cases c <;> simp only [AV.same, Bool.and_eq_true] at h <;> try (cases h; done)
    obtain ⟨⟨h1, h2⟩, h3⟩ := h
    rw [Nat.eq_of_beq_eq_true h1, AVs.same_eq _ _ h2, AVs.same_eq _ _ h3]
  | .iface t v, c, h => by
    cases c <;> simp only [AV.same, Bool.and_eq_true] at h <;> try (cases h; done)
    rw [Nat.eq_of_beq_eq_true h.1, AV.same_eq _ _ h.2]
  | .agg cs, c, h => by
    cases c <;> simp only [AV.same] at h <;> try (cases h; done)
    rw [AVs.same_eq _ _ h]
  | .tup cs, c, h => by
    cases c <;> simp only [AV.same] at h <;> try (cases h; done)
    rw [AVs.same_eq _ _ h]
theorem AVs.same_eq : ∀ (a b : List AV), AVs.same a b = true → a = b
  | [], [], _ => rfl
  | [], _ :: _, h => by simp [AVs.same] at h
  | _ :: _, [], h => by simp [AVs.same] at h
  | a :: as, b :: bs, h => by
    simp only [AVs.same, Bool.and_eq_true] at h
    rw [AV.same_eq a b h.1, AVs.same_eq as bs h.2]
end

/-! ## tables -/
/-- A call of closed values, and its closed result. -/
structure Fact where
  f : FuncId
  args : List AV
  v : AV

def Fact.Ok (E : Env P) (x : Fact) : Prop := ∀ st, Sound E x.f x.args st fun e s => e = .ret x.v ∧ s = st

def tabF : List Fact → CallF
  | [], _, _, _ => none
  | x :: xs, f, as, st => match Nat.beq x.f f with
    | false => tabF xs f as st
    | true => match AVs.same x.args as with
      | true => some (.ret x.v, st)
      | false => tabF xs f as st

theorem tabF_ok {E : Env P} : ∀ (l : List Fact), (∀ x, x ∈ l → x.Ok E) → CallOk E (tabF l)
  | [], _ => fun _ _ _ _ _ h => by cases h
  | x :: xs, hl => by
    intro f as st e s h
    have ih := tabF_ok xs (fun y hy => hl y (List.mem_cons_of_mem _ hy)) f as st e s
    simp only [tabF] at h
    split at h
    · exact ih h
    · rename_i hf
      split at h
      · rename_i ha
        have e1 := Nat.eq_of_beq_eq_true hf
        have e2 := AVs.same_eq _ _ ha
        subst e1 e2
        simp only [Option.some.injEq, Prod.mk.injEq] at h
        obtain ⟨rfl, rfl⟩ := h
        exact hl x List.mem_cons_self st
      · exact ih h

/-- A call without arguments that hands back one new object. -/
structure FactO where
  f : FuncId
  v : AV
  o : AObj

def FactO.Ok (E : Env P) (x : FactO) : Prop := ∀ st, Sound E x.f [] st fun e s => e = .ret (x.v.reid st.next) ∧ s = { (st.put st.next x.o) with next := st.next + 1 }

def tabO : List FactO → CallF
  | [], _, _, _ => none
  | x :: xs, f, as, st => match Nat.beq x.f f with
    | false => tabO xs f as st
    | true => match as with
      | [] => some (.ret (x.v.reid st.next), { (st.put st.next x.o) with next := st.next + 1 })
      | _ => none

theorem tabO_ok {E : Env P} : ∀ (l : List FactO), (∀ x, x ∈ l → x.Ok E) → CallOk E (tabO l)
  | [], _ => fun _ _ _ _ _ h => by cases h
  | x :: xs, hl => by
    intro f as st e s h
    have ih := tabO_ok xs (fun y hy => hl y (List.mem_cons_of_mem _ hy)) f as st e s
    simp only [tabO] at h
    split at h
    · exact ih h
    · rename_i hf
      split at h
      · have e1 := Nat.eq_of_beq_eq_true hf
        subst e1
        simp only [Option.some.injEq, Prod.mk.injEq] at h
        obtain ⟨rfl, rfl⟩ := h
        exact hl x List.mem_cons_self st
      · cases h

def orTab (a b : CallF) : CallF := fun f as st => match a f as st with
  | some r => some r
  | none => b f as st

theorem orTab_ok {E : Env P} {a b : CallF} (ha : CallOk E a) (hb : CallOk E b) : CallOk E (orTab a b) := by
  intro f as st e s h
  unfold orTab at h
  split at h
  · rename_i r hr
    simp only [Option.some.injEq] at h
    subst h
    exact ha _ _ _ _ _ hr
  · exact hb _ _ _ _ _ h

theorem noTab_ok {E : Env P} : CallOk E (fun _ _ _ => none) := fun _ _ _ _ _ h => by cases h

/-- What a run hands back: that value? -/
def gives (r : Option (AEnd × ASt)) (v : AV) : Bool := match r with
  | some (.ret a, _) => AV.same v a
  | _ => false

theorem Fact.of_run {E : Env P} (hE : E.GClosed) {E2 : Env2 E} {tab : CallF} (ht : CallOk E tab) {n : Nat} {f : FuncId} {args : List AV} {v : AV} (ha : AVs.closed args = true) (hv : v.closed = true)
    (h : gives (xrun E E2 tab n f args ⟨0, .leaf⟩) v = true) : (Fact.mk f args v).Ok E := by
  intro st
  unfold gives at h
  split at h
  · rename_i a s hr
    have e := AV.same_eq _ _ h
    subst e
    refine (Sound.closed hE ha ((xrun_ok ht n) _ _ _ _ _ hr) (fun e s hq => by rw [hq.1]; exact hv) st).mono ?_
    rintro e1 s1 ⟨⟨s0, rfl, _⟩, rfl⟩
    exact ⟨rfl, rfl⟩
  · cases h

def sameEs : List (AV × AV × Nat) → List (AV × AV × Nat) → Bool
  | [], [] => true
  | (k, v, n) :: as, (k', v', n') :: bs => AV.same k k' && AV.same v v' && Nat.beq n n' && sameEs as bs
  | _, _ => false

theorem sameEs_eq : ∀ (a b : List (AV × AV × Nat)), sameEs a b = true → a = b
  | [], [], _ => rfl
  | [], _ :: _, h => by simp [sameEs] at h
  | _ :: _, [], h => by simp [sameEs] at h
  | (k, v, n) :: as, (k', v', n') :: bs, h => by
    simp only [sameEs, Bool.and_eq_true] at h
    obtain ⟨⟨⟨h1, h2⟩, h3⟩, h4⟩ := h
    rw [AV.same_eq _ _ h1, AV.same_eq _ _ h2, Nat.eq_of_beq_eq_true h3, sameEs_eq _ _ h4]

/-- What a run hands back: a map of these entries? -/
def givesMap (r : Option (AEnd × ASt)) (id : Nat) (es : List (AV × AV × Nat)) (ck : Nat) : Bool := match r with
  | some (.ret (.map i), s) => Nat.beq i id && (match s.get i with
    | some (.map es' ck') => sameEs es es' && Nat.beq ck ck'
    | _ => false)
  | _ => false

theorem FactO.of_map {E : Env P} (hE : E.GClosed) {E2 : Env2 E} {tab : CallF} (ht : CallOk E tab) {n : Nat} {f : FuncId} {id : Nat} {es : List (AV × AV × Nat)} {ck : Nat} (hv : closedEs es = true)
    (h : givesMap (xrun E E2 tab n f [] ⟨0, .leaf⟩) id es ck = true) : (FactO.mk f (.map id) (.map es ck)).Ok E := by
  intro st
  unfold givesMap at h
  split at h
  · rename_i i s hr
    simp only [Bool.and_eq_true] at h
    obtain ⟨h1, h2⟩ := h
    have e := Nat.eq_of_beq_eq_true h1
    subst e
    split at h2
    · rename_i es' ck' hg
      simp only [Bool.and_eq_true] at h2
      have e1 := sameEs_eq _ _ h2.1
      have e2 := Nat.eq_of_beq_eq_true h2.2
      subst e1 e2
      refine Sound.closedObj (n := 0) (id := i) hE rfl (v := .map i) (o := .map es ck) rfl hv ?_ st
      refine ((xrun_ok ht n) _ _ _ _ _ hr).mono ?_
      rintro e1 s1 ⟨rfl, rfl⟩
      exact ⟨rfl, hg⟩
    · cases h2
  · cases h

end
end Go.Abs

/- CODE TAKEN PIECE BY PIECE: for a run in which a number is known by a law, not by a reckoning. -/
namespace Go.Abs
variable {P : Program}
noncomputable section

/-- Pieces of code, one behind the other. -/
def ACodes (E : Env P) (rd : Option Nat) (Q : AExit → AFr → ASt → Prop) : List Code → AFr → ASt → Prop
  | [], fr, st => Q .normal fr st
  | c :: cs, fr, st => ACode E rd c fr st fun e fr' st' => match e with
    | .normal => ACodes E rd Q cs fr' st'
    | e => Q e fr' st'

theorem ACodes.one {E : Env P} {rd : Option Nat} {Q : AExit → AFr → ASt → Prop} {c : Code} {fr : AFr} {st : ASt} (h : ACodes E rd Q [c] fr st) : ACode E rd c fr st Q := by
  refine ACode.mono h fun e f s hq => ?_
  cases e <;> exact hq

theorem ACodes.seq {E : Env P} {rd : Option Nat} {Q : AExit → AFr → ASt → Prop} {a b : Code} {cs : List Code} {fr : AFr} {st : ASt} (h : ACodes E rd Q (a :: b :: cs) fr st) : ACodes E rd Q (.seq a b :: cs) fr st := by
  show ACode E rd (.seq a b) fr st _
  refine ACode.seq (ACode.mono h fun e f s hq => ?_)
  cases e <;> exact hq

structure XSt where
  cs : List Code
  T : Tr AV
  ds : List ADef
  nx : Nat
  H : Tr AObj

section
variable (E : Env P) (E2 : Env2 E) (kf : CodeF) (cf : CallF) (rf : RoundF) (fuel : Nat) (rd : Option Nat) (n : Nat)

/-- Some steps: a sequence is parted; or a piece is run. -/
def xpre : Nat → XSt → Option XSt
  | 0, x => some x
  | k + 1, ⟨cs, T, ds, nx, H⟩ => match cs with
    | [] => none
    | .seq a b :: cs => xpre k ⟨a :: b :: cs, T, ds, nx, H⟩
    | c :: cs => match xcode E E2 kf cf rf fuel rd n (ccode E c) T ds nx H with
      | .norm T ds nx H => xpre k ⟨cs, T, ds, nx, H⟩
      | _ => none

/-- All of it. -/
def xall : List Code → XK
  | [] => fun T ds nx H => .norm T ds nx H
  | c :: cs => fun T ds nx H => xthen (xcode E E2 kf cf rf fuel rd n (ccode E c) T ds nx H) (xall cs)
end

theorem xpre_ok {E : Env P} {E2 : Env2 E} {kf : CodeF} {cf : CallF} {rf : RoundF} (hk : CodeOk E kf) (hc : CallOk E cf) (hr : RoundOk E rf) {fuel : Nat} {rd : Option Nat} {n : Nat} : ∀ (k : Nat) (x y : XSt), (TFr.mk n x.T x.ds).Ok →
    xpre E E2 kf cf rf fuel rd n k x = some y → (TFr.mk n y.T y.ds).Ok ∧ ∀ Q, ACodes E rd Q y.cs (TFr.mk n y.T y.ds).fr ⟨y.nx, y.H⟩ → ACodes E rd Q x.cs (TFr.mk n x.T x.ds).fr ⟨x.nx, x.H⟩ := by
  intro k
  induction k with
  | zero =>
    intro x y ho h
    cases h
    exact ⟨ho, fun _ h => h⟩
  | succ k ih =>
    intro ⟨cs, T, ds, nx, H⟩ y ho h
    simp only [xpre] at h
    split at h
    · cases h
    · rename_i a b cs
      obtain ⟨h1, h2⟩ := ih ⟨a :: b :: cs, T, ds, nx, H⟩ y ho h
      exact ⟨h1, fun Q hq => (h2 Q hq).seq⟩
    · rename_i c cs _
      split at h
      · rename_i T1 ds1 nx1 H1 hx
        obtain ⟨k1, k2⟩ := xcode_ok hk hc hr fuel rd n c T ds nx H .normal ⟨n, T1, ds1⟩ ⟨nx1, H1⟩ ho (by rw [hx]; rfl)
        obtain ⟨h1, h2⟩ := ih ⟨cs, T1, ds1, nx1, H1⟩ y k1 h
        refine ⟨h1, fun Q hq => ?_⟩
        show ACode E rd c _ _ _
        refine k2.mono ?_
        rintro e1 fr1 s1 ⟨rfl, rfl, rfl⟩
        exact h2 Q hq
      · cases h

theorem xall_ok {E : Env P} {E2 : Env2 E} {kf : CodeF} {cf : CallF} {rf : RoundF} (hk : CodeOk E kf) (hc : CallOk E cf) (hr : RoundOk E rf) {fuel : Nat} {rd : Option Nat} {n : Nat} : ∀ (cs : List Code) (T : Tr AV) (ds : List ADef) (nx : Nat) (H : Tr AObj) (e : AExit) (tf' : TFr) (st' : ASt),
    (TFr.mk n T ds).Ok → (xall E E2 kf cf rf fuel rd n cs T ds nx H).opt n = some (e, tf', st') → tf'.Ok ∧ ACodes E rd (Lands tf' e st') cs (TFr.mk n T ds).fr ⟨nx, H⟩
  | [], T, ds, nx, H, e, tf', st', ho, h => by
    cases h
    exact ⟨ho, rfl, rfl, rfl⟩
  | c :: cs, T, ds, nx, H, e, tf', st', ho, h => by
    rcases xthen_ok h with ⟨T1, ds1, nx1, H1, h1, h2⟩ | ⟨h1, h2⟩
    · obtain ⟨k1, k2⟩ := xcode_ok hk hc hr fuel rd n c T ds nx H .normal ⟨n, T1, ds1⟩ ⟨nx1, H1⟩ ho (by rw [h1]; rfl)
      obtain ⟨j1, j2⟩ := xall_ok hk hc hr cs T1 ds1 nx1 H1 e tf' st' k1 h2
      refine ⟨j1, ?_⟩
      show ACode E rd c _ _ _
      refine k2.mono ?_
      rintro e1 fr1 s1 ⟨rfl, rfl, rfl⟩
      exact j2
    · obtain ⟨k1, k2⟩ := xcode_ok hk hc hr fuel rd n c T ds nx H e tf' st' ho h1
      refine ⟨k1, ?_⟩
      show ACode E rd c _ _ _
      refine k2.mono ?_
      rintro e1 fr1 s1 ⟨rfl, rfl, rfl⟩
      cases e1 with
      | normal => exact absurd rfl h2
      | _ => exact ⟨rfl, rfl, rfl⟩

/-- What the rest of a function's body hands back. -/
def xend (E : Env P) (E2 : Env2 E) (df : DefF) (fn : Func) (r : Option (AExit × TFr × ASt)) : Option (AEnd × ASt) :=
  match r with
  | some (.normal, tf, st1) => evLeaves E E2 df fn tf tf.ds .returning st1
  | some (.ret, tf, st1) => evLeaves E E2 df fn tf tf.ds .returning st1
  | some (.pan v, tf, st1) => evLeaves E E2 df fn tf tf.ds (.panicking v) st1
  | _ => none

/-- The frame with which a call begins. -/
def xbegin (_ : Func) (c : Code) (args : List AV) (st : ASt) : XSt := ⟨[c], xfill args 0 .leaf, [], st.next, st.objs⟩
def xntmps (fn : Func) (args : List AV) : Nat := Nat.add (llen args) (Nat.sub fn.ntmps (llen args))

theorem Sound.pieces {E : Env P} {E2 : Env2 E} {kf : CodeF} {cf : CallF} {rf : RoundF} {df : DefF} (hk : CodeOk E kf) (hc : CallOk E cf) (hr : RoundOk E rf) (hd : DefOk E df) {fuel : Nat} {f : FuncId} {fn : Func} {c : Code} (hf : E.fn f = some fn) (hb : fn.body = some c)
    {args : List AV} {st : ASt} {k : Nat} {y : XSt} {e : AEnd} {s : ASt} (h1 : xpre E E2 kf cf rf fuel none (xntmps fn args) k (xbegin fn c args st) = some y)
    (h2 : xend E E2 df fn ((xall E E2 kf cf rf fuel none (xntmps fn args) y.cs y.T y.ds y.nx y.H).opt (xntmps fn args)) = some (e, s)) :
    Sound E f args st fun e' s' => e' = e ∧ s' = s := by
  have htf : (TFr.mk (xntmps fn args) (xfill args 0 .leaf) []) = tinit (fn.ntmps - args.length) args := by
    unfold xntmps tinit
    rw [llen_eq, xfill_eq]
    rfl
  have hto : (TFr.mk (xntmps fn args) (xfill args 0 .leaf) []).Ok := by
    rw [htf]; exact tinit_ok _ _
  obtain ⟨ho, hpre⟩ := xpre_ok hk hc hr k _ y hto h1
  have hfr : (TFr.mk (xntmps fn args) (xfill args 0 .leaf) []).fr = ⟨atmps fn args, []⟩ := by
    rw [htf, tinit_fr]; rfl
  have body : ∀ {e1 tf1 st1}, (xall E E2 kf cf rf fuel none (xntmps fn args) y.cs y.T y.ds y.nx y.H).opt (xntmps fn args) = some (e1, tf1, st1) → tf1.Ok ∧ ACode E none c ⟨atmps fn args, []⟩ st (Lands tf1 e1 st1) := by
    intro e1 tf1 st1 hx
    obtain ⟨k1, k2⟩ := xall_ok hk hc hr _ _ _ _ _ _ _ _ ho hx
    have k3 := hpre _ k2
    have k4 : ACodes E none (Lands tf1 e1 st1) [c] (TFr.mk (xntmps fn args) (xfill args 0 .leaf) []).fr st := k3
    rw [hfr] at k4
    exact ⟨k1, k4.one⟩
  unfold xend at h2
  split at h2
  · rename_i tf st1 hx
    obtain ⟨k1, k2⟩ := body hx
    refine Sound.body (E2 := E2) hf hb (k2.mono ?_)
    rintro e1 fr1 s1 ⟨rfl, rfl, rfl⟩
    exact evLeaves_ok hd k1 _ _ _ _ _ h2
  · rename_i tf st1 hx
    obtain ⟨k1, k2⟩ := body hx
    refine Sound.body (E2 := E2) hf hb (k2.mono ?_)
    rintro e1 fr1 s1 ⟨rfl, rfl, rfl⟩
    exact evLeaves_ok hd k1 _ _ _ _ _ h2
  · rename_i v tf st1 hx
    obtain ⟨k1, k2⟩ := body hx
    refine Sound.body (E2 := E2) hf hb (k2.mono ?_)
    rintro e1 fr1 s1 ⟨rfl, rfl, rfl⟩
    exact evLeaves_ok hd k1 _ _ _ _ _ h2
  · cases h2

/-- What stands there already. -/
theorem fset_self : ∀ (p : Pth) (T : Tr AV) (v : AV), fget p T = v → v ≠ .undef → fset p v T = T := by
  intro p
  induction p with
  | z =>
    intro T v h hv
    cases T with
    | leaf => exact absurd h.symm hv
    | node w l r =>
      cases w with
      | none => exact absurd h.symm hv
      | some a => have h : a = v := h; subst h; rfl
  | o p ih =>
    intro T v h hv
    cases T with
    | leaf => exact absurd h.symm hv
    | node w l r =>
      show Tr.node w (fset p v l) r = _
      rw [ih l v h hv]
  | i p ih =>
    intro T v h hv
    cases T with
    | leaf => exact absurd h.symm hv
    | node w l r =>
      show Tr.node w l (fset p v r) = _
      rw [ih r v h hv]

end
end Go.Abs
