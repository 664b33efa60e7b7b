import Derived.Test.YtmphidppfclaoaaGreatDoorFa
import Derived.Laws.MakeOwn
import Derived.Great.BuildSlice
import Derived.Laws.BytesArg
import Derived.Laws.AppendOwn
import Derived.Laws.BitsLemmas
/- OPERATIONS THAT MAKE MEMORY. -/
namespace Go.Abs
variable {P : Program}

/-! ## frozen cells more -/
def Mu.addK (m : Mu) (b : Nat) (c : List Value) : Mu := { m with K := fun b' o => if b' = b then c[o]? else m.K b' o }

theorem Mu.ext_addK {m : Mu} {b : Nat} {c : List Value} (h : ∀ o, m.K b o = none) : Ext m (m.addK b c) :=
  ⟨fun _ _ e => e, fun b' o v e => by
    by_cases hb : b' = b
    · subst hb; rw [h] at e; cases e
    · simp [Mu.addK, hb, e]⟩

theorem SR.noK {m : Mu} {st : ASt} {w : World} (h : SR m st w) (o : Nat) : m.K w.heap.size o = none := by
  cases hk : m.K w.heap.size o with
  | none => rfl
  | some v => exact absurd (h.K_lt hk) (Nat.lt_irrefl _)

theorem RowR.of_addK {m : Mu} {b : Nat} : ∀ (as : List AV) (vs pre : List Value), VRs (m.addK b (pre ++ vs)) as vs → RowR (m.addK b (pre ++ vs)) b pre.length as
  | [], _, pre, .nil => .nil b _
  | a :: as, v :: vs, pre, .cons h t => by
    refine .cons (v := v) ?_ h ?_
    · simp [Mu.addK]
    · have e : pre ++ v :: vs = (pre ++ [v]) ++ vs := by simp
      rw [e] at t ⊢
      have := RowR.of_addK as vs (pre ++ [v]) t
      simpa using this

/-- A NEW BLOCK, frozen at birth. -/
theorem SR.allocK {m : Mu} {st : ASt} {w : World} (h : SR m st w) (c : Array Value) (e : TypeId) (n : Nat) (hn : st.next ≤ n) :
    Stp m st w (m.addK w.heap.size c.toList) { st with next := n } (w.alloc (.cells c e)) := by
  have hext : Ext m (m.addK w.heap.size c.toList) := Mu.ext_addK h.noK
  have hheap : ∀ b, b < w.heap.size → (w.alloc (.cells c e)).heap[b]? = w.heap[b]? := fun b hb => by
    show (w.heap.push _)[b]? = w.heap[b]?
    rw [Array.getElem?_push, if_neg (Nat.ne_of_lt hb)]
  refine ⟨⟨hext, ⟨?_, h.inj, ?_, ?_, fun id x hx => Nat.lt_of_lt_of_le (h.dom id x hx) hn⟩, ⟨rfl, rfl, rfl, by simp, fun b hb _ => hheap b hb⟩, fun b _ ho => ho, hn⟩, fun _ _ => rfl, fun b i v hb hk => by
    have hne : b ≠ w.heap.size := Nat.ne_of_lt hb
    simp only [Mu.addK, hne, if_false] at hk
    exact .inl hk⟩
  · intro id o ho
    obtain ⟨b, r, ob, h1, h2, h3⟩ := h.obj id o ho
    exact ⟨b, r, ob, h1, by rw [hheap b (Array.getElem?_eq_some_iff.1 h2).1]; exact h2, h3.mono hext⟩
  · intro b o v hk
    by_cases hb : b = w.heap.size
    · subst hb
      simp only [Mu.addK, if_true] at hk
      rw [World.cell?_alloc_new]
      simpa using hk
    · simp only [Mu.addK, hb, if_false] at hk
      rw [World.cell?_alloc_old w _ ⟨b, o, none⟩ hb]
      exact h.cell b o v hk
  · intro b i v ho hk
    by_cases hb : b = w.heap.size
    · subst hb
      exact absurd (h.owned_lt ho) (Nat.lt_irrefl _)
    · simp only [Mu.addK, hb, if_false] at hk
      exact h.apart b i v ho hk

/-! ## rows of zeroes -/
def amade (z : List AV) : Nat → List AV
  | 0 => []
  | n + 1 => z ++ amade z n

theorem amade_length (z : List AV) : ∀ n, (amade z n).length = n * z.length
  | 0 => by simp [amade]
  | n + 1 => by simp [amade, amade_length z n, Nat.add_mul, Nat.add_comm]

theorem madeCells_list (z : Array Value) : ∀ n, (madeCells z (n * z.size)).toList = (List.replicate n z.toList).flatten
  | 0 => by simp [madeCells]
  | n + 1 => by
    have ih := madeCells_list z n
    unfold madeCells at ih ⊢
    rw [Array.toList_map, Array.toList_range] at ih ⊢
    rw [Nat.add_mul, Nat.one_mul, List.range_add, List.map_append, ih, List.replicate_succ', List.flatten_append]
    congr 1
    rw [List.map_map]
    simp only [List.flatten_cons, List.flatten_nil, List.append_nil]
    apply List.ext_getElem
    · simp
    · intro i h1 h2
      simp only [List.length_map, List.length_range] at h1
      have hm : (n * z.size + i) % z.size = i := by
        rw [Nat.add_comm, Nat.add_mul_mod_self_right, Nat.mod_eq_of_lt h1]
      simp [hm, h1]

theorem amade_ok {m : Mu} {zs : List AV} {z : Array Value} (h : VRs m zs z.toList) : ∀ n, VRs m (amade zs n) (madeCells z (n * z.size)).toList := by
  intro n
  rw [madeCells_list]
  induction n with
  | zero => simpa [amade] using VRs.nil
  | succ n ih => simpa [amade, List.replicate_succ] using h.append ih

/-! ## slice literals -/
theorem awrite_app : ∀ (vs A B : List AV), vs.length ≤ B.length → awrite (A ++ B) A.length vs = A ++ vs ++ B.drop vs.length
  | [], A, B, _ => by simp [awrite]
  | v :: vs, A, b :: B, h => by
    simp only [awrite]
    have e1 : (A ++ b :: B).set A.length v = (A ++ [v]) ++ B := by simp
    have e2 : A.length + 1 = (A ++ [v]).length := by simp
    rw [e1, e2, awrite_app vs (A ++ [v]) B (by simpa using h)]
    simp
  | v :: vs, A, [], h => by simp at h

def adense : Nat → List (Nat × AV) → Option (List AV)
  | _, [] => some []
  | n, (i, v) :: rest => if i = n then (adense (n + 1) rest).map (v :: ·) else none

theorem adense_fill {sz : Nat} : ∀ {parts : List (Nat × AV)} {n : Nat} {el : List AV} (A B : List AV), adense n parts = some el → (∀ e, e ∈ el → e.cells.length = sz) →
    A.length = n * sz → B.length = el.length * sz → afill (fun i => some (i * sz, sz)) (A ++ B) parts = some (A ++ el.flatMap AV.cells)
  | [], n, el, A, B, h, hw, hA, hB => by
    cases h
    have : B = [] := List.eq_nil_of_length_eq_zero (by simpa using hB)
    subst this
    simp [afill]
  | (i, v) :: rest, n, el, A, B, h, hw, hA, hB => by
    simp only [adense] at h
    split at h
    · rename_i hi
      subst hi
      cases hr : adense (i + 1) rest with
      | none => rw [hr] at h; cases h
      | some el' =>
        rw [hr] at h
        cases h
        have hv := hw v (by simp)
        simp only [List.length_cons] at hB
        have hBsz : sz ≤ B.length := by rw [hB, Nat.add_mul]; omega
        simp only [afill]
        rw [if_neg (by simp [hv, hA]; exact hBsz)]
        have hA' : i * sz = A.length := hA.symm
        rw [hA', awrite_app _ _ _ (by rw [hv]; exact hBsz), hv]
        rw [adense_fill (A ++ v.cells) (B.drop sz) hr (fun e he => hw e (by simp [he])) (by simp [hA, hv, Nat.add_mul]) (by simp [hB, Nat.add_mul])]
        simp
    · cases h

inductive ANew where
  | obj (o : AObj)
  | frz (cells : List AV)

/-- The operations that make one block. 'id': the number that an object gets. -/
def aalloc (E : Env P) (ρ : Operand → Option AV) (id : Nat) : Op → Option (AV × ANew)
  | .alloc t => (E.zero t).map fun z => (.ptr id 0, .obj (.row z.cells))
  | .box _ x => (ρ x).map fun a => (.ptr id 0, .obj (.row a.cells))
  | .buildSlice t len parts =>
    match E.und t with
    | some (.slice elem) =>
      if len = 0 ∧ parts.size = 0 then (E.size elem).map fun sz => (.oslc id 0 0 sz true, .obj (.row [])) else
      match E.zero elem, E.size elem, aparts ρ parts.toList with
      | some z, some sz, some ps =>
        match adense 0 ps with
        | some el => if len = el.length ∧ len * sz ≤ 16777216 ∧ len * sz ≠ 0 ∧ z.cells.length = sz ∧ (el.all fun e => e.cells.length == sz) then some (.fslc sz el true, .frz (el.flatMap AV.cells)) else none
        | none => none
      | _, _, _ => none
    | _ => none
  | .makeMap t r =>
    match r with
    | none => some (.map id, .obj (.map [] 0))
    | some x => match E.und t, ρ x with
      | some (.map _ _), some (.int _ _) => some (.map id, .obj (.map [] 0))
      | _, _ => none
  | .makeSlice t l c =>
    match E.und t, ρ l, ρ c with
    | some (.slice elem), some (.int _ l), some (.int _ c) =>
      match E.zero elem, E.size elem, E.info elem with
      | some z, some sz, some i =>
        if 0 ≤ l ∧ l ≤ c ∧ (i.bytes : Int) * c ≤ 281474976710656 ∧ c ≤ 9223372036854775807 ∧ z.cells.length = sz then some (.oslc id 0 l.toNat sz (l == c), .obj (.row (amade z.cells l.toNat))) else none
      | _, _, _ => none
    | _, _, _ => none
  | _ => none

def Mu.addNew (m : Mu) (id b r : Nat) (c : List Value) : ANew → Mu
  | .obj _ => m.add id b r
  | .frz _ => m.addK b c

/-- What a new thing is to the block that was made. -/
def NewR (m : Mu) (id b : Nat) (nw : ANew) (ob : Obj) (m' : Mu) : Prop :=
  match nw with
  | .obj o => ∃ r, m' = m.add id b r ∧ OR m' o ob r
  | .frz cs => ∃ c e, ob = .cells c e ∧ m' = m.addK b c.toList ∧ RowR m' b 0 cs

def ASt.putNew (st : ASt) (id n : Nat) : ANew → ASt
  | .obj o => { (st.put id o) with next := n }
  | .frz _ => { st with next := n }

theorem SR.allocNew0 {m m' : Mu} {st : ASt} {w : World} (h : SR m st w) {id n : Nat} {nw : ANew} {ob : Obj} (hid : m.loc id = none) (hn : st.next ≤ n) (hidn : id < n)
    (hr : NewR m id w.heap.size nw ob m') : Stp0 m st w m' (st.putNew id n nw) (w.alloc ob) := by
  cases nw with
  | obj o =>
    obtain ⟨r, rfl, hor⟩ := hr
    exact h.alloc0 id hid o ob r n hor hn hidn
  | frz cs =>
    obtain ⟨c, e, rfl, rfl, hrow⟩ := hr
    exact (h.allocK c e n hn).toStp0

/-- Only the number itself gets a meaning. -/
theorem NewR.loc {m m' : Mu} {id b : Nat} {nw : ANew} {ob : Obj} (hr : NewR m id b nw ob m') {j : Nat} (h : j ≠ id) : m'.loc j = m.loc j := by
  cases nw with
  | obj o =>
    obtain ⟨r, rfl, hor⟩ := hr
    exact Mu.loc_add_ne _ _ _ h
  | frz cs =>
    obtain ⟨c, e, rfl, rfl, hrow⟩ := hr
    rfl

theorem SR.allocNew {m m' : Mu} {st : ASt} {w : World} (h : SR m st w) {id n : Nat} {nw : ANew} {ob : Obj} (hid : m.loc id = none) (hn : st.next ≤ n) (hidn : id < n) (hge : st.next ≤ id)
    (hr : NewR m id w.heap.size nw ob m') : Stp m st w m' (st.putNew id n nw) (w.alloc ob) := by
  cases nw with
  | obj o =>
    obtain ⟨r, rfl, hor⟩ := hr
    exact h.alloc id hid o ob r n hor hn hidn hge
  | frz cs =>
    obtain ⟨c, e, rfl, rfl, hrow⟩ := hr
    exact h.allocK c e n hn

theorem aalloc_ok {E : Env P} {m : Mu} {ρ : Operand → Option AV} {ρ' : Operand → Value} (hρ : ∀ x a, ρ x = some a → VR m a (ρ' x)) {o : Oper} {id : Nat} {a : AV} {nw : ANew}
    (h : aalloc E ρ id o.op = some (a, nw)) (hid : m.loc id = none) (w : World) (hK : ∀ o, m.K w.heap.size o = none) :
    ∃ v ob m', (execOp ρ' o).run P w = .ok (.value v) (w.alloc ob) ∧ NewR m id w.heap.size nw ob m' ∧ Ext m m' ∧ VR m' a v := by
  unfold aalloc at h
  split at h
  · rename_i t e
    cases hz : E.zero t with
    | none => rw [hz] at h; cases h
    | some z =>
      rw [hz] at h
      cases h
      obtain ⟨z', h1, h2⟩ := Env.runZero hz m
      have hext : Ext m (m.add id w.heap.size z'.cells.size) := Mu.ext_add hid
      refine ⟨.pointer (some ⟨w.heap.size, 0, none⟩), .cells z'.cells t, m.add id w.heap.size z'.cells.size, ?_, ⟨_, rfl, ?_⟩, hext, .ptr 0 (Mu.loc_add _ _ _ _)⟩
      · simp [execOp, e, Instr.alloc, h2 w, newVar, newRow]
      · have hc := h1.cells
        have hl := hc.length
        refine .row (by simp at hl; omega) ?_
        rw [hl, List.take_length]
        exact hc.mono hext
  · rename_i t x e
    cases hx : ρ x with
    | none => rw [hx] at h; cases h
    | some b =>
      rw [hx] at h
      cases h
      have h1 := hρ _ _ hx
      have hext : Ext m (m.add id w.heap.size (ρ' x).cells.size) := Mu.ext_add hid
      refine ⟨.pointer (some ⟨w.heap.size, 0, none⟩), .cells (ρ' x).cells t, m.add id w.heap.size (ρ' x).cells.size, ?_, ⟨_, rfl, ?_⟩, hext, .ptr 0 (Mu.loc_add _ _ _ _)⟩
      · simp [execOp, e, Instr.box, newVar, newRow]
      · have hc := h1.cells
        have hl := hc.length
        refine .row (by simp at hl; omega) ?_
        rw [hl, List.take_length]
        exact hc.mono hext
  · rename_i t len parts e
    split at h
    · rename_i elem hu
      split at h
      · rename_i h00
        obtain ⟨rfl, hp0⟩ := h00
        cases hs : E.size elem with
        | none => rw [hs] at h; cases h
        | some sz =>
          rw [hs] at h
          cases h
          obtain ⟨ie, hie, hsz⟩ := Env.info_of_size hs
          have hpe : parts = #[] := by simpa using hp0
          subst hpe
          have hext : Ext m (m.add id w.heap.size 0) := Mu.ext_add hid
          refine ⟨.slice (some ⟨w.heap.size, 0, none⟩) 0 0, .cells #[] elem, m.add id w.heap.size 0, ?_, ⟨0, rfl, .row (c := #[]) (Nat.le_refl _) .nil⟩, hext, .oslc (Mu.loc_add _ _ _ _) (by simp) (Nat.le_refl _) (fun _ => rfl)⟩
          have h0 : ∀ (f : Nat → Value), (Array.range 0).map f = #[] := fun f => Array.eq_empty_of_size_eq_zero (by simp)
          simp [execOp, e, Instr.buildSlice, Env.runUnd hu, Env.runSize hs, Instr.fill, newRow, h0]
      rename_i h00
      split at h
      · rename_i z sz ps hz hs hp
        split at h
        · rename_i el hd
          split at h
          · rename_i hc
            obtain ⟨hlen, hle, hne, hzc, hall⟩ := hc
            cases h
            have hw : ∀ e, e ∈ el → e.cells.length = sz := by
              intro e he
              have := List.all_eq_true.1 hall e he
              simpa using this
            obtain ⟨ie, hie, hsz⟩ := Env.info_of_size hs
            obtain ⟨i2, z', hi2, hz', hzr⟩ := Env.info_of_zero hz m
            rw [hie] at hi2
            cases hi2
            have hpr : PartsR m ps (parts.map fun x => (x.1, ρ' x.2)).toList := by
              rw [Array.toList_map]
              exact aparts_ok hρ hp
            have hzl : z.cells.length = z'.cells.size := hzr.cells_size.symm
            have key : ∃ cells, Instr.fill (fun i => some (i * ie.size, ie.size)) ((Array.range (len * ie.size)).map (z'.cells[· % z'.cells.size]!)) (parts.map fun x => (x.1, ρ' x.2)).toList = some cells ∧
                VRs m (el.flatMap AV.cells) cells.toList := by
              have hm := amade_ok hzr.cells len
              have hzs : z'.cells.size = sz := by rw [← hzl, hzc]
              rw [hzs] at hm
              have hfill := adense_fill (sz := sz) (parts := ps) (n := 0) (el := el) [] (amade z.cells len) hd hw (by simp) (by rw [amade_length, hzc, hlen])
              simp only [List.nil_append] at hfill
              obtain ⟨out, h1, h2⟩ := afill_ok _ hpr hm hfill
              refine ⟨out, ?_, h2⟩
              rw [hsz]
              exact h1
            obtain ⟨cells, hf, hvr⟩ := key
            have hext : Ext m (m.addK w.heap.size cells.toList) := Mu.ext_addK hK
            have hrow : RowR (m.addK w.heap.size cells.toList) w.heap.size 0 (el.flatMap AV.cells) := by
              have := RowR.of_addK (m := m) (b := w.heap.size) (el.flatMap AV.cells) cells.toList [] (by simpa using hvr.mono hext)
              simpa using this
            refine ⟨.slice (some ⟨w.heap.size, 0, none⟩) len len, .cells cells elem, m.addK w.heap.size cells.toList, ?_, ⟨_, _, rfl, rfl, hrow⟩, hext, .fslc hrow hw hlen.symm (Nat.le_refl _) (fun _ => rfl)⟩
            have := run_buildSlice (P := P) w t elem len (parts.map fun x => (x.1, ρ' x.2)) cells ie z' (E.und_ok _ _ hu) hie hz' (by rw [hsz]; omega) (by rw [hsz]; exact hne) hf
            simp only [execOp, e, Sem.run_bind, this, Result.andThen_ok]
            rfl
          · cases h
        · cases h
      · cases h
    · cases h
  · rename_i t r e
    split at h
    · cases h
      exact ⟨.map (some w.heap.size), .map #[] 0, m.add id w.heap.size 0, by simp [execOp, e, Instr.makeMap], ⟨0, rfl, .map .nil (by simp)⟩, Mu.ext_add hid, .map (Mu.loc_add _ _ _ _)⟩
    · rename_i x
      split at h
      · rename_i k n hu hx
        cases h
        have hv := hρ _ _ hx
        generalize hq : ρ' x = q at hv
        cases hv
        exact ⟨.map (some w.heap.size), .map #[] 0, m.add id w.heap.size 0, by simp [execOp, e, Instr.makeMap, Env.runUnd hu, hq, asInt, asIntOf], ⟨0, rfl, .map .nil (by simp)⟩, Mu.ext_add hid, .map (Mu.loc_add _ _ _ _)⟩
      · cases h
  · rename_i t l c e
    split at h
    · rename_i elem kl ll kc cc hu hl hc
      split at h
      · rename_i z sz i hz hs hi
        split at h
        · rename_i hcond
          obtain ⟨h0, h1, h2, h3, h4⟩ := hcond
          cases h
          have hvl := hρ _ _ hl
          have hvc := hρ _ _ hc
          generalize hq : ρ' l = q at hvl
          generalize hq2 : ρ' c = q2 at hvc
          cases hvl
          cases hvc
          obtain ⟨i2, z', hi2, hz', hzr⟩ := Env.info_of_zero hz m
          have hi' := E.info_ok _ _ hi
          rw [hi'] at hi2
          cases hi2
          obtain ⟨i3, hi3, hsz⟩ := Env.info_of_size hs
          rw [hi'] at hi3
          cases hi3
          have hzs : z'.cells.size = sz := by rw [hzr.cells_size]; exact h4
          have hrun := run_make (P := P) w t elem i z' (E.und_ok _ _ hu) hi' hz' kl kc ll cc h0 h1 h2 h3
          have hext : Ext m (m.add id w.heap.size (cc.toNat * i.size)) := Mu.ext_add hid
          have hsize : (madeCells z'.cells (cc.toNat * i.size)).size = cc.toNat * i.size := size_madeCells _ _
          refine ⟨.slice (some ⟨w.heap.size, 0, none⟩) ll.toNat cc.toNat, .cells (madeCells z'.cells (cc.toNat * i.size)) elem, m.add id w.heap.size (cc.toNat * i.size), ?_, ⟨_, rfl, ?_⟩, hext, ?_⟩
          · simp [execOp, e, hq, hq2, hrun]
          · have key := OR.row (m := m.add id w.heap.size (cc.toNat * i.size)) (cs := amade z.cells ll.toNat) (c := madeCells z'.cells (cc.toNat * i.size)) (e := elem) ?_ ?_
            · rw [hsize] at key; exact key
            · rw [amade_length, hsize, h4, hsz]
              exact Nat.mul_le_mul_right _ (by omega)
            · rw [amade_length]
              have hm := (amade_ok hzr.cells cc.toNat)
              rw [hzs, ← hsz] at hm
              have ht := (hm.take (ll.toNat * z.cells.length)).mono hext
              have : (amade z.cells cc.toNat).take (ll.toNat * z.cells.length) = amade z.cells ll.toNat := by
                have hle : ll.toNat ≤ cc.toNat := by omega
                generalize ll.toNat = x at hle
                generalize cc.toNat = y at hle
                clear ht hm hsize hrun hext
                induction y generalizing x with
                | zero => have : x = 0 := by omega
                          subst this; simp [amade]
                | succ y ih =>
                  cases x with
                  | zero => simp [amade]
                  | succ x =>
                    simp only [amade]
                    rw [show (x + 1) * z.cells.length = z.cells.length + x * z.cells.length by rw [Nat.add_mul]; omega, List.take_add, List.take_left, List.drop_left, ih x (by omega)]
              rw [this] at ht
              exact ht
          · refine .oslc (Mu.loc_add _ _ _ _) (by rw [hsz]; omega) (by omega) (fun hx => ?_)
            have : ll = cc := by simpa using hx
            rw [this]
        · cases h
      · cases h
    · cases h
  · cases h

end Go.Abs

/- OPERATIONS THAT READ. -/
namespace Go.Abs
variable {P : Program}

theorem SR.row_cell {m : Mu} {st : ASt} {w : World} (h : SR m st w) {id b r : Nat} {cs : List AV} (hg : st.get id = some (.row cs)) (hl : m.loc id = some (b, r)) {i : Nat} {a : AV}
    (hi : cs[i]? = some a) : ∃ v, w.cell? ⟨b, i, none⟩ = some v ∧ VR m a v := by
  obtain ⟨b', r', ob, h1, h2, h3⟩ := h.obj id _ hg
  rw [hl] at h1; cases h1
  cases h3 with
  | row hlen hv =>
    rename_i c e
    obtain ⟨v, hv1, hv2⟩ := hv.get hi
    refine ⟨v, ?_, hv2⟩
    have hlt : i < cs.length := by
      rcases Nat.lt_or_ge i cs.length with h | h
      · exact h
      · rw [List.getElem?_eq_none h] at hi; cases hi
    rw [List.getElem?_take, if_pos hlt] at hv1
    have hv1' : c[i]? = some v := by simpa using hv1
    simp [World.cell?, h2, hv1']

theorem gather {m : Mu} {w : World} {b : Nat} : ∀ {l : List AV} {o : Nat}, (∀ i a, l[i]? = some a → ∃ v, w.cell? ⟨b, o + i, none⟩ = some v ∧ VR m a v) →
    ∃ vs, VRs m l vs ∧ ∀ j v, vs[j]? = some v → w.cell? ⟨b, o + j, none⟩ = some v
  | [], _, _ => ⟨[], .nil, by simp⟩
  | a :: l, o, h => by
    obtain ⟨v, h1, h2⟩ := h 0 a rfl
    obtain ⟨vs, k1, k2⟩ := gather (l := l) (o := o + 1) (fun i a hi => by
      have := h (i + 1) a (by simpa using hi)
      rwa [show o + (i + 1) = o + 1 + i by omega] at this)
    refine ⟨v :: vs, .cons h2 k1, ?_⟩
    intro j u hu
    cases j with
    | zero => simp at hu; subst hu; simpa using h1
    | succ j =>
      simp at hu
      have := k2 j u hu
      rwa [show o + 1 + j = o + (j + 1) by omega] at this

def aloadRow (E : Env P) (t : TypeId) (cells : List AV) (off : Nat) : Option AV :=
  match E.isAgg t, E.size t with
  | some true, some n => if off + n ≤ cells.length then some (.agg ((cells.drop off).take n)) else none
  | some false, _ => cells[off]?
  | _, _ => none

theorem aloadRow_ok {E : Env P} {m : Mu} {w : World} {t : TypeId} {cells : List AV} {off b base : Nat} {a : AV} (h : aloadRow E t cells off = some a)
    (hc : ∀ i a, cells[i]? = some a → ∃ v, w.cell? ⟨b, base + i, none⟩ = some v ∧ VR m a v) :
    ∃ v, VR m a v ∧ (loadVar t ⟨b, base + off, none⟩).run P w = .ok v w := by
  unfold aloadRow at h
  split at h
  · rename_i n hu hs
    split at h
    · rename_i hle
      cases h
      obtain ⟨vs, h1, h2⟩ := gather (m := m) (w := w) (b := b) (l := (cells.drop off).take n) (o := base + off) (fun i a hi => by
        rw [List.getElem?_take] at hi
        split at hi
        · rw [List.getElem?_drop] at hi
          obtain ⟨v, k1, k2⟩ := hc _ a hi
          exact ⟨v, by rw [← k1]; congr 2; omega, k2⟩
        · cases hi)
      have hlen : vs.length = n := by
        have := h1.length
        rw [List.length_take, List.length_drop] at this
        omega
      refine ⟨.agg ⟨vs⟩, .agg h1, ?_⟩
      have hl := run_loadCells_list (P := P) w ⟨b, base + off, none⟩ vs (fun j v hj => by rw [addr_add]; exact h2 j v hj)
      rw [hlen] at hl
      simp [loadVar, Env.runIsAgg hu, Env.runSize hs, hl]
    · cases h
  · rename_i hu
    obtain ⟨v, h1, h2⟩ := hc _ _ h
    exact ⟨v, h2, by simp [loadVar, Env.runIsAgg hu, h1]⟩
  · cases h

def aload (E : Env P) (st : ASt) (t : TypeId) (x : AV) : Option AV :=
  match x with
  | .ptr id off => match st.get id with
    | some (.row cells) => aloadRow E t cells off
    | _ => none
  | .fptr _ el i j => match el[i]? with
    | some e => aloadRow E t e.cells j
    | none => none
  | _ => none

theorem flat_get {sz : Nat} {el : List AV} (hw : ∀ e, e ∈ el → e.cells.length = sz) {i : Nat} {e : AV} (hi : el[i]? = some e) {k : Nat} {a : AV} (hk : e.cells[k]? = some a) :
    (el.flatMap AV.cells)[i * sz + k]? = some a := by
  have hmem : e ∈ el := List.mem_of_getElem? hi
  have hlt : k < sz := by
    rw [← hw e hmem]
    rcases Nat.lt_or_ge k e.cells.length with h | h
    · exact h
    · rw [List.getElem?_eq_none h] at hk; cases hk
  have h1 : ((el.flatMap AV.cells).drop (i * sz))[k]? = some a := by
    rw [← flat_drop i hw]
    have hil : i < el.length := by
      rcases Nat.lt_or_ge i el.length with h | h
      · exact h
      · rw [List.getElem?_eq_none h] at hi; cases hi
    have hd : el.drop i = e :: el.drop (i + 1) := by
      rw [List.drop_eq_getElem_cons hil]
      congr 1
      rw [List.getElem?_eq_getElem hil] at hi
      exact Option.some.inj hi
    rw [hd, List.flatMap_cons, List.getElem?_append_left (by rw [hw e hmem]; exact hlt)]
    exact hk
  rwa [List.getElem?_drop] at h1

theorem aload_ok {E : Env P} {m : Mu} {st : ASt} {w : World} (hs : SR m st w) {t : TypeId} {x a : AV} (h : aload E st t x = some a) {x' : Value} (hx : VR m x x') :
    ∃ v, VR m a v ∧ (Instr.loadAt t x').run P w = .ok v w := by
  unfold aload at h
  split at h
  · rename_i id off
    split at h
    · rename_i cells hg
      cases hx with
      | ptr _ hl =>
        rename_i b r
        obtain ⟨v, h1, h2⟩ := aloadRow_ok (base := 0) (b := b) h (fun i a hi => by simpa using hs.row_cell hg hl hi)
        refine ⟨v, h1, ?_⟩
        simp only [Nat.zero_add] at h2
        simp [Instr.loadAt, Instr.sureAddr, h2]
    · cases h
  · rename_i sz el i j
    split at h
    · rename_i e he
      cases hx with
      | fptr _ _ hr hw =>
        rename_i b o
        obtain ⟨v, h1, h2⟩ := aloadRow_ok (m := m) (w := w) (base := o + i * sz) (b := b) h (fun k a hk => by
          obtain ⟨v, k1, k2⟩ := hr.get (flat_get hw he hk)
          exact ⟨v, by have := hs.cell _ _ _ k1; rw [← this]; congr 2; omega, k2⟩)
        exact ⟨v, h1, by simp [Instr.loadAt, Instr.sureAddr, h2]⟩
    · cases h
  · cases h

/-! ## maps: keys -/
def akeyNow : TypeDesc → AV → AV → Option Bool
  | .int _, .int k a, .int k' b => if k = k' then some (a == b) else none
  | .string, .str a, .str b => some (a == b)
  | .bool, .bool a, .bool b => some (a == b)
  | _, _, _ => none

theorem akeyNow_ok {m : Mu} {d : TypeDesc} {a b : AV} {r : Bool} (h : akeyNow d a b = some r) {a' b' : Value} (ha : VR m a a') (hb : VR m b b') : Instr.sameNow d a' b' = some r := by
  unfold akeyNow at h
  split at h
  · split at h
    · rename_i hk; cases h; cases ha; cases hb; simp [Instr.sameNow, hk]
    · cases h
  · cases h; cases ha; cases hb
    simp only [Instr.sameNow]
    rw [beq_toListBytes, ByteArray.toList_eq, ByteArray.toList_eq]
  · cases h; cases ha; cases hb; rfl
  · cases h

def afind (f : AV → AV → Option Bool) (k : AV) : List (AV × AV × Nat) → Nat → Option (Option (Nat × AV × Nat))
  | [], _ => some none
  | (k', v, n) :: es, i =>
    match f k k' with
    | some true => some (some (i, v, n))
    | some false => afind f k es (i + 1)
    | none => none

/-- What was found: the entry of that number, its value, its birth. -/
inductive FoundR (m : Mu) (es : List MapEntry) (i0 : Nat) : Option (Nat × AV × Nat) → Option (Nat × Value) → Prop
  | none : FoundR m es i0 none none
  | some {i : Nat} {v : AV} {v' : Value} {n : Nat} (hv : VR m v v') (hi : i0 ≤ i) (he : ∃ e, es[i - i0]? = some e ∧ e.val = v' ∧ e.born = n) : FoundR m es i0 (some (i, v, n)) (some (i, v'))

theorem FoundR.tail {m : Mu} {e : MapEntry} {es : List MapEntry} {i0 : Nat} {a : Option (Nat × AV × Nat)} {b : Option (Nat × Value)} (h : FoundR m es (i0 + 1) a b) : FoundR m (e :: es) i0 a b := by
  cases h with
  | none => exact .none
  | some hv hi he =>
    rename_i i v v' n
    refine .some hv (by omega) ?_
    rw [show i - i0 = (i - (i0 + 1)) + 1 by omega]
    simpa using he

theorem afind_now {m : Mu} {d : TypeDesc} {k : AV} {k' : Value} (hk : VR m k k') : ∀ {es : List (AV × AV × Nat)} {fs : List MapEntry} {i : Nat} {r : Option (Nat × AV × Nat)},
    afind (akeyNow d) k es i = some r → MapR m es fs → ∃ r', Instr.findNow d k' fs i = some r' ∧ FoundR m fs i r r'
  | [], _, i, r, h, .nil => by cases h; exact ⟨none, rfl, .none⟩
  | (k2, v, n) :: es, _, i, r, h, .cons (k' := k2') (v' := v') hk2 hv t => by
    simp only [afind] at h
    split at h
    · rename_i hq
      cases h
      refine ⟨some (i, v'), ?_, .some hv (Nat.le_refl _) ⟨⟨k2', v', n⟩, by simp, rfl, rfl⟩⟩
      simp [Instr.findNow, akeyNow_ok hq hk hk2]
    · rename_i hq
      obtain ⟨r', h1, h2⟩ := afind_now hk h t
      refine ⟨r', ?_, h2.tail⟩
      simp [Instr.findNow, akeyNow_ok hq hk hk2, h1]
    · cases h

theorem afind_ask {E : Env P} {m : Mu} {kt : TypeId} {k : AV} {k' : Value} (hk : VR m k k') : ∀ {es : List (AV × AV × Nat)} {fs : List MapEntry} {i : Nat} {r : Option (Nat × AV × Nat)},
    afind (aeq E 60 kt) k es i = some r → MapR m es fs → ∃ r', (∀ w, (Instr.findAsking kt k' fs i).run P w = .ok r' w) ∧ FoundR m fs i r r'
  | [], _, i, r, h, .nil => by cases h; exact ⟨none, fun w => by simp [Instr.findAsking], .none⟩
  | (k2, v, n) :: es, _, i, r, h, .cons (k' := k2') (v' := v') hk2 hv t => by
    simp only [afind] at h
    split at h
    · rename_i hq
      cases h
      refine ⟨some (i, v'), fun w => ?_, .some hv (Nat.le_refl _) ⟨⟨k2', v', n⟩, by simp, rfl, rfl⟩⟩
      have := aeq_ok 60 hq 10000 (by omega) _ _ hk hk2 w
      simp [Instr.findAsking, Op.equal, Op.maxDepth, this]
    · rename_i hq
      obtain ⟨r', h1, h2⟩ := afind_ask hk h t
      refine ⟨r', fun w => ?_, h2.tail⟩
      have := aeq_ok 60 hq 10000 (by omega) _ _ hk hk2 w
      simp [Instr.findAsking, Op.equal, Op.maxDepth, this, h1 w]
    · cases h

def ascalar : TypeDesc → Bool
  | .int _ | .string | .bool => true
  | _ => false

def acheckFields (E : Env P) : List Field → List AV → Bool
  | [], _ => true
  | f :: fs, cs =>
    (f.name = "_" || (match apart E f.type cs f.offset, E.und f.type with
      | some _, some d => ascalar d
      | _, _ => false)) && acheckFields E fs cs

/-- A key's look-up: int, string, bool; a struct of such. -/
def akeyFind (E : Env P) (kt : TypeId) (k : AV) (es : List (AV × AV × Nat)) : Option (Option (Nat × AV × Nat)) :=
  match E.und kt with
  | some (.struct fields) =>
    match k with
    | .agg cs => if acheckFields E fields.toList cs then afind (aeq E 60 kt) k es 0 else none
    | _ => none
  | some d => if ascalar d then afind (akeyNow d) k es 0 else none
  | none => none

theorem checkKey_scalar {E : Env P} {t : TypeId} {d : TypeDesc} (hu : E.und t = some d) (hd : ascalar d = true) (em : Bool) (n : Nat) (v : Value) (w : World) :
    (Instr.checkKey em (n + 1) t v).run P w = .ok () w := by
  simp only [Instr.checkKey, Sem.run_bind, Env.runUnd hu, Result.andThen_ok]
  cases d <;> first | (simp [ascalar] at hd; done) | rfl

theorem checkFields_ok {E : Env P} {m : Mu} {cs : List AV} {cs' : Array Value} (hc : VRs m cs cs'.toList) (em : Bool) (n : Nat) : ∀ {fs : List Field}, acheckFields E fs cs = true →
    ∀ w, (forIn fs PUnit.unit fun f _ => do
        if f.name ≠ "_" then Instr.checkKey em (n + 1) f.type (← part f.type cs' f.offset)
        pure (ForInStep.yield PUnit.unit) : Sem PUnit).run P w = .ok PUnit.unit w
  | [], _, w => by simp
  | f :: fs, h, w => by
    simp only [acheckFields, Bool.and_eq_true] at h
    obtain ⟨h1, h2⟩ := h
    have ih := checkFields_ok hc em n h2 w
    by_cases hn : f.name = "_"
    · simp only [List.forIn_cons, hn, ne_eq, not_true_eq_false, if_false, Sem.run_bind, Sem.run_pure, Result.andThen_ok]
      exact ih
    · have h1' : (match apart E f.type cs f.offset, E.und f.type with
          | some _, some d => ascalar d
          | _, _ => false) = true := by simpa [hn] using h1
      split at h1'
      · rename_i a d ha hu
        obtain ⟨v, _, hv⟩ := apart_ok ha hc
        simp only [List.forIn_cons, ne_eq, hn, not_false_eq_true, if_true, Sem.run_bind, hv, Result.andThen_ok, checkKey_scalar hu h1', Sem.run_pure]
        exact ih
      · cases h1'

end Go.Abs

/- OPERATIONS THAT READ: maps; the length of a map; bytes as a text. 'aread'. -/
namespace Go.Abs
variable {P : Program}

theorem akeyFind_ok {E : Env P} {m : Mu} {kt : TypeId} {k : AV} {es : List (AV × AV × Nat)} {r : Option (Nat × AV × Nat)} (h : akeyFind E kt k es = some r) {k' : Value} (hk : VR m k k')
    {fs : List MapEntry} (hm : MapR m es fs) : ∃ r', FoundR m fs 0 r r' ∧ (∀ em w, (Instr.checkKey em 10000 kt k').run P w = .ok () w) ∧ ∀ w, (Instr.findKey kt k' fs).run P w = .ok r' w := by
  unfold akeyFind at h
  split at h
  · rename_i fields hu
    split at h
    · rename_i cs
      split at h
      · rename_i hc
        cases hk with
        | agg hcs =>
          rename_i cs'
          have gen : ∀ n em w, (Instr.checkKey em (n + 1 + 1) kt (.agg ⟨cs'⟩)).run P w = .ok () w := by
            intro n em w
            have := checkFields_ok (cs' := ⟨cs'⟩) hcs em n hc w
            rw [Instr.checkKey]
            simp only [Sem.run_bind, Env.runUnd hu, Result.andThen_ok]
            rw [← Array.forIn_toList]
            exact congrArg (fun r => Result.andThen r fun _ w' => Sem.run P (pure ()) w') this
          have hchk : ∀ em w, (Instr.checkKey em 10000 kt (.agg ⟨cs'⟩)).run P w = .ok () w := gen 9998
          obtain ⟨r', h1, h2⟩ := afind_ask (VR.agg hcs) h hm
          refine ⟨r', h2, hchk, fun w => ?_⟩
          simp only [Instr.findKey, Sem.run_bind, Env.runUnd hu, Result.andThen_ok]
          cases hm with
          | nil =>
            cases h
            cases h2
            simp [Instr.findNow]
          | cons hk2 hv2 t2 =>
            have : ∀ e es, Instr.findNow (.struct fields) (.agg ⟨cs'⟩) (e :: es) 0 = none := fun e es => by simp [Instr.findNow, Instr.sameNow]
            rw [this]
            exact h1 w
      · cases h
    · cases h
  · rename_i d hd hu
    split at h
    · rename_i hsc
      obtain ⟨r', h1, h2⟩ := afind_now hk h hm
      refine ⟨r', h2, fun em w => checkKey_scalar hu hsc em 9999 k' w, fun w => ?_⟩
      simp only [Instr.findKey, Sem.run_bind, Env.runUnd hu, Result.andThen_ok, h1, Sem.run_pure]
    · cases h
  · cases h

theorem SR.map_obj {m : Mu} {st : ASt} {w : World} (h : SR m st w) {id b r : Nat} {es : List (AV × AV × Nat)} {ck : Nat} (hg : st.get id = some (.map es ck)) (hl : m.loc id = some (b, r)) :
    ∃ fs, w.heap[b]? = some (.map fs ck) ∧ MapR m es fs.toList ∧ (∀ e, e ∈ es → e.2.2 < ck) := by
  obtain ⟨b', r', ob, h1, h2, h3⟩ := h.obj id _ hg
  rw [hl] at h1; cases h1
  cases h3 with
  | map hm hb => exact ⟨_, h2, hm, hb⟩

theorem run_getObj_map {w : World} {b ck : Nat} {fs : Array MapEntry} (h : w.heap[b]? = some (.map fs ck)) : (getObj b).run P w = .ok (.map fs ck) w := by
  simp [getObj, Sem.run, h]

def aentries (st : ASt) (x : AV) : Option (List (AV × AV × Nat)) :=
  match x with
  | .nilm => some []
  | .map id => match st.get id with
    | some (.map es _) => some es
    | _ => none
  | _ => none

def alookup (E : Env P) (st : ASt) (t : TypeId) (x k : AV) (ok : Bool) : Option AV :=
  match E.und t with
  | some (.map kt et) =>
    match aentries st x with
    | some es =>
      match akeyFind E kt k es with
      | some (some (_, v, _)) => some (if ok then .tup [v, .bool true] else v)
      | some none => (E.zero et).map fun z => if ok then .tup [z, .bool false] else z
      | none => none
    | none => none
  | _ => none

theorem aentries_ok {m : Mu} {st : ASt} {w : World} (hs : SR m st w) {x : AV} {es : List (AV × AV × Nat)} (h : aentries st x = some es) {x' : Value} (hx : VR m x x') :
    ∃ fs : Array MapEntry, MapR m es fs.toList ∧ ((x' = .map none ∧ fs = #[]) ∨ ∃ b ck, x' = .map (some b) ∧ w.heap[b]? = some (.map fs ck)) := by
  unfold aentries at h
  split at h
  · cases h; cases hx; exact ⟨#[], .nil, .inl ⟨rfl, rfl⟩⟩
  · split at h
    · rename_i id _ es' ck hg
      cases h
      cases hx with
      | map hl =>
        obtain ⟨fs, h1, h2, h3⟩ := hs.map_obj hg hl
        exact ⟨fs, h2, .inr ⟨_, _, rfl, h1⟩⟩
    · cases h
  · cases h

theorem alookup_ok {E : Env P} {m : Mu} {st : ASt} {w : World} (hs : SR m st w) {t : TypeId} {x k a : AV} {ok : Bool} (h : alookup E st t x k ok = some a) {x' k' : Value} (hx : VR m x x') (hk : VR m k k') :
    ∃ v, VR m a v ∧ (Instr.lookup t x' k' ok).run P w = .ok v w := by
  unfold alookup at h
  split at h
  · rename_i kt et hu
    split at h
    · rename_i es he
      obtain ⟨fs, h1, h2⟩ := aentries_ok hs he hx
      split at h
      · rename_i i v n hf
        cases h
        obtain ⟨r', k1, k2, k3⟩ := akeyFind_ok hf hk h1
        cases k1 with
        | some hv hi hent =>
          rename_i v'
          refine ⟨if ok then .tuple #[v', .bool true] else v', ?_, ?_⟩
          · cases ok
            · exact hv
            · exact .tup (.cons hv (.cons (.bool _) .nil))
          · rcases h2 with ⟨rfl, rfl⟩ | ⟨b, ck, rfl, hb⟩
            · have k3' := k3 w
              simp only [Instr.lookup, Sem.run_bind, Env.runUnd hu, Result.andThen_ok, Sem.run_pure, k2, k3]
            · simp only [Instr.lookup, Sem.run_bind, Env.runUnd hu, Result.andThen_ok, run_getObj_map hb, Sem.run_pure, k2, k3]
      · rename_i hf
        obtain ⟨r', k1, k2, k3⟩ := akeyFind_ok hf hk h1
        cases k1
        cases hz : E.zero et with
        | none => rw [hz] at h; cases h
        | some z =>
          rw [hz] at h
          cases h
          obtain ⟨z', hz1, hz2⟩ := Env.runZero hz m
          refine ⟨if ok then .tuple #[z', .bool false] else z', ?_, ?_⟩
          · cases ok
            · exact hz1
            · exact .tup (.cons hz1 (.cons (.bool _) .nil))
          · rcases h2 with ⟨rfl, rfl⟩ | ⟨b, ck, rfl, hb⟩
            · simp only [Instr.lookup, Sem.run_bind, Env.runUnd hu, Result.andThen_ok, Sem.run_pure, k2, k3]
              cases ok <;> simp [hz2]
            · simp only [Instr.lookup, Sem.run_bind, Env.runUnd hu, Result.andThen_ok, run_getObj_map hb, Sem.run_pure, k2, k3]
              cases ok <;> simp [hz2]
      · cases h
    · cases h
  · cases h

/-! ## bytes as a text -/
def abytes : List AV → Option (List UInt8)
  | [] => some []
  | .int .u8 n :: rest => (abytes rest).map (UInt8.ofNat n.toNat :: ·)
  | _ => none

theorem abytes_ok {m : Mu} : ∀ {as : List AV} {s : List UInt8}, abytes as = some s → ∀ {vs : List Value}, VRs m as vs → ∃ ns : List Int, vs = ns.map (Value.int .u8) ∧ s = ns.map fun n => UInt8.ofNat n.toNat
  | [], s, h, _, .nil => by cases h; exact ⟨[], rfl, rfl⟩
  | a :: as, s, h, _, .cons hv t => by
    unfold abytes at h
    split at h
    · rename_i e; cases e
    · rename_i n rest e
      cases e
      cases hq : abytes as with
      | none => rw [hq] at h; cases h
      | some s' =>
        rw [hq] at h
        cases h
        obtain ⟨ns, h1, h2⟩ := abytes_ok hq t
        cases hv
        exact ⟨n :: ns, by simp [h1], by simp [h2]⟩
    · cases h

def abytesOf (st : ASt) (x : AV) : Option (List UInt8) :=
  match x with
  | .fslc 1 el _ => abytes (el.flatMap AV.cells)
  | .fslc _ [] _ => some []
  | .oslc id off len 1 _ => match st.get id with
    | some (.row cells) => if off + len ≤ cells.length then abytes ((cells.drop off).take len) else none
    | _ => none
  | _ => none

theorem foldl_push : ∀ (ns : List Int) (b : ByteArray), ns.foldl (fun r n => r.push (UInt8.ofNat n.toNat)) b = ⟨⟨b.data.toList ++ ns.map fun n => UInt8.ofNat n.toNat⟩⟩
  | [], b => by cases b; simp
  | n :: ns, b => by
    rw [List.foldl_cons, foldl_push ns]
    simp [ByteArray.push]

theorem abytesOf_ok {m : Mu} {st : ASt} {w : World} (hs : SR m st w) {x : AV} {s : List UInt8} (h : abytesOf st x = some s) {x' : Value} (hx : VR m x x') :
    (Conv.bytesToString x').run P w = .ok (.string ⟨⟨s⟩⟩) w := by
  have cells : ∀ (b o len cap : Nat) (as : List AV), as.length = len → (∀ i a, as[i]? = some a → ∃ v, w.cell? ⟨b, o + i, none⟩ = some v ∧ VR m a v) → abytes as = some s →
      (Conv.bytesToString (.slice (some ⟨b, o, none⟩) len cap)).run P w = .ok (.string ⟨⟨s⟩⟩) w := by
    intro b o len cap as hl hc hb
    obtain ⟨vs, h1, h2⟩ := gather (m := m) (w := w) hc
    obtain ⟨ns, h3, h4⟩ := abytes_ok hb h1
    have hlen : vs.length = len := by rw [← h1.length, hl]
    have hld := run_loadCells_list (P := P) w ⟨b, o, none⟩ vs (fun j v hj => by rw [addr_add]; exact h2 j v hj)
    rw [hlen, h3] at hld
    have := run_bytesToString (P := P) w ⟨b, o, none⟩ len cap ns (by simpa using hld)
    rw [this, foldl_push, h4]
    simp
  have nils : ∀ (a : Option Addr) (cap : Nat), (Conv.bytesToString (.slice a 0 cap)).run P w = .ok (.string ⟨⟨[]⟩⟩) w := by
    intro a cap
    cases a with
    | none => simp [Conv.bytesToString]; rfl
    | some a =>
      obtain ⟨b, o, sp⟩ := a
      have := run_bytesToString (P := P) w ⟨b, o, sp⟩ 0 cap [] (by simp [loadCells, loadCellsFrom])
      exact this
  unfold abytesOf at h
  split at h
  · rename_i el _
    cases hx with
    | fslc0 a hxx => cases h; exact nils a _
    | fslc hr hw hlen hl hxx =>
      rename_i b o cap len
      refine cells b o len cap _ ?_ (fun i a hi => ?_) h
      · rw [flat_length hw, hlen]; omega
      · obtain ⟨v, h1, h2⟩ := hr.get hi
        exact ⟨v, hs.cell _ _ _ h1, h2⟩
  · cases h
    cases hx with
    | fslc0 a hxx => exact nils a _
    | fslc hr hw hlen hl hxx => simp at hlen; subst hlen; exact nils _ _
  · split at h
    · rename_i id off len xx _ row hg
      split at h
      · rename_i hle
        cases hx with
        | oslc hl hc hlen hxx =>
          rename_i b r cap
          refine cells b off len cap _ (by rw [List.length_take, List.length_drop]; omega) (fun i a hi => ?_) h
          rw [List.getElem?_take] at hi
          split at hi
          · rw [List.getElem?_drop] at hi
            exact hs.row_cell hg hl hi
          · cases hi
      · cases h
    · cases h
  · cases h

def aread (E : Env P) (ρ : Operand → Option AV) (st : ASt) : Op → Option AV
  | .load t x => (ρ x).bind fun a => aload E st t a
  | .lookup t x k ok => match ρ x, ρ k with
    | some a, some b => alookup E st t a b ok
    | _, _ => none
  | .convert s d x =>
    match E.und s, E.und d with
    | some (.slice e), some .string => match E.und e with
      | some (.int .u8) => (rnorm ρ x).bind fun a => (abytesOf st a).map .str
      | _ => none
    | _, _ => none
  | .call { callee := .builtin .len, args := ⟨[x]⟩, argTypes := ⟨[t]⟩ } =>
    match E.und t, (ρ x).bind (aentries st) with
    | some (.map _ _), some es => some (.int .i64 es.length)
    | _, _ => none
  | _ => none

theorem MapR.length {m : Mu} : ∀ {es : List (AV × AV × Nat)} {fs : List MapEntry}, MapR m es fs → es.length = fs.length
  | _, _, .nil => rfl
  | _, _, .cons _ _ t => by simp [MapR.length t]

theorem aread_ok {E : Env P} {m : Mu} {st : ASt} {w : World} (hs : SR m st w) {ρ : Operand → Option AV} {ρ' : Operand → Value} (hρ : ∀ x a, ρ x = some a → VR m a (ρ' x)) {o : Oper} {a : AV}
    (h : aread E ρ st o.op = some a) : ∃ v, VR m a v ∧ (execOp ρ' o).run P w = .ok (.value v) w := by
  unfold aread at h
  split at h
  · rename_i t x e
    cases hx : ρ x with
    | none => rw [hx] at h; cases h
    | some b =>
      rw [hx] at h
      obtain ⟨v, h1, h2⟩ := aload_ok hs h (hρ _ _ hx)
      exact ⟨v, h1, by simp [execOp, e, h2]⟩
  · rename_i t x k ok e
    split at h
    · rename_i a1 b1 h1 h2
      obtain ⟨v, h3, h4⟩ := alookup_ok hs h (hρ _ _ h1) (hρ _ _ h2)
      exact ⟨v, h3, by simp [execOp, e, h4]⟩
    · cases h
  · rename_i s d x e
    split at h
    · rename_i el hs1 hd1
      split at h
      · rename_i he
        cases hx : rnorm ρ x with
        | none => rw [hx] at h; cases h
        | some b =>
          rw [hx] at h
          simp only [Option.bind_some] at h
          cases hb : abytesOf st b with
          | none => rw [hb] at h; cases h
          | some str =>
            rw [hb] at h
            cases h
            have hv := rnorm_ok hρ _ _ hx
            have := abytesOf_ok (P := P) hs hb hv
            have hsl : ∃ a l c, ρ' x = .slice a l c := by
              generalize ρ' x = q at hv
              unfold abytesOf at hb
              split at hb <;> first | (cases hv <;> exact ⟨_, _, _, rfl⟩) | cases hb
            obtain ⟨aa, l, c, hq⟩ := hsl
            refine ⟨.string ⟨⟨str⟩⟩, .str _, ?_⟩
            rw [hq] at this
            simp only [execOp, e, hq, convert, Sem.run_bind, Env.runUnd hs1, Env.runUnd hd1, Result.andThen_ok, Env.runUnd he, this]
            rfl
      · cases h
    · cases h
  · rename_i x t e
    split at h
    · rename_i kt et es hu hen
      cases h
      cases hx : ρ x with
      | none => rw [hx] at hen; cases hen
      | some b =>
        rw [hx] at hen
        have hv := hρ _ _ hx
        refine ⟨.int .i64 es.length, .int _ _, ?_⟩
        generalize hq : ρ' x = q at hv
        simp only [Option.bind_some] at hen
        unfold aentries at hen
        split at hen
        · cases hen; cases hv
          simp [execOp, e, resolve, invoke, builtin, hq, Builtin.len_, Env.runUnd hu, goInt]
        · split at hen
          · rename_i id _ es' ck hg
            cases hen
            cases hv with
            | map hl =>
              obtain ⟨fs, h1, h2, h3⟩ := hs.map_obj hg hl
              have hlen : (fs.size : Int) = (es.length : Int) := by have := h2.length; simp at this; omega
              simp [execOp, e, resolve, invoke, builtin, hq, Builtin.len_, Env.runUnd hu, goInt, run_getObj_map h1, hlen]
          · cases hen
        · cases hen
    · cases h
  · cases h

end Go.Abs

/- OPERATIONS THAT WRITE: stores, append. -/
namespace Go.Abs
variable {P : Program}

theorem VR.oneCell {m : Mu} {a : AV} {v : Value} (h : VR m a v) (hl : a.leaf = true) : v.oneCell' = true := by
  cases h <;> first | rfl | (simp [AV.leaf] at hl)

theorem VRs.oneCell {m : Mu} : ∀ {as : List AV} {vs : List Value}, VRs m as vs → as.all AV.leaf = true → ∀ v, v ∈ vs → v.oneCell' = true
  | _, _, .nil, _, _, hv => by cases hv
  | a :: as, _, .cons h t, hl, v, hv => by
    simp only [List.all_cons, Bool.and_eq_true] at hl
    cases hv with
    | head => exact h.oneCell hl.1
    | tail _ hm => exact VRs.oneCell t hl.2 v hm

theorem awrite_eq (vs cs : List AV) (off : Nat) (h : off + vs.length ≤ cs.length) : awrite cs off vs = cs.take off ++ vs ++ cs.drop (off + vs.length) := by
  have h1 : (cs.take off).length = off := by rw [List.length_take]; omega
  have := awrite_app vs (cs.take off) (cs.drop off) (by rw [List.length_drop]; omega)
  rw [List.take_append_drop, h1, List.drop_drop] at this
  exact this

/-- STORE into a row of an object: the world behind it. -/
theorem SR.store {m : Mu} {st : ASt} {w : World} (h : SR m st w) {id b r : Nat} {cells : List AV} (hg : st.get id = some (.row cells)) (hl : m.loc id = some (b, r)) {off : Nat} {vs : List AV}
    {us : List Value} (hvs : VRs m vs us) (hle : off + vs.length ≤ cells.length) (hleaf : vs.all AV.leaf = true) :
    ∃ w', (storeCells ⟨b, off, none⟩ us).run P w = .ok () w' ∧ Stp m st w m (st.put id (.row (awrite cells off vs))) w' := by
  obtain ⟨b', r', ob, h1, h2, h3⟩ := h.obj id _ hg
  rw [hl] at h1; cases h1
  cases h3 with
  | row hlen hv =>
    rename_i c e
    have hul : us.length = vs.length := hvs.length.symm
    have hrun := run_storeCells_at P b off e us 0 c w h2 (by omega) (hvs.oneCell hleaf)
    simp only [Nat.add_zero] at hrun
    refine ⟨_, hrun, h.change hg hl _ (.cells (c.toList.take off ++ us ++ c.toList.drop (off + us.length)).toArray e (0, 0)) ?_ ?_ rfl rfl rfl (by simp) (fun k hk => setRow_other w b k _ hk)⟩
    · exact setRow_heap w b c _ e (0, 0) h2
    · have hsz : (c.toList.take off ++ us ++ c.toList.drop (off + us.length)).toArray.size = c.size := by
        simp only [List.size_toArray, List.length_append, List.length_take, List.length_drop, Array.length_toList]
        omega
      have key := OR.row (m := m) (cs := awrite cells off vs) (c := (c.toList.take off ++ us ++ c.toList.drop (off + us.length)).toArray) (e := e) ?_ ?_
      · rw [hsz] at key; exact key
      · rw [length_awrite, hsz]; exact hlen
      · rw [length_awrite, awrite_eq _ _ _ hle]
        have e1 : ((c.toList.take off ++ us ++ c.toList.drop (off + us.length)).toArray).toList.take cells.length =
            (c.toList.take cells.length).take off ++ us ++ (c.toList.take cells.length).drop (off + vs.length) := by
          show (c.toList.take off ++ us ++ c.toList.drop (off + us.length)).take cells.length = _
          have hcl : c.toList.length = c.size := Array.length_toList
          rw [List.take_append, List.take_of_length_le (by simp only [List.length_append, List.length_take]; omega), List.take_take, Nat.min_eq_left (by omega)]
          congr 1
          rw [hul, List.length_append, List.length_take, hcl, Nat.min_eq_left (by omega), hul, List.drop_take]
        rw [e1]
        exact ((hv.take off).append hvs).append (hv.drop (off + vs.length))

def astore (E : Env P) (st : ASt) (t : TypeId) (x v : AV) : Option ASt :=
  match x with
  | .ptr id off => match st.get id, E.size t with
    | some (.row cells), some n => if v.cells.length = n ∧ off + n ≤ cells.length ∧ v.cells.all AV.leaf = true then some (st.put id (.row (awrite cells off v.cells))) else none
    | _, _ => none
  | _ => none

theorem astore_ok {E : Env P} {m : Mu} {st st' : ASt} {w : World} (hs : SR m st w) {t : TypeId} {x v : AV} (h : astore E st t x v = some st') {x' v' : Value} (hx : VR m x x') (hv : VR m v v') :
    ∃ w', (Instr.storeAt t x' v').run P w = .ok () w' ∧ Stp m st w m st' w' := by
  unfold astore at h
  split at h
  · rename_i id off
    split at h
    · rename_i cells n hg hn
      split at h
      · rename_i hc
        obtain ⟨h1, h2, h3⟩ := hc
        cases h
        cases hx with
        | ptr _ hl =>
          rename_i b r
          obtain ⟨w', hr, hstp⟩ := hs.store (P := P) (off := off) hg hl hv.cells (by rw [h1]; exact h2) h3
          refine ⟨w', ?_, hstp⟩
          have : ¬ (v'.cells.size ≠ n) := by rw [hv.cells_size]; simpa using h1
          simp only [Instr.storeAt, Instr.sureAddr, storeVar, Sem.run_bind, Sem.run_pure, Result.andThen_ok, Env.runSize hn, if_neg this, hr]
      · cases h
    · cases h
  · cases h

/-! ## append -/
theorem run_append_room' (sT xT ty e : TypeId) (d : TypeDesc) (i : TypeInfo) (ht : P.underlying sT = some (.slice e)) (hx : P.underlying xT = some d) (hd : ∀ k, d ≠ .int k) (hi : P.info? e = some i)
    (base : Option Addr) (sLen sCap n : Nat) (x : Value) (new : Array Value) (w w' : World) (hn : (Builtin.lenOf x).run P w = .ok n w) (hnew : (Builtin.firstCells i.size n x).run P w = .ok new w)
    (hroom : sLen + n ≤ sCap) (hst : (match base with | some a => storeCells (a.add (sLen * i.size)) new.toList | none => pure () : Sem Unit).run P w = .ok () w') :
    (Builtin.append_ #[sT, xT] ty #[.slice base sLen sCap, x]).run P w = .ok (.slice base (sLen + n) sCap) w' := by
  cases base with
  | none =>
    simp only [Sem.run_pure, Result.ok.injEq, true_and] at hst
    subst hst
    simp [Builtin.append_, run_underlying ht, run_underlying hx, sizeOf, typeInfo, hi, hn, hroom, hnew]
  | some a =>
    simp only at hst
    simp [Builtin.append_, run_underlying ht, run_underlying hx, sizeOf, typeInfo, hi, hn, hroom, hnew, hst]

theorem run_append_grow' (sT xT ty e : TypeId) (d : TypeDesc) (i : TypeInfo) (z : Value) (ht : P.underlying sT = some (.slice e)) (hx : P.underlying xT = some d) (hd : ∀ k, d ≠ .int k) (hi : P.info? e = some i)
    (hzz : i.zero = some z) (base : Option Addr) (sLen sCap n : Nat) (x : Value) (old new : Array Value) (w : World) (hn : (Builtin.lenOf x).run P w = .ok n w)
    (hnew : ∀ w1 : World, w1.heap = w.heap → (Builtin.firstCells i.size n x).run P w1 = .ok new w1)
    (hold : ∀ w1 : World, w1.heap = w.heap → (Builtin.firstCells i.size sLen (.slice base sLen sCap)).run P w1 = .ok old w1)
    (hg : sCap < sLen + n) (hb : (sLen + n) * i.bytes ≤ 140737488355328) (h63 : sLen + n ≤ 9223372036854775807) :
    (Builtin.append_ #[sT, xT] ty #[.slice base sLen sCap, x]).run P w =
      .ok (.slice (some ⟨w.heap.size, 0, none⟩) (sLen + n) (grownCap w (sLen + n) sCap e))
        (w.drew.alloc (.cells (old ++ new ++ Builtin.zeroCells z.cells (grownCap w (sLen + n) sCap e - (sLen + n))) e)) := by
  have h1 : ¬ (sLen + n ≤ sCap) := by omega
  have h63' : ¬ (9223372036854775807 < ((sLen : Int) + (n : Int))) := by omega
  have h48' : ¬ (281474976710656 < Builtin.nextslicecap (sLen + n) sCap * i.bytes) := by have := growslice_fits hg hb; omega
  have hf := hnew w.drew rfl
  have hfo := hold w.drew rfl
  simp [Builtin.append_, run_underlying ht, run_underlying hx, sizeOf, typeInfo, zeroValue, hi, hzz, hn, h1, h63', h48', Question.forced, hf, hfo, newRow, grownCap]

end Go.Abs

/- OPERATIONS THAT WRITE: append. -/
namespace Go.Abs
variable {P : Program}

theorem SR.free {m : Mu} {st : ASt} {w : World} (h : SR m st w) {id : Nat} (hid : st.next ≤ id) : m.loc id = none := by
  cases hl : m.loc id with
  | none => rfl
  | some x => have := h.dom id x hl; omega

/-- AN OBJECT THAT LIVES IS TURNED, and goes on under a new number. -/
theorem SR.move {m : Mu} {st : ASt} {w w' : World} (h : SR m st w) {id b r id' n : Nat} {o : AObj} (hg : st.get id = some o) (hl : m.loc id = some (b, r)) (hid' : st.next ≤ id') (hn : id' < n)
    (o' : AObj) (ob' : Obj) (hw : w'.heap[b]? = some ob') (hor : OR m o' ob' r) (hos : w'.os = w.os) (htape : w'.tape = w.tape) (hout : w'.output = w.output) (hsz : w'.heap.size = w.heap.size)
    (hoth : ∀ k, k ≠ b → w'.heap[k]? = w.heap[k]?) : Stp m st w (m.add id' b r) { ((st.drop id).put id' o') with next := n } w' := by
  have hfree := h.free hid'
  have hext : Ext m (m.add id' b r) := Mu.ext_add hfree
  have hown : Owned m st b := ⟨id, o, r, hg, hl⟩
  have hne : id ≠ id' := by intro e; subst e; rw [hfree] at hl; cases hl
  have hget : ∀ j, ASt.get { ((st.drop id).put id' o') with next := n } j = if j = id' then some o' else if j = id then none else st.get j := fun j => by
    show ((st.drop id).put id' o').get j = _
    rw [ASt.get_put, ASt.get_drop]
  have hst' : st.get id' = none := by
    cases hg' : st.get id' with
    | none => rfl
    | some x => obtain ⟨b1, r1, _, h1, _⟩ := h.obj id' x hg'; rw [hfree] at h1; cases h1
  have old : ∀ j o1 b1 r1, (if j = id' then some o' else if j = id then none else st.get j) = some o1 → (m.add id' b r).loc j = some (b1, r1) →
      (j = id' ∧ b1 = b ∧ r1 = r ∧ o1 = o') ∨ (j ≠ id' ∧ j ≠ id ∧ st.get j = some o1 ∧ m.loc j = some (b1, r1)) := by
    intro j o1 b1 r1 e l
    by_cases hj : j = id'
    · subst hj
      rw [if_pos rfl] at e
      rw [Mu.loc_add] at l
      cases l; cases e
      exact .inl ⟨rfl, rfl, rfl, rfl⟩
    · rw [if_neg hj] at e
      rw [Mu.loc_add_ne _ _ _ hj] at l
      by_cases hj2 : j = id
      · rw [if_pos hj2] at e; cases e
      · rw [if_neg hj2] at e
        exact .inr ⟨hj, hj2, e, l⟩
  refine ⟨⟨hext, ⟨?_, ?_, ?_, ?_, ?_⟩, ⟨hos, htape, hout, by omega, fun k _ hk => hoth k (fun e => hk (e ▸ hown))⟩, ?_, by show st.next ≤ n; omega⟩, fun j hj => Mu.loc_add_ne _ _ _ (by omega), fun _ _ _ _ h => .inl h⟩
  · intro j o1 e
    rw [hget] at e
    by_cases hj : j = id'
    · subst hj
      rw [if_pos rfl] at e; cases e
      exact ⟨b, r, ob', Mu.loc_add _ _ _ _, hw, hor.mono hext⟩
    · rw [if_neg hj] at e
      by_cases hj2 : j = id
      · rw [if_pos hj2] at e; cases e
      · rw [if_neg hj2] at e
        obtain ⟨b1, r1, ob1, h1, h2, h3⟩ := h.obj j o1 e
        refine ⟨b1, r1, ob1, by rw [Mu.loc_add_ne _ _ _ hj]; exact h1, ?_, h3.mono hext⟩
        rw [hoth b1 (fun e' => hj2 (h.inj j id o1 o b r1 r e hg (e' ▸ h1) hl))]
        exact h2
  · intro i j o1 o2 b1 r1 r2 e1 e2 l1 l2
    rw [hget] at e1 e2
    rcases old i o1 b1 r1 e1 l1 with ⟨a1, a2, a3, a4⟩ | ⟨a1, a2, a3, a4⟩
    · rcases old j o2 b1 r2 e2 l2 with ⟨c1, c2, c3, c4⟩ | ⟨c1, c2, c3, c4⟩
      · rw [a1, c1]
      · exact absurd (h.inj j id o2 o b r2 r c3 hg (a2 ▸ c4) hl) c2
    · rcases old j o2 b1 r2 e2 l2 with ⟨c1, c2, c3, c4⟩ | ⟨c1, c2, c3, c4⟩
      · exact absurd (h.inj i id o1 o b r1 r a3 hg (c2 ▸ a4) hl) a2
      · exact h.inj i j o1 o2 b1 r1 r2 a3 c3 a4 c4
  · intro k i v hk
    have hk' : m.K k i = some v := hk
    have hne2 : k ≠ b := fun e => h.apart b i v hown (e ▸ hk')
    have := h.cell k i v hk'
    unfold World.cell? at this ⊢
    rw [hoth k hne2]
    exact this
  · intro k i v ⟨j, o1, r1, e, l⟩ hk
    have hk' : m.K k i = some v := hk
    rw [hget] at e
    rcases old j o1 k r1 e l with ⟨a1, a2, a3, a4⟩ | ⟨a1, a2, a3, a4⟩
    · exact h.apart b i v hown (a2 ▸ hk')
    · exact h.apart k i v ⟨j, o1, r1, a3, a4⟩ hk'
  · intro j x e
    show j < n
    by_cases hj : j = id'
    · omega
    · rw [Mu.loc_add_ne _ _ _ hj] at e
      have := h.dom j x e
      omega
  · intro k _ ⟨j, o1, r1, e, l⟩
    rw [hget] at e
    rcases old j o1 k r1 e l with ⟨a1, a2, a3, a4⟩ | ⟨a1, a2, a3, a4⟩
    · exact a2 ▸ hown
    · exact ⟨j, o1, r1, a3, a4⟩

/-! ## what is appended -/
def asrc (st : ASt) (sz : Nat) (y : AV) : Option (Nat × List AV) :=
  match y with
  | .fslc _ [] _ => some (0, [])
  | .fslc sz' el _ => if sz' = sz then some (el.length, el.flatMap AV.cells) else none
  | .oslc id off len sz' _ => if sz' = sz then
      (match st.get id with
      | some (.row cells) => if off + len * sz ≤ cells.length then some (len, (cells.drop off).take (len * sz)) else none
      | _ => none) else none
  | .str s => if sz = 1 then some (s.length, s.map fun b => .int .u8 b.toNat) else none
  | _ => none

theorem firstCells_of {w : World} {size n : Nat} {a : Addr} {l c : Nat} {vs : List Value} (hl : vs.length = n * size) (h : ∀ j v, vs[j]? = some v → w.cell? (a.add j) = some v) :
    ∀ w1 : World, w1.heap = w.heap → (Builtin.firstCells size n (.slice (some a) l c)).run P w1 = .ok ⟨vs⟩ w1 := by
  intro w1 he
  have := run_firstCells_some (P := P) w1 size n a l c vs hl (fun j v hj => by
    have := h j v hj
    unfold World.cell? at this ⊢
    rw [he]
    exact this)
  exact this

theorem strCells {m : Mu} : ∀ (s : List UInt8), VRs m (s.map fun b => AV.int .u8 b.toNat) (s.map fun b => Value.int .u8 b.toNat)
  | [] => .nil
  | _ :: s => .cons (.int _ _) (strCells s)

theorem asrc_ok {m : Mu} {st : ASt} {w : World} (hs : SR m st w) {sz n : Nat} {y : AV} {cells : List AV} (h : asrc st sz y = some (n, cells)) {y' : Value} (hy : VR m y y') :
    cells.length = n * sz ∧ ∃ vs, VRs m cells vs ∧ (∀ w1, (Builtin.lenOf y').run P w1 = .ok n w1) ∧ ∀ w1 : World, w1.heap = w.heap → (Builtin.firstCells sz n y').run P w1 = .ok ⟨vs⟩ w1 := by
  have nils : ∀ (a : Option Addr) (c : Nat), (∀ w1, (Builtin.lenOf (.slice a 0 c)).run P w1 = .ok 0 w1) ∧ ∀ w1 : World, w1.heap = w.heap → (Builtin.firstCells sz 0 (.slice a 0 c)).run P w1 = .ok ⟨[]⟩ w1 := by
    intro a c
    refine ⟨fun w1 => rfl, fun w1 he => ?_⟩
    cases a with
    | none => simp [Builtin.firstCells]
    | some a => simp [Builtin.firstCells, loadCells, loadCellsFrom]
  unfold asrc at h
  split at h
  · cases h
    refine ⟨by simp, [], .nil, ?_⟩
    cases hy with
    | fslc0 a hxx => exact nils a _
    | fslc hr hw hlen hl hxx => simp at hlen; subst hlen; exact nils _ _
  · rename_i sz' el xx _
    split at h
    · rename_i he
      subst he
      cases h
      cases hy with
      | fslc0 a hxx => exact ⟨by simp, [], by simpa using VRs.nil, nils a _⟩
      | fslc hr hw hlen hl hxx =>
        subst hlen
        rename_i b o cap
        refine ⟨flat_length hw, ?_⟩
        obtain ⟨vs, h1, h2⟩ := hr.vals
        have hlen := h1.length
        rw [flat_length hw] at hlen
        exact ⟨vs, h1, fun w1 => rfl, firstCells_of hlen.symm (fun j v hj => by rw [addr_add]; exact hs.cell _ _ _ (h2 j v hj))⟩
    · cases h
  · rename_i id off len sz' xx
    split at h
    · rename_i he
      subst he
      split at h
      · rename_i row hg
        split at h
        · rename_i hle
          cases h
          cases hy with
          | oslc hl hc hlen hxx =>
            rename_i b r cap
            have hcl : ((row.drop off).take (n * sz')).length = n * sz' := by rw [List.length_take, List.length_drop]; omega
            refine ⟨hcl, ?_⟩
            obtain ⟨vs, h1, h2⟩ := gather (m := m) (w := w) (b := b) (l := (row.drop off).take (n * sz')) (o := off) (fun i a hi => by
              rw [List.getElem?_take] at hi
              split at hi
              · rw [List.getElem?_drop] at hi
                exact hs.row_cell hg hl hi
              · cases hi)
            have hvl := h1.length
            rw [hcl] at hvl
            exact ⟨vs, h1, fun w1 => rfl, firstCells_of hvl.symm (fun j v hj => by rw [addr_add]; exact h2 j v hj)⟩
        · cases h
      · cases h
    · cases h
  · rename_i s
    split at h
    · rename_i he
      subst he
      cases h
      cases hy
      refine ⟨by simp, s.map fun b => .int .u8 b.toNat, strCells s, fun w1 => rfl, fun w1 he => ?_⟩
      have hx : (ByteArray.mk ⟨s⟩).extract 0 s.length = ⟨⟨s⟩⟩ := by
        have : ((ByteArray.mk ⟨s⟩).extract 0 s.length).data = (⟨s⟩ : Array UInt8) := by
          apply Array.ext'
          simp [ByteArray.data_extract, List.extract]
        cases hq : (ByteArray.mk ⟨s⟩).extract 0 s.length
        rw [hq] at this
        exact congrArg ByteArray.mk this
      simp [Builtin.firstCells, hx]
    · cases h
  · cases h

end Go.Abs

/- OPERATIONS THAT WRITE: append, put together. -/
namespace Go.Abs
variable {P : Program}

def notInt (E : Env P) (t : TypeId) : Bool :=
  match E.und t with
  | some (.int _) => false
  | some _ => true
  | none => false

/-- The slice's own cells, where its capacity is its length (or it is nil): append makes a new array. -/
def aexactCells (st : ASt) (sz : Nat) (x : AV) : Option (Nat × List AV) :=
  match x with
  | .nils => some (0, [])
  | .fslc _ [] true => some (0, [])
  | .fslc sz' el true => if sz' = sz then some (el.length, el.flatMap AV.cells) else none
  | .oslc id off len sz' true => if sz' = sz then
      (match st.get id with
      | some (.row cells) => if off + len * sz ≤ cells.length then some (len, (cells.drop off).take (len * sz)) else none
      | _ => none) else none
  | _ => none

def aappend (E : Env P) (st : ASt) (sT xT : TypeId) (x y : AV) : Option (AV × ASt) :=
  match E.und sT with
  | some (.slice e) =>
    match E.size e, E.info e, E.zero e with
    | some sz, some i, some z =>
      if notInt E xT = true ∧ z.cells.length = sz then
        match asrc st sz y with
        | some (n, new) =>
          if new.all AV.leaf = true then
            match aexactCells st sz x with
            | some (len, old) =>
              if n = 0 then some (x, st)
              else if (len + n) * i.bytes ≤ 140737488355328 ∧ len + n ≤ 9223372036854775807 then
                some (.oslc st.next 0 (len + n) sz false, { (st.put st.next (.row (old ++ new))) with next := st.next + 1 })
              else none
            | none =>
              match x with
              | .oslc id 0 len sz' false =>
                match st.get id with
                | some (.row cells) =>
                  if sz' = sz ∧ cells.length = len * sz then
                    if n = 0 then some (x, st)
                    else if (len + n) * i.bytes ≤ 140737488355328 ∧ len + n ≤ 9223372036854775807 then
                      some (.oslc st.next 0 (len + n) sz false, { ((st.drop id).put st.next (.row (cells ++ new))) with next := st.next + 1 })
                    else none
                  else none
                | _ => none
              | _ => none
          else none
        | none => none
      else none
    | _, _, _ => none
  | _ => none

theorem notInt_ok {E : Env P} {t : TypeId} (h : notInt E t = true) : ∃ d, P.underlying t = some d ∧ ∀ k, d ≠ .int k := by
  unfold notInt at h
  split at h
  · cases h
  · rename_i d hd hu
    exact ⟨d, E.und_ok _ _ hu, fun k e => hd k e⟩
  · cases h

/-- the new array's object -/
theorem grown_row {m : Mu} {old new : List AV} {vo vn : List Value} {z : Value} {k : Nat} {e : TypeId} {id b len n sz cap : Nat} (ho : VRs m old vo) (hn : VRs m new vn) (hext : Ext m (m.add id b (cap * sz)))
    (hol : old.length = len * sz) (hnl : new.length = n * sz) (hz : z.cells.size = sz) (hc : len + n ≤ cap) (hk : k = cap - (len + n)) :
    OR (m.add id b (cap * sz)) (.row (old ++ new)) (.cells ((⟨vo⟩ : Array Value) ++ ⟨vn⟩ ++ Builtin.zeroCells z.cells k) e) (cap * sz) := by
  have hsz : ((⟨vo⟩ : Array Value) ++ ⟨vn⟩ ++ Builtin.zeroCells z.cells k).size = cap * sz := by
    simp only [Array.size_append, List.size_toArray, size_zeroCells, hz]
    have h1 : vo.length = len * sz := by rw [← ho.length, hol]
    have h2 : vn.length = n * sz := by rw [← hn.length, hnl]
    show vo.length + vn.length + k * sz = cap * sz
    rw [h1, h2, hk, ← Nat.add_mul, ← Nat.add_mul]
    congr 1
    omega
  have key := OR.row (m := m.add id b (cap * sz)) (cs := old ++ new) (c := (⟨vo⟩ : Array Value) ++ ⟨vn⟩ ++ Builtin.zeroCells z.cells k) (e := e) ?_ ?_
  · rw [hsz] at key; exact key
  · rw [hsz, List.length_append, hol, hnl, ← Nat.add_mul]; exact Nat.mul_le_mul_right _ hc
  · have h1 : (((⟨vo⟩ : Array Value) ++ ⟨vn⟩ ++ Builtin.zeroCells z.cells k).toList).take (old ++ new).length = vo ++ vn := by
      rw [Array.toList_append, Array.toList_append]
      show ((vo ++ vn) ++ _).take _ = _
      have : (old ++ new).length = (vo ++ vn).length := (ho.append hn).length
      rw [this, List.take_left]
    rw [h1]
    exact (ho.append hn).mono hext

theorem aexactCells_ok {m : Mu} {st : ASt} {w : World} (hs : SR m st w) {sz len : Nat} {x : AV} {old : List AV} (h : aexactCells st sz x = some (len, old)) {x' : Value} (hx : VR m x x') :
    old.length = len * sz ∧ ∃ base vo, x' = .slice base len len ∧ VRs m old vo ∧
      ∀ w1 : World, w1.heap = w.heap → (Builtin.firstCells sz len (.slice base len len)).run P w1 = .ok ⟨vo⟩ w1 := by
  unfold aexactCells at h
  split at h
  · cases h
    cases hx
    exact ⟨by simp, none, [], rfl, .nil, fun w1 _ => by simp [Builtin.firstCells]⟩
  · cases h
    have nils : ∀ (a : Option Addr), ∀ w1 : World, w1.heap = w.heap → (Builtin.firstCells sz 0 (.slice a 0 0)).run P w1 = .ok ⟨[]⟩ w1 := by
      intro a w1 he
      cases a with
      | none => simp [Builtin.firstCells]
      | some a => simp [Builtin.firstCells, loadCells, loadCellsFrom]
    cases hx with
    | fslc0 a hxx =>
      have := hxx rfl
      subst this
      exact ⟨by simp, a, [], rfl, .nil, nils a⟩
    | fslc hr hw hlen hl hxx =>
      simp at hlen; subst hlen
      have := hxx rfl
      subst this
      exact ⟨by simp, _, [], rfl, .nil, nils _⟩
  · split at h
    · rename_i he
      subst he
      cases h
      cases hx with
      | fslc0 a hxx =>
        rename_i hne
        exact (hne rfl).elim
      | fslc hr hw hlen hl hxx =>
        subst hlen
        have := hxx rfl
        subst this
        rename_i b o
        refine ⟨flat_length hw, ?_⟩
        obtain ⟨vs, h1, h2⟩ := hr.vals
        have hlen := h1.length
        rw [flat_length hw] at hlen
        exact ⟨_, vs, rfl, h1, firstCells_of hlen.symm (fun j v hj => by rw [addr_add]; exact hs.cell _ _ _ (h2 j v hj))⟩
    · cases h
  · rename_i id off l sz'
    split at h
    · rename_i he
      subst he
      split at h
      · rename_i row hg
        split at h
        · rename_i hle
          cases h
          cases hx with
          | oslc hl hc hlen hxx =>
            rename_i b r cap
            have := hxx rfl
            subst this
            have hcl : ((row.drop off).take (cap * sz')).length = cap * sz' := by rw [List.length_take, List.length_drop]; omega
            refine ⟨hcl, ?_⟩
            obtain ⟨vs, h1, h2⟩ := gather (m := m) (w := w) (b := b) (l := (row.drop off).take (cap * sz')) (o := off) (fun i a hi => by
              rw [List.getElem?_take] at hi
              split at hi
              · rw [List.getElem?_drop] at hi
                exact hs.row_cell hg hl hi
              · cases hi)
            have hvl := h1.length
            rw [hcl] at hvl
            exact ⟨_, vs, rfl, h1, firstCells_of hvl.symm (fun j v hj => by rw [addr_add]; exact h2 j v hj)⟩
        · cases h
      · cases h
    · cases h
  · cases h

theorem storeNil (base : Option Addr) (k : Nat) (w : World) : (match base with | some a => storeCells (a.add k) (⟨[]⟩ : Array Value).toList | none => pure () : Sem Unit).run P w = .ok () w := by
  cases base <;> simp [storeCells]

theorem aappend_ok {E : Env P} {m : Mu} {st st' : ASt} {w : World} (hs : SR m st w) {sT xT ty : TypeId} {x y a : AV} (h : aappend E st sT xT x y = some (a, st')) {x' y' : Value} (hx : VR m x x') (hy : VR m y y') :
    ∃ v w' m', (Builtin.append_ #[sT, xT] ty #[x', y']).run P w = .ok v w' ∧ VR m' a v ∧ Stp m st w m' st' w' := by
  unfold aappend at h
  split at h
  · rename_i e hu
    have ht := E.und_ok _ _ hu
    split at h
    · rename_i sz i z hsz hi hz
      have hi' := E.info_ok _ _ hi
      obtain ⟨i2, hi2, hszi⟩ := Env.info_of_size hsz
      rw [hi'] at hi2; cases hi2
      obtain ⟨i3, z', hi3, hz', hzr⟩ := Env.info_of_zero hz m
      rw [hi'] at hi3; cases hi3
      split at h
      · rename_i hcond
        obtain ⟨hni, hzl⟩ := hcond
        obtain ⟨d, hd, hdi⟩ := notInt_ok hni
        have hzs : z'.cells.size = sz := by rw [hzr.cells_size, hzl]
        split at h
        · rename_i n new hsrc
          obtain ⟨hnl, vn, hvn, hlen, hfirst⟩ := asrc_ok (P := P) hs hsrc hy
          split at h
          · rename_i hleaf
            split at h
            · rename_i len old hex
              obtain ⟨hol, base, vo, rfl, hvo, hfo⟩ := aexactCells_ok (P := P) hs hex hx
              split at h
              · rename_i hn0
                subst hn0
                cases h
                have hvn0 : vn = [] := List.eq_nil_of_length_eq_zero (by rw [← hvn.length, hnl]; simp)
                subst hvn0
                refine ⟨.slice base len len, w, m, ?_, hx, .refl hs⟩
                have := run_append_room' (P := P) sT xT ty e d i ht hd hdi hi' base len len 0 y' ⟨[]⟩ w w (hlen w) (by rw [hszi]; exact hfirst w rfl) (Nat.le_refl _) (storeNil base _ w)
                simpa using this
              · rename_i hn0
                split at h
                · rename_i hb
                  cases h
                  have hrun := run_append_grow' (P := P) sT xT ty e d i z' ht hd hdi hi' hz' base len len n y' ⟨vo⟩ ⟨vn⟩ w (hlen w) (by rw [hszi]; exact hfirst) (by rw [hszi]; exact hfo) (by omega) hb.1 hb.2
                  have hge := grownCap_ge w (len + n) len e
                  generalize hcap : grownCap w (len + n) len e = cap at hrun hge
                  have hfree := hs.free (Nat.le_refl st.next)
                  have hext : Ext m (m.add st.next w.drew.heap.size (cap * sz)) := Mu.ext_add hfree
                  refine ⟨_, _, m.add st.next w.drew.heap.size (cap * sz), hrun, ?_, ?_⟩
                  · exact .oslc (Mu.loc_add _ _ _ _) (by simp) hge (fun he => by cases he)
                  · exact (Stp.drew hs).trans (hs.drew.alloc st.next hfree (.row (old ++ new)) _ (cap * sz) (st.next + 1) (grown_row hvo hvn hext hol hnl hzs hge rfl) (Nat.le_succ _) (Nat.lt_succ_self _) (Nat.le_refl _))
                · cases h
            · rename_i hex
              split at h
              · rename_i id len sz'
                split at h
                · rename_i cells hg
                  split at h
                  · rename_i hcc
                    obtain ⟨hss, hcl⟩ := hcc
                    subst hss
                    cases hx with
                    | oslc hl hc hlc hxx =>
                      rename_i b r cap
                      obtain ⟨b', r', ob, h1, h2, h3⟩ := hs.obj id _ hg
                      rw [hl] at h1; cases h1
                      cases h3 with
                      | row hrl hrv =>
                        rename_i c ce
                        split at h
                        · rename_i hn0
                          subst hn0
                          cases h
                          have hvn0 : vn = [] := List.eq_nil_of_length_eq_zero (by rw [← hvn.length, hnl]; simp)
                          subst hvn0
                          refine ⟨.slice (some ⟨b, 0, none⟩) len cap, w, m, ?_, .oslc hl hc hlc hxx, .refl hs⟩
                          have := run_append_room' (P := P) sT xT ty e d i ht hd hdi hi' (some ⟨b, 0, none⟩) len cap 0 y' ⟨[]⟩ w w (hlen w) (by rw [hszi]; exact hfirst w rfl) (by omega) (by simp [storeCells])
                          simpa using this
                        · rename_i hn0
                          split at h
                          · rename_i hb
                            cases h
                            have hfree := hs.free (Nat.le_refl st.next)
                            have hvol : (c.toList.take cells.length).length = len * sz' := by rw [← hrv.length, hcl]
                            by_cases hroom : len + n ≤ cap
                            · -- in place
                              have hvnl : vn.length = n * sz' := by rw [← hvn.length, hnl]
                              have hfit : len * sz' + vn.length ≤ c.size := by
                                rw [hvnl, ← Nat.add_mul]
                                have : (len + n) * sz' ≤ cap * sz' := Nat.mul_le_mul_right _ hroom
                                omega
                              have hst := run_storeCells_at P b (len * sz') ce vn 0 c w h2 (by omega) (hvn.oneCell hleaf)
                              simp only [Nat.add_zero] at hst
                              have hrun := run_append_room' (P := P) sT xT ty e d i ht hd hdi hi' (some ⟨b, 0, none⟩) len cap n y' ⟨vn⟩ w _ (hlen w) (by rw [hszi]; exact hfirst w rfl) hroom
                                (by simp only [addr_add, Nat.zero_add, hszi]; exact hst)
                              refine ⟨_, _, m.add st.next b c.size, hrun, .oslc (Mu.loc_add _ _ _ _) hc hroom (fun he => by cases he), ?_⟩
                              refine hs.move hg hl (Nat.le_refl _) (Nat.lt_succ_self _) (.row (cells ++ new)) (.cells (c.toList.take (len * sz') ++ vn ++ c.toList.drop (len * sz' + vn.length)).toArray ce (0, 0))
                                (setRow_heap w b c _ ce (0, 0) h2) ?_ rfl rfl rfl (by simp) (fun k hk => setRow_other w b k _ hk)
                              have hsz2 : (c.toList.take (len * sz') ++ vn ++ c.toList.drop (len * sz' + vn.length)).toArray.size = c.size := by
                                simp only [List.size_toArray, List.length_append, List.length_take, List.length_drop, Array.length_toList]
                                omega
                              have key := OR.row (m := m) (cs := cells ++ new) (c := (c.toList.take (len * sz') ++ vn ++ c.toList.drop (len * sz' + vn.length)).toArray) (e := ce) ?_ ?_
                              · rw [hsz2] at key; exact key
                              · rw [hsz2, List.length_append, hcl, hnl]
                                rw [hvnl] at hfit
                                exact hfit
                              · have e1 : ((c.toList.take (len * sz') ++ vn ++ c.toList.drop (len * sz' + vn.length)).toArray).toList.take (cells ++ new).length = c.toList.take cells.length ++ vn := by
                                  show (c.toList.take (len * sz') ++ vn ++ c.toList.drop (len * sz' + vn.length)).take _ = _
                                  rw [← hcl]
                                  have : (cells ++ new).length = (c.toList.take cells.length ++ vn).length := (hrv.append hvn).length
                                  rw [this, List.take_left]
                                rw [e1]
                                exact hrv.append hvn
                            · -- a new array
                              have hfo := firstCells_of (P := P) (w := w) (size := sz') (n := len) (a := ⟨b, 0, none⟩) (l := len) (c := cap) (vs := c.toList.take cells.length) hvol (fun j v hj => by
                                rw [addr_add, Nat.zero_add]
                                have : c[j]? = some v := by
                                  rw [List.getElem?_take] at hj
                                  split at hj
                                  · simpa using hj
                                  · cases hj
                                simp [World.cell?, h2, this])
                              have hrun := run_append_grow' (P := P) sT xT ty e d i z' ht hd hdi hi' hz' (some ⟨b, 0, none⟩) len cap n y' ⟨c.toList.take cells.length⟩ ⟨vn⟩ w (hlen w) (by rw [hszi]; exact hfirst) (by rw [hszi]; exact hfo) (by omega) hb.1 hb.2
                              have hge := grownCap_ge w (len + n) cap e
                              generalize hcap : grownCap w (len + n) cap e = cap2 at hrun hge
                              have hext : Ext m (m.add st.next w.drew.heap.size (cap2 * sz')) := Mu.ext_add hfree
                              have hs2 : SR m (st.drop id) w.drew := hs.drew.fewer (fun j o hj => by rw [ASt.get_drop] at hj; split at hj <;> first | cases hj | exact hj) (Nat.le_refl _)
                              refine ⟨_, _, m.add st.next w.drew.heap.size (cap2 * sz'), hrun, .oslc (Mu.loc_add _ _ _ _) (by simp) hge (fun he => by cases he), ?_⟩
                              have s1 : Stp m st w m (st.drop id) w.drew := (Stp.drew hs).fewer (fun j o hj => by rw [ASt.get_drop] at hj; split at hj <;> first | cases hj | exact hj) (Nat.le_refl _)
                              exact s1.trans (hs2.alloc st.next hfree (.row (cells ++ new)) _ (cap2 * sz') (st.next + 1) (grown_row hrv hvn hext hcl hnl hzs hge rfl) (Nat.le_succ _) (Nat.lt_succ_self _) (Nat.le_refl _))
                          · cases h
                  · cases h
                · cases h
              · cases h
          · cases h
        · cases h
      · cases h
    · cases h
  · cases h

/-! ## append of a make, to a slice without room -/
def aappendZ (E : Env P) (st : ASt) (sT xT : TypeId) (x y : AV) : Option (AV × ASt) :=
  match E.und sT, E.und xT, x, y with
  | some (.slice e), some (.int _), .fslc _ [] true, .int _ n =>
    match E.size e, E.info e, E.zero e with
    | some sz, some i, some z =>
      if 1 ≤ n ∧ n ≤ 9223372036854775807 ∧ n.toNat * i.bytes ≤ 140737488355328 ∧ z.cells.length = sz then
        some (.oslc st.next 0 n.toNat sz false, { (st.put st.next (.row (amade z.cells n.toNat))) with next := st.next + 1 })
      else none
    | _, _, _ => none
  | _, _, _, _ => none

theorem run_append_zeros (sT xT ty e : TypeId) (k : IntKind) (i : TypeInfo) (z : Value) (ht : P.underlying sT = some (.slice e)) (hx : P.underlying xT = some (.int k)) (hi : P.info? e = some i)
    (hzz : i.zero = some z) (base : Option Addr) (k' : IntKind) (n : Nat) (w : World) (h1 : 1 ≤ n) (hb : n * i.bytes ≤ 140737488355328) (h63 : n ≤ 9223372036854775807)
    (hne : n * i.size = 0 → z.cells.size = 0) :
    (Builtin.append_ #[sT, xT] ty #[.slice base 0 0, .int k' n]).run P w =
      .ok (.slice (some ⟨w.heap.size, 0, none⟩) n (grownCap w n 0 e))
        (w.drew.alloc (.cells (#[] ++ Builtin.zeroCells z.cells n ++ Builtin.zeroCells z.cells (grownCap w n 0 e - n)) e)) := by
  have hw : IntKind.i64.wrap (n : Int) = n := by
    rw [IntKind.wrap_i64]
    omega
  have h2 : ¬ ((n : Int) < 0) := by omega
  have h3 : ¬ (281474976710656 < (n : Int) * (i.bytes : Int)) := by
    have : ((n * i.bytes : Nat) : Int) ≤ ((140737488355328 : Nat) : Int) := Int.ofNat_le.2 hb
    rw [Int.natCast_mul] at this
    omega
  have h4 : ¬ (9223372036854775807 < (n : Int)) := by omega
  have h5 : ¬ (n = 0) := by omega
  have h48' : ¬ (281474976710656 < Builtin.nextslicecap n 0 * i.bytes) := by have := growslice_fits (show 0 < n by omega) hb; omega
  have hold : (Builtin.firstCells i.size 0 (.slice base 0 0)).run P w.drew = .ok #[] w.drew := by
    cases base with
    | none => simp [Builtin.firstCells]
    | some a => simp [Builtin.firstCells, loadCells, loadCellsFrom]
  by_cases hz : n * i.size = 0
  · have hz0 := hne hz
    have hzc : Builtin.zeroCells z.cells n = #[] := by simp [Builtin.zeroCells, hz0]
    simp [Builtin.append_, run_underlying ht, run_underlying hx, sizeOf, typeInfo, zeroValue, hi, hzz, asInt, asIntOf, hw, h2, h3, h4, h5, h48', Question.forced, hold, hzc, newRow, grownCap]
  · simp [Builtin.append_, run_underlying ht, run_underlying hx, sizeOf, typeInfo, zeroValue, hi, hzz, asInt, asIntOf, hw, h2, h3, h4, h5, h48', Question.forced, hold, hz, newRow, grownCap]

theorem aappendZ_ok {E : Env P} {m : Mu} {st st' : ASt} {w : World} (hs : SR m st w) {sT xT ty : TypeId} {x y a : AV} (h : aappendZ E st sT xT x y = some (a, st')) {x' y' : Value} (hx : VR m x x') (hy : VR m y y') :
    ∃ v w' m', (Builtin.append_ #[sT, xT] ty #[x', y']).run P w = .ok v w' ∧ VR m' a v ∧ Stp m st w m' st' w' := by
  unfold aappendZ at h
  split at h
  · rename_i e k sz0 k' n hu hxu
    have ht := E.und_ok _ _ hu
    have hxt := E.und_ok _ _ hxu
    split at h
    · rename_i sz i z hsz hi hz
      have hi' := E.info_ok _ _ hi
      obtain ⟨i2, hi2, hszi⟩ := Env.info_of_size hsz
      rw [hi'] at hi2; cases hi2
      obtain ⟨i3, z', hi3, hz', hzr⟩ := Env.info_of_zero hz m
      rw [hi'] at hi3; cases hi3
      split at h
      · rename_i hc
        obtain ⟨c1, c2, c3, c4⟩ := hc
        cases h
        have hzs : z'.cells.size = sz := by rw [hzr.cells_size, c4]
        obtain ⟨N, rfl⟩ : ∃ N : Nat, n = N := ⟨n.toNat, by omega⟩
        simp only [Int.toNat_natCast] at c3 ⊢
        have key : ∃ base, x' = .slice base 0 0 := by
          cases hx with
          | fslc0 a hxx => have := hxx rfl; subst this; exact ⟨_, rfl⟩
          | fslc hr hw hlen hl hxx =>
            simp at hlen
            subst hlen
            have := hxx rfl
            subst this
            exact ⟨_, rfl⟩
        obtain ⟨base, rfl⟩ := key
        cases hy
        have hrun := run_append_zeros (P := P) sT xT ty e k i z' ht hxt hi' hz' base k' N w (by omega) c3 (by omega) (fun h0 => by
          rcases Nat.mul_eq_zero.1 h0 with h0 | h0
          · omega
          · rw [hzs, ← hszi, h0])
        have hge := grownCap_ge w N 0 e
        generalize hcap : grownCap w N 0 e = cap at hrun hge
        have hfree := hs.free (Nat.le_refl st.next)
        have hext : Ext m (m.add st.next w.drew.heap.size (cap * sz)) := Mu.ext_add hfree
        have hm := amade_ok hzr.cells N
        rw [hzs] at hm
        refine ⟨_, _, m.add st.next w.drew.heap.size (cap * sz), hrun, .oslc (Mu.loc_add _ _ _ _) (by simp) hge (fun he => by cases he), ?_⟩
        have hrow := grown_row (id := st.next) (b := w.drew.heap.size) (cap := cap) (e := e) (k := cap - N) (z := z') (old := []) (vo := []) (len := 0) (n := N) (sz := sz) VRs.nil hm hext (by simp) (by rw [amade_length, c4]) hzs (by omega) (by omega)
        have e1 : (⟨(madeCells z'.cells (N * sz)).toList⟩ : Array Value) = Builtin.zeroCells z'.cells N := by
          rw [← hzs]; rfl
        rw [e1] at hrow
        exact (Stp.drew hs).trans (hs.drew.alloc st.next hfree (.row ([] ++ amade z.cells N)) _ (cap * sz) (st.next + 1) hrow (Nat.le_succ _) (Nat.lt_succ_self _) (Nat.le_refl _))
      · cases h
    · cases h
  · cases h

end Go.Abs

/- OPERATIONS THAT WRITE: maps. 'aeffect': all that write and call nothing. -/
namespace Go.Abs
variable {P : Program}

theorem MapR.set {m : Mu} {k v : AV} {k' v' : Value} (hk : VR m k k') (hv : VR m v v') : ∀ {es : List (AV × AV × Nat)} {fs : List MapEntry} {i n : Nat}, MapR m es fs → (∃ e, fs[i]? = some e ∧ e.born = n) →
    MapR m (es.set i (k, v, n)) (fs.modify i fun e => { e with key := k', val := v' })
  | _, _, _, _, .nil, ⟨e, he, _⟩ => by simp at he
  | _, _, 0, n, .cons hk2 hv2 t, ⟨e, he, hb⟩ => by
    simp at he; subst he
    simp only at hb
    subst hb
    simpa using MapR.cons hk hv t
  | _, _, i + 1, n, .cons hk2 hv2 t, ⟨e, he, hb⟩ => by
    simp at he
    have := MapR.set hk hv t ⟨e, he, hb⟩
    simpa using MapR.cons hk2 hv2 this

theorem MapR.snoc {m : Mu} {k v : AV} {k' v' : Value} (n : Nat) (hk : VR m k k') (hv : VR m v v') : ∀ {es : List (AV × AV × Nat)} {fs : List MapEntry}, MapR m es fs →
    MapR m (es ++ [(k, v, n)]) (fs ++ [⟨k', v', n⟩])
  | _, _, .nil => .cons hk hv .nil
  | _, _, .cons a b t => .cons a b (MapR.snoc n hk hv t)

theorem MapR.erase {m : Mu} : ∀ {es : List (AV × AV × Nat)} {fs : List MapEntry} (i : Nat), MapR m es fs → MapR m (es.eraseIdx i) (fs.eraseIdx i)
  | _, _, _, .nil => by simpa using MapR.nil
  | _, _, 0, .cons _ _ t => by simpa using t
  | _, _, i + 1, .cons a b t => by simpa using MapR.cons a b (MapR.erase i t)

theorem MapR.get {m : Mu} : ∀ {es : List (AV × AV × Nat)} {fs : List MapEntry} {i : Nat} {e : MapEntry}, MapR m es fs → fs[i]? = some e → ∃ k v, es[i]? = some (k, v, e.born) ∧ VR m k e.key ∧ VR m v e.val
  | _, _, _, _, .nil, h => by simp at h
  | _, _, 0, _, .cons a b t, h => by simp at h; subst h; exact ⟨_, _, rfl, a, b⟩
  | _, _, i + 1, _, .cons a b t, h => by simp at h; simpa using MapR.get t h

/-- two keys are the same to the bit -/
def asameLeaf : AV → AV → Bool
  | .int j a, .int k b => j = k && a == b
  | .str a, .str b => a == b
  | .bool a, .bool b => a == b
  | _, _ => false

def asameAll : List AV → List AV → Bool
  | [], [] => true
  | a :: as, b :: bs => asameLeaf a b && asameAll as bs
  | _, _ => false

def asame : AV → AV → Bool
  | .agg a, .agg b => asameAll a b
  | a, b => asameLeaf a b

theorem asameLeaf_eq {m : Mu} {a b : AV} (h : asameLeaf a b = true) {a' b' : Value} (ha : VR m a a') (hb : VR m b b') (n : Nat) : Instr.sameBits n a' b' = true := by
  unfold asameLeaf at h
  split at h
  · simp only [Bool.and_eq_true, decide_eq_true_eq, beq_iff_eq] at h
    obtain ⟨h1, h2⟩ := h
    subst h1 h2
    cases ha; cases hb
    cases n <;> simp [Instr.sameBits]
  · have := beq_iff_eq.1 h
    subst this
    cases ha; cases hb
    cases n <;> simp only [Instr.sameBits] <;> rw [beq_toListBytes] <;> simp
  · have := beq_iff_eq.1 h
    subst this
    cases ha; cases hb
    cases n <;> simp [Instr.sameBits]
  · cases h

theorem asameAll_ok {m : Mu} (n : Nat) : ∀ {as bs : List AV}, asameAll as bs = true → ∀ {as' bs' : List Value}, VRs m as as' → VRs m bs bs' →
    as'.length = bs'.length ∧ ((as'.zip bs').all fun (x, y) => Instr.sameBits n x y) = true
  | [], [], _, _, _, .nil, .nil => ⟨rfl, rfl⟩
  | a :: as, b :: bs, h, _, _, .cons h1 t1, .cons h2 t2 => by
    simp only [asameAll, Bool.and_eq_true] at h
    obtain ⟨k1, k2⟩ := asameAll_ok n h.2 t1 t2
    refine ⟨by simp [k1], ?_⟩
    simp only [List.zip_cons_cons, List.all_cons, asameLeaf_eq h.1 h1 h2 n, Bool.true_and]
    exact k2
  | [], _ :: _, h, _, _, _, _ => by cases h
  | _ :: _, [], h, _, _, _, _ => by cases h

theorem asame_ok {m : Mu} {a b : AV} (h : asame a b = true) {a' b' : Value} (ha : VR m a a') (hb : VR m b b') : Instr.sameBits 10000 a' b' = true := by
  unfold asame at h
  split at h
  · cases ha with
    | agg ha =>
      cases hb with
      | agg hb =>
        obtain ⟨k1, k2⟩ := asameAll_ok 9999 h ha hb
        show Instr.sameBits (9999 + 1) _ _ = true
        rw [Instr.sameBits]
        simp only [Bool.and_eq_true]
        exact ⟨by simpa using k1, k2⟩
  · exact asameLeaf_eq h ha hb 10000

theorem run_keyThatStays {old new : Value} (h : Instr.sameBits 10000 old new = true) (w : World) : (Instr.keyThatStays old new).run P w = .ok new w := by
  simp only [Instr.keyThatStays, h, if_true]
  rfl

def World.putMap (w : World) (b : Nat) (o : Obj) : World := { w with heap := w.heap.setIfInBounds b o }

theorem run_setObj_map {w : World} {b ck : Nat} {fs : Array MapEntry} (h : w.heap[b]? = some (.map fs ck)) (o : Obj) : (setObj b o).run P w = .ok () (World.putMap w b o) := by
  simp only [setObj, Sem.run, h]
  rfl

theorem SR.setMap {m : Mu} {st : ASt} {w : World} (hs : SR m st w) {id b r ck ck' : Nat} {es es' : List (AV × AV × Nat)} (hg : st.get id = some (.map es ck)) (hl : m.loc id = some (b, r))
    {fs fs' : Array MapEntry} (hw : w.heap[b]? = some (.map fs ck)) (hm : MapR m es' fs'.toList) (hb : ∀ e, e ∈ es' → e.2.2 < ck') :
    Stp m st w m (st.put id (.map es' ck')) (World.putMap w b (.map fs' ck')) := by
  have hlt : b < w.heap.size := (Array.getElem?_eq_some_iff.1 hw).1
  refine hs.change hg hl _ (.map fs' ck') ?_ (.map hm hb) rfl rfl rfl (by simp [World.putMap]) (fun k hk => ?_)
  · simp [World.putMap, hlt]
  · simp only [World.putMap]
    rw [Array.getElem?_setIfInBounds_ne (fun e => hk e.symm)]

def amapUpdate (E : Env P) (st : ASt) (t : TypeId) (x k v : AV) : Option ASt :=
  match E.und t, x with
  | some (.map kt _), .map id =>
    match st.get id with
    | some (.map es ck) =>
      match akeyFind E kt k es with
      | some (some (i, _, n)) =>
        match es[i]? with
        | some (k0, _, _) => if asame k0 k = true then some (st.put id (.map (es.set i (k, v, n)) ck)) else none
        | none => none
      | some none => some (st.put id (.map (es ++ [(k, v, ck)]) (ck + 1)))
      | none => none
    | _ => none
  | _, _ => none

theorem mem_set_born {es : List (AV × AV × Nat)} {i n ck : Nat} {k v : AV} (hb : ∀ e, e ∈ es → e.2.2 < ck) (hn : n < ck) : ∀ e, e ∈ es.set i (k, v, n) → e.2.2 < ck := by
  intro e he
  rcases List.mem_or_eq_of_mem_set he with h | h
  · exact hb e h
  · subst h; exact hn

theorem amapUpdate_ok {E : Env P} {m : Mu} {st st' : ASt} {w : World} (hs : SR m st w) {t : TypeId} {x k v : AV} (h : amapUpdate E st t x k v = some st') {x' k' v' : Value} (hx : VR m x x')
    (hk : VR m k k') (hv : VR m v v') : ∃ w', (Instr.mapUpdate t x' k' v').run P w = .ok () w' ∧ Stp m st w m st' w' := by
  unfold amapUpdate at h
  split at h
  · rename_i kt et id hu
    split at h
    · rename_i es ck hg
      cases hx with
      | map hl =>
        rename_i b r
        obtain ⟨fs, h1, h2, h3⟩ := hs.map_obj hg hl
        split at h
        · rename_i i v0 n hf
          obtain ⟨r', k1, k2, k3⟩ := akeyFind_ok hf hk h2
          split at h
          · rename_i k0 v1 n1 he0
            split at h
            · rename_i hsame
              cases h
              cases k1 with
              | some hv0 hi hent =>
                rename_i v0'
                obtain ⟨e, he, hval, hborn⟩ := hent
                simp only [Nat.sub_zero] at he
                have he' : fs[i]? = some e := by simpa using he
                obtain ⟨kk, vv, g1, g2, g3⟩ := h2.get he
                rw [he0] at g1
                cases g1
                have hkeep := asame_ok hsame g2 hk
                have hset : MapR m (es.set i (k, v, n)) ((fs.modify i fun e => { e with key := k', val := v' }).toList) := by
                  rw [Array.toList_modify]
                  exact MapR.set hk hv h2 ⟨e, he, hborn⟩
                have hnck : n < ck := by
                  rw [← hborn]
                  have := h3 _ (List.mem_of_getElem? he0)
                  simpa using this
                refine ⟨_, ?_, hs.setMap hg hl h1 hset (mem_set_born h3 hnck)⟩
                simp only [Instr.mapUpdate, Sem.run_bind, Env.runUnd hu, Result.andThen_ok, run_getObj_map h1, k2, k3, he', Option.map_some, Option.getD_some, run_keyThatStays hkeep]
                exact run_setObj_map h1 _
            · cases h
          · cases h
        · rename_i hf
          obtain ⟨r', k1, k2, k3⟩ := akeyFind_ok hf hk h2
          cases k1
          cases h
          have hpush : MapR m (es ++ [(k, v, ck)]) ((fs.push ⟨k', v', ck⟩).toList) := by
            rw [Array.toList_push]
            exact MapR.snoc ck hk hv h2
          refine ⟨_, ?_, hs.setMap hg hl h1 hpush (fun e he => ?_)⟩
          · simp only [Instr.mapUpdate, Sem.run_bind, Env.runUnd hu, Result.andThen_ok, run_getObj_map h1, k2, k3]
            exact run_setObj_map h1 _
          · rcases List.mem_append.1 he with h | h
            · have := h3 e h; omega
            · simp at h; subst h; simp
        · cases h
    · cases h
  · cases h

/-- 'm[k] op= x', its first half: the entry is there behind it. -/
def amapEntry (E : Env P) (st : ASt) (t : TypeId) (x k : AV) : Option (AV × ASt) :=
  match E.und t, x with
  | some (.map kt et), .map id =>
    match st.get id with
    | some (.map es ck) =>
      match akeyFind E kt k es with
      | some (some (i, v, n)) =>
        match es[i]? with
        | some (k0, v0, _) => if asame k0 k = true then some (.tup [v, .int .i64 n], st.put id (.map (es.set i (k, v0, n)) ck)) else none
        | none => none
      | some none => (E.zero et).map fun z => (.tup [z, .int .i64 ck], st.put id (.map (es ++ [(k, z, ck)]) (ck + 1)))
      | none => none
    | _ => none
  | _, _ => none

theorem amapEntry_ok {E : Env P} {m : Mu} {st st' : ASt} {w : World} (hs : SR m st w) {t : TypeId} {x k a : AV} (h : amapEntry E st t x k = some (a, st')) {x' k' : Value} (hx : VR m x x')
    (hk : VR m k k') : ∃ v w', (Instr.mapEntry t x' k').run P w = .ok v w' ∧ VR m a v ∧ Stp m st w m st' w' := by
  unfold amapEntry at h
  split at h
  · rename_i kt et id hu
    split at h
    · rename_i es ck hg
      cases hx with
      | map hl =>
        rename_i b r
        obtain ⟨fs, h1, h2, h3⟩ := hs.map_obj hg hl
        split at h
        · rename_i i v n hf
          obtain ⟨r', k1, k2, k3⟩ := akeyFind_ok hf hk h2
          split at h
          · rename_i k0 v0 n1 he0
            split at h
            · rename_i hsame
              cases h
              cases k1 with
              | some hv0 hi hent =>
                rename_i v0'
                obtain ⟨e, he, hval, hborn⟩ := hent
                simp only [Nat.sub_zero] at he
                have he' : fs[i]? = some e := by simpa using he
                obtain ⟨kk, vv, g1, g2, g3⟩ := h2.get he
                rw [he0] at g1
                cases g1
                have hkeep := asame_ok hsame g2 hk
                have hset : MapR m (es.set i (k, v0, n)) ((fs.modify i fun e => { e with key := k' }).toList) := by
                  rw [Array.toList_modify]
                  have := MapR.set (i := i) (n := n) hk g3 h2 ⟨e, he, hborn⟩
                  have hfn : (fs.toList.modify i fun e => { e with key := k' }) = (fs.toList.modify i fun e' => { e' with key := k', val := e.val }) := by
                    apply List.ext_getElem?
                    intro j
                    rw [List.getElem?_modify, List.getElem?_modify]
                    by_cases hj : i = j
                    · subst hj; rw [he]; rfl
                    · simp [hj]
                  rw [hfn]
                  exact this
                have hnck : n < ck := by
                  rw [← hborn]
                  have := h3 _ (List.mem_of_getElem? he0)
                  simpa using this
                refine ⟨.tuple #[v0', goInt n], _, ?_, .tup (.cons hv0 (.cons (.int _ _) .nil)), hs.setMap hg hl h1 hset (mem_set_born h3 hnck)⟩
                simp only [Instr.mapEntry, Sem.run_bind, Env.runUnd hu, Result.andThen_ok, run_getObj_map h1, k2, k3, he', Option.map_some, Option.getD_some, run_keyThatStays hkeep, run_setObj_map h1, hborn]
                rfl
            · cases h
          · cases h
        · rename_i hf
          obtain ⟨r', k1, k2, k3⟩ := akeyFind_ok hf hk h2
          cases k1
          cases hz : E.zero et with
          | none => rw [hz] at h; cases h
          | some z =>
            rw [hz] at h
            cases h
            obtain ⟨z', hz1, hz2⟩ := Env.runZero hz m
            have hpush : MapR m (es ++ [(k, z, ck)]) ((fs.push ⟨k', z', ck⟩).toList) := by
              rw [Array.toList_push]
              exact MapR.snoc ck hk hz1 h2
            refine ⟨.tuple #[z', goInt ck], _, ?_, .tup (.cons hz1 (.cons (.int _ _) .nil)), hs.setMap hg hl h1 hpush (fun e he => ?_)⟩
            · simp only [Instr.mapEntry, Sem.run_bind, Env.runUnd hu, Result.andThen_ok, run_getObj_map h1, k2, k3, hz2, run_setObj_map h1]
              rfl
            · rcases List.mem_append.1 he with h | h
              · have := h3 e h; omega
              · simp at h; subst h; simp
        · cases h
    · cases h
  · cases h

end Go.Abs

/- OPERATIONS THAT WRITE: the rest; 'aeffect': all that write and call nothing. -/
namespace Go.Abs
variable {P : Program}

def abornAt (n : Int) : List (AV × AV × Nat) → Option (Nat × AV × Nat)
  | [] => none
  | (k, _, b) :: es => if (b : Int) == n then some (0, k, b) else (abornAt n es).map fun r => (r.1 + 1, r.2)

def aentryStore (st : ASt) (x s v : AV) : Option ASt :=
  match x, s with
  | .map id, .int _ n =>
    match st.get id with
    | some (.map es ck) =>
      match abornAt n es with
      | some (i, k, b) => some (st.put id (.map (es.set i (k, v, b)) ck))
      | none => none
    | _ => none
  | _, _ => none

theorem abornAt_ok {m : Mu} {n : Int} : ∀ {es : List (AV × AV × Nat)} {fs : List MapEntry} {i b : Nat} {k : AV}, abornAt n es = some (i, k, b) → MapR m es fs →
    fs.findIdx? (fun e => (e.born : Int) == n) = some i ∧ ∃ e, fs[i]? = some e ∧ e.born = b ∧ VR m k e.key ∧ (∃ v, es[i]? = some (k, v, b))
  | [], _, _, _, _, h, .nil => by cases h
  | (k0, v0, b0) :: es, _, i, b, k, h, .cons (k' := k') (v' := v') hk hv t => by
    simp only [abornAt] at h
    split at h
    · rename_i hb
      cases h
      exact ⟨by simp [List.findIdx?_cons, hb], ⟨_, rfl, rfl, hk, ⟨v0, rfl⟩⟩⟩
    · rename_i hb
      cases hr : abornAt n es with
      | none => rw [hr] at h; cases h
      | some r =>
        obtain ⟨i', k1, b1⟩ := r
        rw [hr] at h
        cases h
        obtain ⟨h1, e, h2, h3, h4, h5⟩ := abornAt_ok hr t
        refine ⟨by simp [List.findIdx?_cons, hb, h1], e, by simpa using h2, h3, h4, by simpa using h5⟩

theorem aentryStore_ok {m : Mu} {st st' : ASt} {w : World} (hs : SR m st w) {x s v : AV} (h : aentryStore st x s v = some st') {x' s' v' : Value} (hx : VR m x x') (hss : VR m s s') (hv : VR m v v')
    (t : TypeId) : ∃ w', (Instr.entryStore t x' s' v').run P w = .ok () w' ∧ Stp m st w m st' w' := by
  unfold aentryStore at h
  split at h
  · rename_i id k n
    split at h
    · rename_i es ck hg
      cases hx with
      | map hl =>
        cases hss
        obtain ⟨fs, h1, h2, h3⟩ := hs.map_obj hg hl
        split at h
        · rename_i i kk b hf
          cases h
          obtain ⟨g1, e, g2, g3, g4, vv, g5⟩ := abornAt_ok hf h2
          have hidx : fs.findIdx? (fun e => (e.born : Int) == n) = some i := by
            rw [← g1]
            obtain ⟨l⟩ := fs
            exact List.findIdx?_toArray _ l
          have hset : MapR m (es.set i (kk, v, b)) ((fs.modify i fun e => { e with val := v' }).toList) := by
            rw [Array.toList_modify]
            have := MapR.set (i := i) (n := b) g4 hv h2 ⟨e, g2, g3⟩
            have hfn : (fs.toList.modify i fun e => { e with val := v' }) = (fs.toList.modify i fun e' => { e' with key := e.key, val := v' }) := by
              apply List.ext_getElem?
              intro j
              rw [List.getElem?_modify, List.getElem?_modify]
              by_cases hj : i = j
              · subst hj; rw [g2]; rfl
              · simp [hj]
            rw [hfn]
            exact this
          have hbck : b < ck := by
            have := h3 _ (List.mem_of_getElem? g5)
            simpa using this
          refine ⟨_, ?_, hs.setMap hg hl h1 hset (mem_set_born h3 hbck)⟩
          simp only [Instr.entryStore, Sem.run_bind, run_getObj_map h1, Result.andThen_ok, asInt, asIntOf, Sem.run_pure, hidx]
          exact run_setObj_map h1 _
        · cases h
    · cases h
  · cases h

def adelete (E : Env P) (st : ASt) (t : TypeId) (x k : AV) : Option ASt :=
  match E.und t, x with
  | some (.map kt _), .map id =>
    match st.get id with
    | some (.map es ck) =>
      match akeyFind E kt k es with
      | some (some (i, _, _)) => some (st.put id (.map (es.eraseIdx i) ck))
      | some none => some (st.put id (.map es ck))
      | none => none
    | _ => none
  | _, _ => none

theorem adelete_ok {E : Env P} {m : Mu} {st st' : ASt} {w : World} (hs : SR m st w) {t ty : TypeId} {x k : AV} (h : adelete E st t x k = some st') {x' k' : Value} (hx : VR m x x') (hk : VR m k k')
    (ts : List TypeId) : ∃ w', (Builtin.delete_ ⟨t :: ts⟩ ty #[x', k']).run P w = .ok (.tuple #[]) w' ∧ Stp m st w m st' w' := by
  unfold adelete at h
  split at h
  · rename_i kt et id hu
    split at h
    · rename_i es ck hg
      cases hx with
      | map hl =>
        obtain ⟨fs, h1, h2, h3⟩ := hs.map_obj hg hl
        split at h
        · rename_i i v n hf
          cases h
          obtain ⟨r', k1, k2, k3⟩ := akeyFind_ok hf hk h2
          cases k1 with
          | some hv0 hi hent =>
            have her : MapR m (es.eraseIdx i) ((fs.eraseIdxIfInBounds i).toList) := by
              rw [Array.toList_eraseIdxIfInBounds]
              exact MapR.erase i h2
            refine ⟨_, ?_, hs.setMap hg hl h1 her (fun e he => h3 e (List.mem_of_mem_eraseIdx he))⟩
            simp [Builtin.delete_, Env.runUnd hu, run_getObj_map h1, k2, k3, run_setObj_map h1]
        · rename_i hf
          cases h
          obtain ⟨r', k1, k2, k3⟩ := akeyFind_ok hf hk h2
          cases k1
          refine ⟨_, ?_, hs.setMap hg hl h1 h2 h3⟩
          simp [Builtin.delete_, Env.runUnd hu, run_getObj_map h1, k2, k3, run_setObj_map h1]
        · cases h
    · cases h
  · cases h

/-! ## clear, copy -/
def aclear (E : Env P) (st : ASt) (t : TypeId) (x : AV) : Option ASt :=
  match E.und t, x with
  | some (.slice _), .fslc _ [] _ => some st
  | some (.slice e), .oslc id off len sz _ =>
    match st.get id, E.zero e with
    | some (.row cells), some z => if len ≠ 0 ∧ z.cells.length = sz ∧ off + len * sz ≤ cells.length ∧ z.cells.all AV.leaf = true then some (st.put id (.row (awrite cells off (amade z.cells len)))) else none
    | _, _ => none
  | _, _ => none

theorem amade_leaf {z : List AV} (h : z.all AV.leaf = true) : ∀ n, (amade z n).all AV.leaf = true
  | 0 => rfl
  | n + 1 => by simp only [amade, List.all_append, h, amade_leaf h n, Bool.and_self]

theorem zeroCells_list (z : Array Value) (n : Nat) : Builtin.zeroCells z n = madeCells z (n * z.size) := rfl

theorem aclear_ok {E : Env P} {m : Mu} {st st' : ASt} {w : World} (hs : SR m st w) {t ty : TypeId} {x : AV} (h : aclear E st t x = some st') {x' : Value} (hx : VR m x x') (ts : List TypeId) :
    ∃ w', (Builtin.clear_ ⟨t :: ts⟩ ty #[x']).run P w = .ok (.tuple #[]) w' ∧ Stp m st w m st' w' := by
  unfold aclear at h
  split at h
  · rename_i e sz xx hu
    cases h
    refine ⟨w, ?_, .refl hs⟩
    cases hx with
    | fslc0 a hxx => cases a <;> simp [Builtin.clear_, Env.runUnd hu]
    | fslc hr hw hlen hl hxx => simp at hlen; subst hlen; simp [Builtin.clear_, Env.runUnd hu]
  · rename_i e id off len sz xx hu
    split at h
    · rename_i cells z hg hz
      split at h
      · rename_i hc
        obtain ⟨hne, hzl, hle, hleaf⟩ := hc
        cases h
        cases hx with
        | oslc hl hcap hlen hxx =>
          rename_i b r cap
          obtain ⟨i, z', hi, hz', hzr⟩ := Env.info_of_zero hz m
          have hmade := amade_ok hzr.cells len
          obtain ⟨w', hrun, hstp⟩ := hs.store (P := P) (off := off) hg hl hmade (by rw [amade_length, hzl]; exact hle) (amade_leaf hleaf len)
          refine ⟨w', ?_, hstp⟩
          have hzv : (zeroValue e).run P w = .ok z' w := by simp [zeroValue, runTypeInfo hi, hz']
          have : len ≠ 0 := hne
          obtain ⟨l, rfl⟩ : ∃ l, len = l + 1 := ⟨len - 1, by omega⟩
          simp [Builtin.clear_, Env.runUnd hu, hzv, zeroCells_list, hrun]
      · cases h
    · cases h
  · cases h

def acopy (E : Env P) (st : ASt) (t : TypeId) (x y : AV) : Option (AV × ASt) :=
  match E.und t, x with
  | some (.slice e), .oslc id off len sz _ =>
    match st.get id, E.size e, asrc st sz y with
    | some (.row cells), some sz', some (n, new) =>
      if sz' = sz ∧ new.all AV.leaf = true ∧ off + len * sz ≤ cells.length ∧ n ≤ len then
        some (.int .i64 n, st.put id (.row (awrite cells off new)))
      else none
    | _, _, _ => none
  | _, _ => none

theorem acopy_ok {E : Env P} {m : Mu} {st st' : ASt} {w : World} (hs : SR m st w) {t ty : TypeId} {x y a : AV} (h : acopy E st t x y = some (a, st')) {x' y' : Value} (hx : VR m x x') (hy : VR m y y') (ts : List TypeId) :
    ∃ v w', (Builtin.copy_ ⟨t :: ts⟩ ty #[x', y']).run P w = .ok v w' ∧ VR m a v ∧ Stp m st w m st' w' := by
  unfold acopy at h
  split at h
  · rename_i e id off len sz xx hu
    split at h
    · rename_i cells sz' n new hg hsz hsrc
      split at h
      · rename_i hc
        obtain ⟨rfl, hleaf, hle, hn⟩ := hc
        cases h
        cases hx with
        | oslc hl hcap hlen hxx =>
          rename_i b r cap
          obtain ⟨hnl, vn, hvn, hlenof, hfirst⟩ := asrc_ok (P := P) hs hsrc hy
          have hmul : n * sz' ≤ len * sz' := Nat.mul_le_mul_right _ hn
          obtain ⟨w', hrun, hstp⟩ := hs.store (P := P) (off := off) hg hl hvn (by rw [hnl]; omega) hleaf
          refine ⟨.int .i64 n, w', ?_, .int _ _, hstp⟩
          have hmin : Nat.min n len = n := Nat.min_eq_left hn
          simp [Builtin.copy_, Env.runUnd hu, hlenof w, hmin, Env.runSize hsz, hfirst w rfl, hrun, goInt]
      · cases h
    · cases h
  · cases h

/-! ## all of them -/
/-- What an operation that writes hands back: none, where it is no value. -/
def aeffect (E : Env P) (ρ : Operand → Option AV) (st : ASt) : Op → Option (Option AV × ASt)
  | .store t x v => match ρ x, ρ v with
    | some a, some b => (astore E st t a b).map fun s => (none, s)
    | _, _ => none
  | .mapUpdate t x k v | .insert t x k v => match ρ x, ρ k, ρ v with
    | some a, some b, some c => (amapUpdate E st t a b c).map fun s => (none, s)
    | _, _, _ => none
  | .mapEntry t x k => match ρ x, ρ k with
    | some a, some b => (amapEntry E st t a b).map fun r => (some r.1, r.2)
    | _, _ => none
  | .entryStore _ x s v => match ρ x, ρ s, ρ v with
    | some a, some b, some c => (aentryStore st a b c).map fun s => (none, s)
    | _, _, _ => none
  | .call { callee := .builtin .append, args := ⟨[x, y]⟩, argTypes := ⟨[s, t]⟩ } => match ρ x, rnorm ρ y with
    | some a, some b => match aappend E st s t a b with
      | some r => some (some r.1, r.2)
      | none => (aappendZ E st s t a.norm b).map fun r => (some r.1, r.2)
    | _, _ => none
  | .call { callee := .builtin .delete, args := ⟨[x, y]⟩, argTypes := ⟨t :: _⟩ } => match ρ x, ρ y with
    | some a, some b => (adelete E st t a b).map fun s => (some .undef, s)
    | _, _ => none
  | .call { callee := .builtin .clear, args := ⟨[x]⟩, argTypes := ⟨t :: _⟩ } => match rnorm ρ x with
    | some a => (aclear E st t a).map fun s => (some .undef, s)
    | _ => none
  | .call { callee := .builtin .copy, args := ⟨[x, y]⟩, argTypes := ⟨t :: _⟩ } => match rnorm ρ x, rnorm ρ y with
    | some a, some b => (acopy E st t a b).map fun r => (some r.1, r.2)
    | _, _ => none
  | _ => none

/-- The step of an operation, as the model has it. -/
inductive NextR (m : Mu) : Option AV → Next → Prop
  | value {a : AV} {v : Value} (h : VR m a v) : NextR m (some a) (.value v)
  | skip : NextR m none .skip

theorem aeffect_ok {E : Env P} {m : Mu} {st st' : ASt} {w : World} (hs : SR m st w) {ρ : Operand → Option AV} {ρ' : Operand → Value} (hρ : ∀ x a, ρ x = some a → VR m a (ρ' x)) {o : Oper} {a : Option AV}
    (h : aeffect E ρ st o.op = some (a, st')) : ∃ nx w' m', (execOp ρ' o).run P w = .ok nx w' ∧ NextR m' a nx ∧ Stp m st w m' st' w' := by
  unfold aeffect at h
  split at h
  · rename_i t x v e
    split at h
    · rename_i a1 b1 h1 h2
      cases hq : astore E st t a1 b1 with
      | none => rw [hq] at h; cases h
      | some s =>
        rw [hq] at h; cases h
        obtain ⟨w', k1, k2⟩ := astore_ok hs hq (hρ _ _ h1) (hρ _ _ h2)
        exact ⟨.skip, w', m, by simp [execOp, e, k1], .skip, k2⟩
    · cases h
  · rename_i t x k v e
    split at h
    · rename_i a1 b1 c1 h1 h2 h3
      cases hq : amapUpdate E st t a1 b1 c1 with
      | none => rw [hq] at h; cases h
      | some s =>
        rw [hq] at h; cases h
        obtain ⟨w', k1, k2⟩ := amapUpdate_ok hs hq (hρ _ _ h1) (hρ _ _ h2) (hρ _ _ h3)
        exact ⟨.skip, w', m, by simp [execOp, e, k1], .skip, k2⟩
    · cases h
  · rename_i t x k v e
    split at h
    · rename_i a1 b1 c1 h1 h2 h3
      cases hq : amapUpdate E st t a1 b1 c1 with
      | none => rw [hq] at h; cases h
      | some s =>
        rw [hq] at h; cases h
        obtain ⟨w', k1, k2⟩ := amapUpdate_ok hs hq (hρ _ _ h1) (hρ _ _ h2) (hρ _ _ h3)
        exact ⟨.skip, w', m, by simp [execOp, e, k1], .skip, k2⟩
    · cases h
  · rename_i t x k e
    split at h
    · rename_i a1 b1 h1 h2
      cases hq : amapEntry E st t a1 b1 with
      | none => rw [hq] at h; cases h
      | some r =>
        rw [hq] at h; cases h
        obtain ⟨v, w', k1, k2, k3⟩ := amapEntry_ok hs hq (hρ _ _ h1) (hρ _ _ h2)
        exact ⟨.value v, w', m, by simp [execOp, e, k1], .value k2, k3⟩
    · cases h
  · rename_i t x s v e
    split at h
    · rename_i a1 b1 c1 h1 h2 h3
      cases hq : aentryStore st a1 b1 c1 with
      | none => rw [hq] at h; cases h
      | some s =>
        rw [hq] at h; cases h
        obtain ⟨w', k1, k2⟩ := aentryStore_ok (P := P) hs hq (hρ _ _ h1) (hρ _ _ h2) (hρ _ _ h3) t
        exact ⟨.skip, w', m, by simp [execOp, e, k1], .skip, k2⟩
    · cases h
  · rename_i x y s t e
    split at h
    · rename_i a1 b1 h1 h2
      cases hq : aappend E st s t a1 b1 with
      | none =>
        rw [hq] at h
        simp only at h
        cases hq2 : aappendZ E st s t a1.norm b1 with
        | none => rw [hq2] at h; cases h
        | some r =>
          rw [hq2] at h; cases h
          obtain ⟨v, w', m', k1, k2, k3⟩ := aappendZ_ok (ty := o.type) hs hq2 (hρ _ _ h1).norm (rnorm_ok hρ _ _ h2)
          exact ⟨.value v, w', m', by simp [execOp, e, resolve, invoke, builtin, k1], .value k2, k3⟩
      | some r =>
        rw [hq] at h; cases h
        obtain ⟨v, w', m', k1, k2, k3⟩ := aappend_ok (ty := o.type) hs hq (hρ _ _ h1) (rnorm_ok hρ _ _ h2)
        exact ⟨.value v, w', m', by simp [execOp, e, resolve, invoke, builtin, k1], .value k2, k3⟩
    · cases h
  · rename_i x y t ts e
    split at h
    · rename_i a1 b1 h1 h2
      cases hq : adelete E st t a1 b1 with
      | none => rw [hq] at h; cases h
      | some r =>
        rw [hq] at h; cases h
        obtain ⟨w', k1, k2⟩ := adelete_ok (ty := o.type) hs hq (hρ _ _ h1) (hρ _ _ h2) ts
        exact ⟨.value (.tuple #[]), w', m, by simp [execOp, e, resolve, invoke, builtin, k1], .value .undef, k2⟩
    · cases h
  · rename_i x t ts e
    split at h
    · rename_i a1 h1
      cases hq : aclear E st t a1 with
      | none => rw [hq] at h; cases h
      | some r =>
        rw [hq] at h; cases h
        obtain ⟨w', k1, k2⟩ := aclear_ok (ty := o.type) hs hq (rnorm_ok hρ _ _ h1) ts
        exact ⟨.value (.tuple #[]), w', m, by simp [execOp, e, resolve, invoke, builtin, k1], .value .undef, k2⟩
    · cases h
  · rename_i x y t ts e
    split at h
    · rename_i a1 b1 h1 h2
      cases hq : acopy E st t a1 b1 with
      | none => rw [hq] at h; cases h
      | some r =>
        rw [hq] at h; cases h
        obtain ⟨v, w', k1, k2, k3⟩ := acopy_ok (ty := o.type) hs hq (rnorm_ok hρ _ _ h1) (rnorm_ok hρ _ _ h2) ts
        exact ⟨.value v, w', m, by simp [execOp, e, resolve, invoke, builtin, k1], .value k2, k3⟩
    · cases h
  · cases h

end Go.Abs
