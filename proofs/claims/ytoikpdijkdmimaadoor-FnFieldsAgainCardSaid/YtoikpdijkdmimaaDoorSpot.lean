/-
  A region that draws its order, some of whose operations lay something into a new block (a Spot: bytes, or a box), and whose LAST operations wait for all before: every order of the first ones comes to one frame, up to where the new blocks lie.
-/
import Derived.Test.YtoikpdijkdmimaaDoorTail
namespace Go.Proofs.YtoikpdijkdmimaaDoor
open Go.RowKit
set_option linter.unusedVariables false

structure Spot where
  val : Nat → Value
  lies : Nat → World → Prop
  keep : ∀ {b : Nat} {w w' : World}, lies b w → Bel w w' → lies b w'
/-- a few bytes in a new block -/
def Spot.row (ns : List Int) : Spot := ⟨fun b => .slice (some ⟨b, 0, none⟩) ns.length ns.length, fun b w => RowAt b ns w, fun h k => h.bel k⟩
/-- a new box: where it lies (from block n on), what it holds -/
structure BoxAt (n : Nat) (cs : List Value) (b : Nat) (w : World) : Prop where
  new : n ≤ b
  old : b < w.heap.size
  cell : ∀ j, w.cell? ⟨b, j, none⟩ = cs[j]?
  frozen : ∀ j, w.frozen? ⟨b, j, none⟩ = false
theorem BoxAt.bel {n : Nat} {cs : List Value} {b : Nat} {w w' : World} (h : BoxAt n cs b w) (k : Bel w w') : BoxAt n cs b w' :=
  ⟨h.new, Nat.lt_of_lt_of_le h.old k.size, fun j => (k.cell (p := ⟨b, j, none⟩) h.old).trans (h.cell j), fun j => (k.frozen (p := ⟨b, j, none⟩) h.old).trans (h.frozen j)⟩
theorem boxAt_alloc {n : Nat} {w : World} (hW : n ≤ w.heap.size) (cs : Array Value) (t : TypeId) : BoxAt n cs.toList w.heap.size (w.alloc (.cells cs t)) :=
  ⟨hW, by simp, fun j => by rw [World.cell?_alloc_mark w cs t (0, 0) j]; simp, fun j => World.frozen?_alloc_new _ _ _ _⟩
def Spot.box (n : Nat) (cs : List Value) : Spot := ⟨fun b => .pointer (some ⟨b, 0, none⟩), BoxAt n cs, fun h k => h.bel k⟩

theorem Spot.row_val (ns : List Int) (b : Nat) : (Spot.row ns).val b = .slice (some ⟨b, 0, none⟩) ns.length ns.length := rfl
theorem Spot.row_lies (ns : List Int) (b : Nat) (w : World) : (Spot.row ns).lies b w = RowAt b ns w := rfl
theorem Spot.box_val (n : Nat) (cs : List Value) (b : Nat) : (Spot.box n cs).val b = .pointer (some ⟨b, 0, none⟩) := rfl
theorem Spot.box_lies (n : Nat) (cs : List Value) (b : Nat) (w : World) : (Spot.box n cs).lies b w = BoxAt n cs b w := rfl
/-- a block that was there: its cells read as they did, none is frozen or let go, and it is still there -/
theorem Bel.keep3 {a w : World} (h : Bel a w) {b : Nat} (hb : b < a.heap.size) : (∀ o, w.cell? ⟨b, o, none⟩ = a.cell? ⟨b, o, none⟩) ∧ (∀ o, w.frozen? ⟨b, o, none⟩ = a.frozen? ⟨b, o, none⟩) ∧ b < w.heap.size :=
  ⟨fun o => h.cell (p := ⟨b, o, none⟩) hb, fun o => h.frozen (p := ⟨b, o, none⟩) hb, Nat.lt_of_lt_of_le hb h.size⟩
def spVal (vs : List Value) (sp : List (Option Spot)) (β : Nat → Nat) (i : Nat) : Value :=
  match sp[i]?.getD none with
  | some x => x.val (β i)
  | none => vs[i]?.getD undef
def lastSp (tmps : Array Value) (l : List Oper) (vs : List Value) (sp : List (Option Spot)) (β : Nat → Nat) : Array Value :=
  putL tmps l ((List.range l.length).map (spVal vs sp β))
theorem lastSp_size (tmps : Array Value) (l : List Oper) (vs : List Value) (sp : List (Option Spot)) (β : Nat → Nat) : (lastSp tmps l vs sp β).size = tmps.size := putL_size _ _ _
theorem lastSp_at {l : List Oper} {n i d : Nat} {o : Oper} (hf : FixAt l n i o d) (hi : l[i]? = some o) (tmps : Array Value) (hn : tmps.size = n) (vs : List Value) (sp : List (Option Spot)) (β : Nat → Nat) :
    (lastSp tmps l vs sp β).getD d undef = spVal vs sp β i := by
  have hlt : i < l.length := (List.getElem?_eq_some_iff.1 hi).1
  exact putL_at l _ tmps i d _ (by simp [dstOf, hi, hf.dst]) (by simp [hlt]) (by rw [hn]; exact hf.lt) hf.uniq
structure InvS (l : List Oper) (vs : List Value) (sp : List (Option Spot)) (a : Act) (w : World) (listed : Array Bool) (a' : Act) (w' : World) (β : Nat → Nat) : Prop where
  bel : Bel w w'
  defers : a'.defers = a.defers
  size : a'.tmps.size = a.tmps.size
  base : ∀ t, (∀ j, dstOf l j = some t → listed.getD j false = false) → a'.tmps.getD t undef = a.tmps.getD t undef
  closed : ∀ j oj, l[j]? = some oj → listed.getD j false = true → ∀ e ∈ oj.after, Region.binds .any e = true → listed.getD e.on false = true
  done : ∀ i d, dstOf l i = some d → listed.getD i false = true → a'.tmps.getD d undef = spVal vs sp β i
  rows : ∀ i x, listed.getD i false = true → sp[i]? = some (some x) → x.lies (β i) w'
def StepSp (P : Program) (l : List Oper) (vs : List Value) (sp : List (Option Spot)) (a : Act) (w : World) (i : Nat) (o : Oper) : Prop :=
  ∀ (β : Nat → Nat) (w' : World), Bel w w' → (∀ e ∈ o.after, Region.binds .any e = true → ∀ x, sp[e.on]? = some (some x) → x.lies (β e.on) w') →
    QB P o (seen l o a.tmps (lastSp a.tmps l vs sp β)) w' fun v w'' =>
      match sp[i]?.getD none with
      | some x => ∃ b, v = x.val b ∧ x.lies b w''
      | none => v = vs[i]?.getD undef

theorem wp_region_spot (k : Nat) {P : Program} {id : Nat} {l : List Oper} {Q : Exit → Act → World → Prop} {a : Act} {w : World} (vs : List Value) (sp : List (Option Spot))
    (hm : P.follows .mixedOrders = true) (hT : tailB l k = true) (hkl : k ≤ l.length) (hB : fixB (l.take k) a.tmps.size = true) (hstep : Steps (StepSp P (l.take k) vs sp a w) 0 (l.take k))
    (hend : ∀ (β : Nat → Nat) (w' : World), Bel w w' → (∀ i x, i < k → sp[i]? = some (some x) → x.lies (β i) w') → wpList P l.toArray Q (l.drop k) ⟨lastSp a.tmps (l.take k) vs sp β, a.defers⟩ w') :
    (Code.region id l.toArray true).wp P Q a w := by
  have hpl : (l.take k).length = k := by simp; omega
  have hpa : ∀ i, i < k → (l.take k)[i]? = l[i]? := fun i hi => by rw [List.getElem?_take, if_pos hi]
  generalize hp : l.take k = p at hB hstep hend hpl hpa
  have key : ∀ (fuel : Nat) (listed : Array Bool) (a' : Act) (w' : World) (β : Nat → Nat), listed.size = l.length → (∀ i, k ≤ i → listed.getD i false = false) → cf (listed.toList.take k) = fuel → InvS p vs sp a w listed a' w' β →
      wpAny P .any l.toArray Q (fuel + (l.length - k)) listed a' w' := by
    -- at the end every operation of the first ones has come up
    have fin : ∀ (listed : Array Bool) (a' : Act) (w' : World) (β : Nat → Nat), listed.size = l.length → (∀ i, k ≤ i → listed.getD i false = false) → InvS p vs sp a w listed a' w' β → (∀ i, i < p.length → listed.getD i false = true) → wpAny P .any l.toArray Q (l.length - k) listed a' w' := by
      intro listed a' w' β hsz hlate hI hall
      have e1 : a'.tmps = lastSp a.tmps p vs sp β := by
        apply Array.ext
        · rw [hI.size, lastSp_size]
        · intro t h1 h2
          have e : a'.tmps.getD t undef = (lastSp a.tmps p vs sp β).getD t undef := by
            by_cases ht : ∀ j, j < p.length → dstOf p j ≠ some t
            · rw [hI.base t (fun j hj => by
                exfalso
                cases hoj : p[j]? with
                | none => simp [dstOf, hoj] at hj
                | some oj => exact ht j (List.getElem?_eq_some_iff.1 hoj).1 hj)]
              exact (putL_other p _ a.tmps t ht).symm
            · obtain ⟨j, hj0⟩ := Classical.not_forall.1 ht
              obtain ⟨hj, hjt0⟩ := Classical.not_imp.1 hj0
              have hjt := Classical.not_not.1 hjt0
              obtain ⟨o, ho⟩ : ∃ o, p[j]? = some o := ⟨p[j], List.getElem?_eq_getElem hj⟩
              obtain ⟨d, hf⟩ := fixB_at hB ho
              have hd : d = t := by
                have : dstOf p j = some d := by simp [dstOf, ho, hf.dst]
                rw [hjt] at this
                exact (Option.some.inj this).symm
              subst hd
              rw [hI.done j d hjt (hall j hj), lastSp_at hf ho a.tmps rfl]
          simpa [Array.getD, h1, h2] using e
      have e2 : a' = ⟨lastSp a.tmps p vs sp β, a.defers⟩ := by
        cases a' with
        | mk t d =>
          have h1 : t = _ := e1
          have h2 : d = a.defers := hI.defers
          rw [h1, h2]
      rw [e2]
      exact wpAny_tail hT _ k listed _ w' (Nat.le_refl _) (by omega) hsz (fun i hi => by
        by_cases hik : i < k
        · rw [hall i (by omega)]; simp [hik]
        · rw [hlate i (by omega)]; simp [hik]) (hend β w' hI.bel (fun i x hik hx => hI.rows i x (hall i (by omega)) hx))
    -- as long as one has not come up, one may
    have some_ready : ∀ (listed : Array Bool), listed.size = l.length → Region.ready .any l.toArray listed = [] → ∀ i, i < p.length → listed.getD i false = true := by
      intro listed hsz hr i
      induction i using Nat.strongRecOn with
      | ind i ih =>
        intro hi
        cases hc : listed.getD i false with
        | true => rfl
        | false =>
          exfalso
          obtain ⟨o, ho⟩ : ∃ o, p[i]? = some o := ⟨p[i], List.getElem?_eq_getElem hi⟩
          obtain ⟨d, hf⟩ := fixB_at hB ho
          have hol : l[i]? = some o := by rw [← hpa i (by omega)]; exact ho
          have : i ∈ Region.ready .any l.toArray listed := mem_ready.2 ⟨by
            have hlt : i < listed.size := by omega
            simp [Array.getD, hlt] at hc ⊢
            exact hc, o, by simpa using hol, fun e he hb => ih e.on (hf.back e he hb) (by have := hf.back e he hb; omega)⟩
          rw [hr] at this
          cases this
    intro fuel
    induction fuel with
    | zero =>
      intro listed a' w' β hsz hlate hc hI
      have hall : ∀ i, i < p.length → listed.getD i false = true := fun i hi => by
        have h1 := cf_zero (listed.toList.take k) i hc (by simp; omega)
        have hlt : i < listed.size := by omega
        rw [List.getElem?_take, if_pos (by omega)] at h1
        simp [Array.getD, hlt] at h1 ⊢
        exact h1
      rw [Nat.zero_add]
      exact fin listed a' w' β hsz hlate hI hall
    | succ fuel ih =>
      intro listed a' w' β hsz hlate hc hI
      have hun : ∃ j, j < k ∧ listed.getD j false = false := by
        apply Classical.byContradiction
        intro hno
        have h1 : ∀ (x : List Bool), (∀ i, i < x.length → x[i]? = some true) → cf x = 0 := by
          intro x
          induction x with
          | nil => intro _; rfl
          | cons b x ihx =>
            intro hx
            have hb := hx 0 (by simp)
            simp at hb
            subst hb
            have := ihx (fun i hi => by simpa using hx (i + 1) (by simpa using hi))
            simp [cf, this]
        have h2 := h1 (listed.toList.take k) (fun i hi => by
          simp at hi
          rw [List.getElem?_take, if_pos (by omega)]
          have hlt : i < listed.size := by omega
          have h3 : listed.getD i false = true := by
            cases hg : listed.getD i false with
            | true => rfl
            | false => exact absurd ⟨i, by omega, hg⟩ hno
          simp [Array.getD, hlt] at h3 ⊢
          exact h3)
        omega
      have efuel : fuel + 1 + (l.length - k) = fuel + (l.length - k) + 1 := by omega
      rw [efuel]
      refine ⟨fun hr => ?_, fun i hi => ?_⟩
      · exfalso
        obtain ⟨j, hj, hj0⟩ := hun
        rw [some_ready listed hsz hr j (by omega)] at hj0
        cases hj0
      obtain ⟨h0, o, ho, hdeps⟩ := mem_ready.1 hi
      have hol : l[i]? = some o := by simpa using ho
      have hik : i < k := by
        apply Classical.byContradiction
        intro hge
        obtain ⟨j, hj, hj0⟩ := hun
        obtain ⟨e, he, hb, hon⟩ := (tailB_at hT hol (by omega)).2 j (by omega)
        have := hdeps e he hb
        rw [hon, hj0] at this
        cases this
      have ho' : p[i]? = some o := by rw [hpa i hik]; exact hol
      have hlt : i < p.length := (List.getElem?_eq_some_iff.1 ho').1
      obtain ⟨d, hf⟩ := fixB_at hB ho'
      have hdi : dstOf p i = some d := by simp [dstOf, ho', hf.dst]
      have hlt2 : i < listed.size := by omega
      have hfalse : (listed.toList.take k)[i]? = some false := by
        simp [Array.getD, hlt2] at h0
        rw [List.getElem?_take, if_pos hik]
        simp [hlt2, h0]
      have hlate' : ∀ j, k ≤ j → (listed.setIfInBounds i true).getD j false = false := fun j hj => by
        rw [getD_set_ne false (by omega)]
        exact hlate j hj
      have hsz' : (listed.setIfInBounds i true).size = l.length := by simpa using hsz
      have hcf : cf ((listed.setIfInBounds i true).toList.take k) = fuel := by
        have := cf_set (listed.toList.take k) i hfalse
        rw [Array.toList_setIfInBounds, List.take_set]
        omega
      -- the operation reads the last frame
      have hread : execOp a'.eval o = execOp (seen p o a.tmps (lastSp a.tmps p vs sp β)) o := execOp_congr o hf.sel fun x hx => by
        cases x with
        | tmp t =>
          show a'.tmps.getD t undef = if dep p o t then (lastSp a.tmps p vs sp β).getD t undef else a.tmps.getD t undef
          cases hd : dep p o t with
          | true =>
            simp only [if_true]
            have hd' := hd
            unfold dep at hd'
            rw [Array.any_eq_true'] at hd'
            obtain ⟨e, he, h3⟩ := hd'
            simp only [Bool.and_eq_true, beq_iff_eq] at h3
            obtain ⟨hb, hjt⟩ := h3
            obtain ⟨oj, hoj⟩ : ∃ oj, p[e.on]? = some oj := by
              cases hoj : p[e.on]? with
              | none => simp [dstOf, hoj] at hjt
              | some oj => exact ⟨oj, rfl⟩
            obtain ⟨dj, hfj⟩ := fixB_at hB hoj
            have hdj : dj = t := by
              have : dstOf p e.on = some dj := by simp [dstOf, hoj, hfj.dst]
              rw [hjt] at this
              exact (Option.some.inj this).symm
            subst hdj
            rw [hI.done _ _ hjt (hdeps e he hb), lastSp_at hfj hoj a.tmps rfl]
          | false =>
            simp only [Bool.false_eq_true, if_false]
            refine hI.base t fun j hj => ?_
            have hjlt : j < p.length := by
              cases hoj : p[j]? with
              | none => simp [dstOf, hoj] at hj
              | some oj => exact (List.getElem?_eq_some_iff.1 hoj).1
            rcases hf.deps t (by simpa using hx) j hjlt hj with ⟨e, he, hb, rfl⟩ | ⟨oj, hoj, e, he, hb, hei⟩
            · exfalso
              have : dep p o t = true := by
                unfold dep
                rw [Array.any_eq_true']
                exact ⟨e, he, by simp [hb, hj]⟩
              rw [hd] at this
              cases this
            · cases hc : listed.getD j false with
              | false => rfl
              | true =>
                exfalso
                have h1 := hI.closed j oj hoj hc e he hb
                rw [hei] at h1
                simp [Array.getD, hlt2] at h0 h1
                rw [h0] at h1
                cases h1
        | _ => rfl
      have hq := (Steps.get hstep ho') β w' hI.bel (fun e he hb ns hns => hI.rows e.on ns (hdeps e he hb) hns)
      rw [Nat.zero_add] at hq
      -- what follows, from the value
      have next : ∀ (v : Value) (w'' : World), Bel w' w'' → (match sp[i]?.getD none with
          | some ns => ∃ b, v = ns.val b ∧ ns.lies b w''
          | none => v = vs[i]?.getD undef) → wpAny P .any l.toArray Q (fuel + (l.length - k)) (listed.setIfInBounds i true) (a'.put o.dst v) w'' := by
        intro v w'' hb hv
        have mk : ∀ (β' : Nat → Nat), (∀ j, j ≠ i → β' j = β j) → v = spVal vs sp β' i → (∀ ns, sp[i]? = some (some ns) → ns.lies (β' i) w'') → wpAny P .any l.toArray Q (fuel + (l.length - k)) (listed.setIfInBounds i true) (a'.put o.dst v) w'' := by
          intro β' hβ hval hrow
          have val_other : ∀ j, j ≠ i → spVal vs sp β' j = spVal vs sp β j := fun j hj => by unfold spVal; rw [hβ j hj]
          refine ih _ _ _ β' hsz' hlate' hcf ⟨hI.bel.trans hb, by rw [hf.dst]; exact hI.defers, by rw [hf.dst]; simp [Act.put, hI.size], fun t ht => ?_, fun j oj hj hl e he hb2 => ?_, fun j dj hj hl => ?_, fun j ns hl hs => ?_⟩
          · have hne : d ≠ t := fun e => by
              have := ht i (by rw [hdi, e])
              simp [Array.getD, hlt2] at this
            have ht' : ∀ j, dstOf p j = some t → listed.getD j false = false := fun j hj => by
              have h1 := ht j hj
              by_cases hji : i = j
              · subst hji
                simp [Array.getD, hlt2] at h1
              · rwa [getD_set_ne false hji] at h1
            rw [hf.dst, ← hI.base t ht']
            simp [Act.put, Array.getElem?_setIfInBounds_ne hne]
          · by_cases hji : j = i
            · subst hji
              rw [ho'] at hj
              obtain rfl := Option.some.inj hj
              exact getD_set_true (hdeps e he hb2)
            · have hl' : listed.getD j false = true := by rw [getD_set_ne false (Ne.symm hji)] at hl; exact hl
              exact getD_set_true (hI.closed j oj hj hl' e he hb2)
          · by_cases hji : j = i
            · subst hji
              rw [hdi] at hj
              obtain rfl := Option.some.inj hj
              rw [hf.dst, ← hval]
              have : d < a'.tmps.size := by rw [hI.size]; exact hf.lt
              simp [Act.put, this]
            · have hjlt : j < p.length := by
                cases hoj : p[j]? with
                | none => simp [dstOf, hoj] at hj
                | some oj => exact (List.getElem?_eq_some_iff.1 hoj).1
              have hne : d ≠ dj := fun e => hf.uniq j hjlt hji (by rw [hj, e])
              have hl' : listed.getD j false = true := by rw [getD_set_ne false (Ne.symm hji)] at hl; exact hl
              rw [hf.dst, val_other j hji, ← hI.done j dj hj hl']
              simp [Act.put, Array.getElem?_setIfInBounds_ne hne]
          · by_cases hji : j = i
            · subst hji
              exact hrow ns hs
            · have hl' : listed.getD j false = true := by rw [getD_set_ne false (Ne.symm hji)] at hl; exact hl
              rw [hβ j hji]
              exact ns.keep (hI.rows j ns hl' hs) hb
        cases hs : sp[i]?.getD none with
        | none =>
          rw [hs] at hv
          exact mk β (fun _ _ => rfl) (by unfold spVal; rw [hs]; exact hv) (fun ns hns => by rw [hns] at hs; cases hs)
        | some ns =>
          rw [hs] at hv
          obtain ⟨b, hv, hrow⟩ := hv
          refine mk (fun j => if j = i then b else β j) (fun j hj => if_neg hj) (by unfold spVal; rw [hs]; simpa using hv) (fun ns' hns => ?_)
          rw [hns] at hs
          simp at hs
          subst hs
          simpa using hrow
      unfold wpOp
      rw [ho]
      have hw : Region.wanted o (yielded l.toArray a'.tmps) = true := by simp [Region.wanted, hf.guard]
      simp only [hw, if_true]
      left
      unfold Oper.wp
      rw [hread]
      unfold QB at hq
      generalize (execOp (seen p o a.tmps (lastSp a.tmps p vs sp β)) o).run P w' = r at hq
      cases r with
      | halt x w2 => exact hq.elim
      | ok nx w2 =>
        cases nx <;> simp only [Oper.upon] at hq ⊢
        case value u => exact next u w2 hq.1 hq.2
        case enter f args =>
          obtain ⟨rfl, hcall⟩ := hq
          exact hcall.mono fun e w'' ⟨v, he, hb, hv⟩ => by
            subst he
            exact next v w'' hb hv
        all_goals exact hq.elim
  refine wp_region_any hm ?_
  have hsz : (Array.replicate l.length false).size = l.length := by simp
  have := key k (Array.replicate l.length false) a { w with drawn := w.drawn + 1 } (fun _ => 0) hsz (fun i _ => by simp [Array.getD]) (by rw [Array.toList_replicate, List.take_replicate, Nat.min_eq_left hkl, cf_replicate])
    ⟨(Bel.refl w).drew, rfl, rfl, fun _ _ => rfl, fun j oj _ h => by simp [Array.getD] at h, fun i d _ h => by simp [Array.getD] at h, fun i ns h => by simp [Array.getD] at h⟩
  rw [show k + (l.length - k) = l.length by omega] at this
  simpa using this
end Go.Proofs.YtoikpdijkdmimaaDoor
