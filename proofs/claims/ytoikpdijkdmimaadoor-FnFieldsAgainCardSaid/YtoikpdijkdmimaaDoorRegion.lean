/-
  A region that draws its order, whose operations read, reckon, call functions that turn nothing that was there, or lay a few bytes into a new block: EVERY ORDER COMES TO ONE FRAME. Each operation is looked at once, in that last frame.
-/
import Derived.Test.YtoikpdijkdmimaaDoorBase
namespace Go.Proofs.YtoikpdijkdmimaaDoor
open Go.RowKit
set_option linter.unusedVariables false

/-- the bytes that lie at the head of a block -/
def RowAt (b : Nat) (ns : List Int) (w : World) : Prop := ∀ j (hj : j < ns.length), w.cell? ⟨b, j, none⟩ = some (.int .u8 ns[j])
theorem rowAt1 (w : World) (n0 : Int) : RowAt w.heap.size [n0] (w.alloc (.cells #[.int .u8 n0] 5)) := fun j hj => by
  match j, hj with
  | 0, _ => exact World.cell?_alloc_mark w _ 5 (0, 0) 0
theorem rowAt2 (w : World) (n0 n1 : Int) : RowAt w.heap.size [n0, n1] (w.alloc (.cells #[.int .u8 n0, .int .u8 n1] 5)) := fun j hj => by
  match j, hj with
  | 0, _ => exact World.cell?_alloc_mark w _ 5 (0, 0) 0
  | 1, _ => exact World.cell?_alloc_mark w _ 5 (0, 0) 1
theorem RowAt.c1 {b : Nat} {n0 : Int} {w : World} (h : RowAt b [n0] w) : w.cell? ⟨b, 0, none⟩ = some (.int .u8 n0) := h 0 (by decide : 0 < 1)
theorem RowAt.c20 {b : Nat} {n0 n1 : Int} {w : World} (h : RowAt b [n0, n1] w) : w.cell? ⟨b, 0, none⟩ = some (.int .u8 n0) := h 0 (by decide : 0 < 2)
theorem RowAt.c21 {b : Nat} {n0 n1 : Int} {w : World} (h : RowAt b [n0, n1] w) : w.cell? ⟨b, 1, none⟩ = some (.int .u8 n1) := h 1 (by decide : 1 < 2)
theorem RowAt.bel {b : Nat} {ns : List Int} {w w' : World} (h : RowAt b ns w) (hb : Bel w w') : RowAt b ns w' := fun j hj => hb.at (h j hj)

/-- an operation's value: fixed, or a row of bytes in a block of its own -/
def theVal (vs : List Value) (sp : List (Option (List Int))) (β : Nat → Nat) (i : Nat) : Value :=
  match sp[i]?.getD none with
  | some ns => .slice (some ⟨β i, 0, none⟩) ns.length ns.length
  | none => vs[i]?.getD undef

/-- what the operation yields in the world w, in a frame that reads as ρ -/
def QB (P : Program) (o : Oper) (ρ : Operand → Value) (w : World) (V : Value → World → Prop) : Prop :=
  match (execOp ρ o).run P w with
  | .ok (.value u) w' => Bel w w' ∧ V u w'
  | .ok (.enter f args) w' => w' = w ∧ Calls P f args w (fun e w'' => ∃ v, e = .returned v ∧ Bel w w'' ∧ V v w'')
  | _ => False

def putL (tmps : Array Value) : List Oper → List Value → Array Value
  | o :: l, v :: vs => putL (match o.dst with | some d => tmps.setIfInBounds d v | none => tmps) l vs
  | _, _ => tmps

/-- the last frame -/
def lastTmps (tmps : Array Value) (l : List Oper) (vs : List Value) (sp : List (Option (List Int))) (β : Nat → Nat) : Array Value :=
  putL tmps l ((List.range l.length).map (theVal vs sp β))

def Steps (f : Nat → Oper → Prop) : Nat → List Oper → Prop
  | _, [] => True
  | k, o :: l => f k o ∧ Steps f (k + 1) l
theorem Steps.get {f : Nat → Oper → Prop} : ∀ {l : List Oper} {k i : Nat} {o : Oper}, Steps f k l → l[i]? = some o → f (k + i) o
  | [], _, _, _, _, h => by simp at h
  | x :: l, k, 0, o, hs, h => by
    simp at h
    subst h
    exact hs.1
  | x :: l, k, i + 1, o, hs, h => by
    have := Steps.get (k := k + 1) hs.2 (i := i) (o := o) (by simpa using h)
    have e : k + (i + 1) = k + 1 + i := by omega
    rw [e]
    exact this

/-- what is asked of the region's text -/
def dstOf (l : List Oper) (j : Nat) : Option Nat := (l[j]?).bind (·.dst)
/-- does the operation wait for the one that writes this slot? -/
def dep (l : List Oper) (o : Oper) (t : Nat) : Bool := o.after.any fun e => Region.binds .any e && (dstOf l e.on == some t)
/-- what the operation reads: the value of each operation that it waits for; else what was there when the region began -/
def seen (l : List Oper) (o : Oper) (base last : Array Value) : Operand → Value
  | .tmp t => if dep l o t then last.getD t undef else base.getD t undef
  | .const v => v
  | .global g => .pointer (some ⟨g, 0, none⟩)
  | .func f => .func (.func f) #[] #[]
def fixB (l : List Oper) (n : Nat) : Bool :=
  (List.range l.length).all fun i =>
    match l[i]? with
    | none => false
    | some o =>
      o.guard.isNone && (match o.op with | .select _ _ => false | _ => true) &&
      (match o.dst with | some d => decide (d < n) && (List.range l.length).all (fun j => j == i || dstOf l j != some d) | none => false) &&
      o.after.all (fun e => !Region.binds .any e || decide (e.on < i)) &&
      o.op.operands.toList.all (fun x => match x with
        | .tmp t => (List.range l.length).all fun j => dstOf l j != some t || o.after.any (fun e => Region.binds .any e && e.on == j) ||
          (match l[j]? with | some oj => oj.after.any (fun e => Region.binds .any e && e.on == i) | none => false)
        | _ => true)

structure FixAt (l : List Oper) (n i : Nat) (o : Oper) (d : Nat) : Prop where
  guard : o.guard = none
  sel : ∀ cs b, o.op ≠ .select cs b
  dst : o.dst = some d
  lt : d < n
  uniq : ∀ j, j < l.length → j ≠ i → dstOf l j ≠ some d
  back : ∀ e ∈ o.after, Region.binds .any e = true → e.on < i
  deps : ∀ t, Operand.tmp t ∈ o.op.operands → ∀ j, j < l.length → dstOf l j = some t → (∃ e ∈ o.after, Region.binds .any e = true ∧ e.on = j) ∨ (∃ oj, l[j]? = some oj ∧ ∃ e ∈ oj.after, Region.binds .any e = true ∧ e.on = i)

theorem fixB_at {l : List Oper} {n : Nat} (h : fixB l n = true) {i : Nat} {o : Oper} (hi : l[i]? = some o) : ∃ d, FixAt l n i o d := by
  have hlt : i < l.length := (List.getElem?_eq_some_iff.1 hi).1
  unfold fixB at h
  rw [List.all_eq_true] at h
  have h1 := h i (List.mem_range.2 hlt)
  rw [hi] at h1
  simp only [Bool.and_eq_true] at h1
  obtain ⟨⟨⟨⟨hg, hs⟩, hd⟩, ha⟩, hr⟩ := h1
  cases ho : o.dst with
  | none => rw [ho] at hd; cases hd
  | some d =>
    rw [ho] at hd
    simp only [Bool.and_eq_true, decide_eq_true_eq] at hd
    obtain ⟨hd1, hd2⟩ := hd
    rw [List.all_eq_true] at hd2
    rw [Array.all_eq_true_iff_forall_mem] at ha
    rw [List.all_eq_true] at hr
    refine ⟨d, by simpa using hg, (fun cs b e => by rw [e] at hs; cases hs), ho, hd1, fun j hj hji => ?_, fun e he hb => ?_, fun t ht j hj hjt => ?_⟩
    · have := hd2 j (List.mem_range.2 hj)
      simp only [Bool.or_eq_true, beq_iff_eq, bne_iff_ne, ne_eq] at this
      exact this.resolve_left hji
    · have := ha e he
      simp only [Bool.or_eq_true, Bool.not_eq_true', decide_eq_true_eq] at this
      exact this.resolve_left (by simp [hb])
    · have := hr (.tmp t) (by simpa using ht)
      simp only [List.all_eq_true] at this
      have h2 := this j (List.mem_range.2 hj)
      rw [Bool.or_eq_true, Bool.or_eq_true] at h2
      rcases h2 with (h2 | h2) | h2
      · simp [hjt] at h2
      · rw [Array.any_eq_true'] at h2
        obtain ⟨e, he, h3⟩ := h2
        simp only [Bool.and_eq_true, beq_iff_eq] at h3
        exact .inl ⟨e, he, h3.1, h3.2⟩
      · cases hoj : l[j]? with
        | none => rw [hoj] at h2; cases h2
        | some oj =>
          rw [hoj] at h2
          simp only [] at h2
          rw [Array.any_eq_true'] at h2
          obtain ⟨e, he, h3⟩ := h2
          simp only [Bool.and_eq_true, beq_iff_eq] at h3
          exact .inr ⟨oj, rfl, e, he, h3.1, h3.2⟩

/-! ### the last frame, slot by slot -/
theorem putL_size : ∀ (l : List Oper) (vs : List Value) (tmps : Array Value), (putL tmps l vs).size = tmps.size
  | [], _, _ => by simp [putL]
  | o :: l, [], _ => by simp [putL]
  | o :: l, v :: vs, tmps => by
    rw [putL, putL_size l vs]
    split <;> simp
theorem putL_other : ∀ (l : List Oper) (vs : List Value) (tmps : Array Value) (t : Nat), (∀ j, j < l.length → dstOf l j ≠ some t) → (putL tmps l vs).getD t undef = tmps.getD t undef
  | [], _, _, _, _ => by simp [putL]
  | o :: l, [], _, _, _ => by simp [putL]
  | o :: l, v :: vs, tmps, t, h => by
    rw [putL, putL_other l vs _ t (fun j hj => by have := h (j + 1) (by simp; omega); simpa [dstOf] using this)]
    have h0 := h 0 (by simp)
    cases ho : o.dst with
    | none => rfl
    | some d =>
      have hne : d ≠ t := fun e => h0 (by simp [dstOf, ho, e])
      simp [Array.getElem?_setIfInBounds_ne hne]
theorem putL_at : ∀ (l : List Oper) (vs : List Value) (tmps : Array Value) (i d : Nat) (v : Value), dstOf l i = some d → vs[i]? = some v → d < tmps.size → (∀ j, j < l.length → j ≠ i → dstOf l j ≠ some d) →
    (putL tmps l vs).getD d undef = v
  | [], _, _, i, d, _, h, _, _, _ => by simp [dstOf] at h
  | o :: l, [], _, _, _, _, _, h, _, _ => by simp at h
  | o :: l, x :: vs, tmps, 0, d, v, h, hv, hd, hu => by
    simp [dstOf] at h
    simp at hv
    subst hv
    rw [putL, putL_other l vs _ d (fun j hj => by have := hu (j + 1) (by simp; omega) (by omega); simpa [dstOf] using this), h]
    simp [hd]
  | o :: l, x :: vs, tmps, i + 1, d, v, h, hv, hd, hu => by
    rw [putL]
    exact putL_at l vs _ i d v (by simpa [dstOf] using h) (by simpa using hv) (by split <;> simpa using hd) (fun j hj hji => by have := hu (j + 1) (by simp; omega) (by omega); simpa [dstOf] using this)

theorem lastTmps_size (tmps : Array Value) (l : List Oper) (vs : List Value) (sp : List (Option (List Int))) (β : Nat → Nat) : (lastTmps tmps l vs sp β).size = tmps.size := putL_size _ _ _

theorem last_at {l : List Oper} {n i d : Nat} {o : Oper} (hf : FixAt l n i o d) (hi : l[i]? = some o) (tmps : Array Value) (hn : tmps.size = n) (vs : List Value) (sp : List (Option (List Int))) (β : Nat → Nat) :
    (lastTmps tmps l vs sp β).getD d undef = theVal vs sp β i := by
  have hlt : i < l.length := (List.getElem?_eq_some_iff.1 hi).1
  exact putL_at l _ tmps i d _ (by simp [dstOf, hi, hf.dst]) (by simp [hlt]) (by rw [hn]; exact hf.lt) hf.uniq

/-! ### how many have not come up -/
def cf : List Bool → Nat
  | [] => 0
  | b :: l => (if b then 0 else 1) + cf l
theorem cf_set : ∀ (l : List Bool) (i : Nat), l[i]? = some false → cf (l.set i true) + 1 = cf l
  | [], _, h => by simp at h
  | b :: l, 0, h => by
    simp at h
    subst h
    simp [cf]
    omega
  | b :: l, i + 1, h => by
    have := cf_set l i (by simpa using h)
    simp only [List.set_cons_succ, cf]
    omega
theorem cf_zero : ∀ (l : List Bool) (i : Nat), cf l = 0 → i < l.length → l[i]? = some true
  | [], _, _, h => by simp at h
  | b :: l, 0, h, _ => by
    cases b
    · simp [cf] at h
    · rfl
  | b :: l, i + 1, h, hi => by
    have h2 : cf l = 0 := by
      simp only [cf] at h
      omega
    simpa using cf_zero l i h2 (by simpa using hi)
theorem cf_replicate (n : Nat) : cf (List.replicate n false) = n := by
  induction n with
  | zero => rfl
  | succ n ih => rw [List.replicate_succ, cf, ih]; simp; omega

/-! ### the theorem -/
structure Inv (l : List Oper) (vs : List Value) (sp : List (Option (List Int))) (a : Act) (w : World) (listed : Array Bool) (a' : Act) (w' : World) (β : Nat → Nat) : Prop where
  bel : Bel w w'
  defers : a'.defers = a.defers
  size : a'.tmps.size = a.tmps.size
  base : ∀ t, (∀ j, dstOf l j = some t → listed.getD j false = false) → a'.tmps.getD t undef = a.tmps.getD t undef
  closed : ∀ j oj, l[j]? = some oj → listed.getD j false = true → ∀ e ∈ oj.after, Region.binds .any e = true → listed.getD e.on false = true
  done : ∀ i d, dstOf l i = some d → listed.getD i false = true → a'.tmps.getD d undef = theVal vs sp β i
  rows : ∀ i ns, listed.getD i false = true → sp[i]? = some (some ns) → RowAt (β i) ns w'

def StepOk (P : Program) (l : List Oper) (vs : List Value) (sp : List (Option (List Int))) (a : Act) (w : World) (i : Nat) (o : Oper) : Prop :=
  ∀ (β : Nat → Nat) (w' : World), Bel w w' → (∀ e ∈ o.after, Region.binds .any e = true → ∀ ns, sp[e.on]? = some (some ns) → RowAt (β e.on) ns w') →
    QB P o (seen l o a.tmps (lastTmps a.tmps l vs sp β)) w' fun v w'' =>
      match sp[i]?.getD none with
      | some ns => ∃ b, v = .slice (some ⟨b, 0, none⟩) ns.length ns.length ∧ RowAt b ns w''
      | none => v = vs[i]?.getD undef

theorem wp_region_fix {P : Program} {id : Nat} {l : List Oper} {Q : Exit → Act → World → Prop} {a : Act} {w : World} (vs : List Value) (sp : List (Option (List Int)))
    (hm : P.follows .mixedOrders = true) (hB : fixB l a.tmps.size = true) (hstep : Steps (StepOk P l vs sp a w) 0 l)
    (hend : ∀ (β : Nat → Nat) (w' : World), Bel w w' → Q .normal ⟨lastTmps a.tmps l vs sp β, a.defers⟩ w') :
    (Code.region id l.toArray true).wp P Q a w := by
  have key : ∀ (fuel : Nat) (listed : Array Bool) (a' : Act) (w' : World) (β : Nat → Nat), listed.size = l.length → cf listed.toList = fuel → Inv l vs sp a w listed a' w' β →
      wpAny P .any l.toArray Q fuel listed a' w' := by
    -- at the end every operation has come up
    have fin : ∀ (listed : Array Bool) (a' : Act) (w' : World) (β : Nat → Nat), listed.size = l.length → Inv l vs sp a w listed a' w' β → (∀ i, i < l.length → listed.getD i false = true) → Q .normal a' w' := by
      intro listed a' w' β hsz hI hall
      have e1 : a'.tmps = lastTmps a.tmps l vs sp β := by
        apply Array.ext
        · rw [hI.size, lastTmps_size]
        · intro t h1 h2
          have e : a'.tmps.getD t undef = (lastTmps a.tmps l vs sp β).getD t undef := by
            by_cases ht : ∀ j, j < l.length → dstOf l j ≠ some t
            · rw [hI.base t (fun j hj => by
                exfalso
                cases hoj : l[j]? with
                | none => simp [dstOf, hoj] at hj
                | some oj => exact ht j (List.getElem?_eq_some_iff.1 hoj).1 hj)]
              exact (putL_other l _ a.tmps t ht).symm
            · obtain ⟨j, hj0⟩ := Classical.not_forall.1 ht
              obtain ⟨hj, hjt0⟩ := Classical.not_imp.1 hj0
              have hjt := Classical.not_not.1 hjt0
              obtain ⟨o, ho⟩ : ∃ o, l[j]? = some o := ⟨l[j], List.getElem?_eq_getElem hj⟩
              obtain ⟨d, hf⟩ := fixB_at hB ho
              have hd : d = t := by
                have : dstOf l j = some d := by simp [dstOf, ho, hf.dst]
                rw [hjt] at this
                exact (Option.some.inj this).symm
              subst hd
              rw [hI.done j d hjt (hall j hj), last_at hf ho a.tmps rfl]
          simpa [Array.getD, h1, h2] using e
      have e2 : a' = ⟨lastTmps a.tmps l vs sp β, a.defers⟩ := by
        cases a' with
        | mk t d =>
          have h1 : t = _ := e1
          have h2 : d = a.defers := hI.defers
          rw [h1, h2]
      rw [e2]
      exact hend β w' hI.bel
    -- as long as one has not come up, one may
    have some_ready : ∀ (listed : Array Bool), listed.size = l.length → Region.ready .any l.toArray listed = [] → ∀ i, i < l.length → listed.getD i false = true := by
      intro listed hsz hr i
      induction i using Nat.strongRecOn with
      | ind i ih =>
        intro hi
        cases hc : listed.getD i false with
        | true => rfl
        | false =>
          exfalso
          obtain ⟨o, ho⟩ : ∃ o, l[i]? = some o := ⟨l[i], List.getElem?_eq_getElem hi⟩
          obtain ⟨d, hf⟩ := fixB_at hB ho
          have : i ∈ Region.ready .any l.toArray listed := mem_ready.2 ⟨by
            have hlt : i < listed.size := by omega
            simp [Array.getD, hlt] at hc ⊢
            exact hc, o, by simpa using ho, fun e he hb => ih e.on (hf.back e he hb) (by have := hf.back e he hb; omega)⟩
          rw [hr] at this
          cases this
    intro fuel
    induction fuel with
    | zero =>
      intro listed a' w' β hsz hc hI
      have hall : ∀ i, i < l.length → listed.getD i false = true := fun i hi => by
        have h1 := cf_zero listed.toList i hc (by simp; omega)
        have hlt : i < listed.size := by omega
        simp [Array.getD, hlt] at h1 ⊢
        exact h1
      refine ⟨?_, fin listed a' w' β hsz hI hall⟩
      cases hr : Region.ready .any l.toArray listed with
      | nil => rfl
      | cons i is =>
        exfalso
        have hi : i ∈ Region.ready .any l.toArray listed := by rw [hr]; simp
        obtain ⟨h0, o, ho, _⟩ := mem_ready.1 hi
        have hlt : i < l.length := by
          have := (Array.getElem?_eq_some_iff.1 ho).1
          simpa using this
        have := hall i hlt
        have hlt2 : i < listed.size := by omega
        simp [Array.getD, hlt2] at h0 this
        rw [h0] at this
        cases this
    | succ fuel ih =>
      intro listed a' w' β hsz hc hI
      refine ⟨fun hr => fin listed a' w' β hsz hI (some_ready listed hsz hr), fun i hi => ?_⟩
      obtain ⟨h0, o, ho, hdeps⟩ := mem_ready.1 hi
      have ho' : l[i]? = some o := by simpa using ho
      have hlt : i < l.length := (List.getElem?_eq_some_iff.1 ho').1
      obtain ⟨d, hf⟩ := fixB_at hB ho'
      have hdi : dstOf l i = some d := by simp [dstOf, ho', hf.dst]
      have hlt2 : i < listed.size := by omega
      have hfalse : listed.toList[i]? = some false := by
        simp [Array.getD, hlt2] at h0
        simp [hlt2, h0]
      have hsz' : (listed.setIfInBounds i true).size = l.length := by simpa using hsz
      have hcf : cf (listed.setIfInBounds i true).toList = fuel := by
        have := cf_set listed.toList i hfalse
        rw [Array.toList_setIfInBounds]
        omega
      -- the operation reads the last frame
      have hread : execOp a'.eval o = execOp (seen l o a.tmps (lastTmps a.tmps l vs sp β)) o := execOp_congr o hf.sel fun x hx => by
        cases x with
        | tmp t =>
          show a'.tmps.getD t undef = if dep l o t then (lastTmps a.tmps l vs sp β).getD t undef else a.tmps.getD t undef
          cases hd : dep l o t with
          | true =>
            simp only [if_true]
            have hd' := hd
            unfold dep at hd'
            rw [Array.any_eq_true'] at hd'
            obtain ⟨e, he, h3⟩ := hd'
            simp only [Bool.and_eq_true, beq_iff_eq] at h3
            obtain ⟨hb, hjt⟩ := h3
            obtain ⟨oj, hoj⟩ : ∃ oj, l[e.on]? = some oj := by
              cases hoj : l[e.on]? with
              | none => simp [dstOf, hoj] at hjt
              | some oj => exact ⟨oj, rfl⟩
            obtain ⟨dj, hfj⟩ := fixB_at hB hoj
            have hdj : dj = t := by
              have : dstOf l e.on = some dj := by simp [dstOf, hoj, hfj.dst]
              rw [hjt] at this
              exact (Option.some.inj this).symm
            subst hdj
            rw [hI.done _ _ hjt (hdeps e he hb), last_at hfj hoj a.tmps rfl]
          | false =>
            simp only [Bool.false_eq_true, if_false]
            refine hI.base t fun j hj => ?_
            have hjlt : j < l.length := by
              cases hoj : l[j]? with
              | none => simp [dstOf, hoj] at hj
              | some oj => exact (List.getElem?_eq_some_iff.1 hoj).1
            rcases hf.deps t (by simpa using hx) j hjlt hj with ⟨e, he, hb, rfl⟩ | ⟨oj, hoj, e, he, hb, hei⟩
            · exfalso
              have : dep l o t = true := by
                unfold dep
                rw [Array.any_eq_true']
                exact ⟨e, he, by simp [hb, hj]⟩
              rw [hd] at this
              cases this
            · cases hc : listed.getD j false with
              | false => rfl
              | true =>
                exfalso
                have h1 := hI.closed j oj hoj hc e he hb
                rw [hei] at h1
                simp [Array.getD, hlt2] at h0 h1
                rw [h0] at h1
                cases h1
        | _ => rfl
      have hq := (Steps.get hstep ho') β w' hI.bel (fun e he hb ns hns => hI.rows e.on ns (hdeps e he hb) hns)
      rw [Nat.zero_add] at hq
      -- what follows, from the value
      have next : ∀ (v : Value) (w'' : World), Bel w' w'' → (match sp[i]?.getD none with
          | some ns => ∃ b, v = .slice (some ⟨b, 0, none⟩) ns.length ns.length ∧ RowAt b ns w''
          | none => v = vs[i]?.getD undef) → wpAny P .any l.toArray Q fuel (listed.setIfInBounds i true) (a'.put o.dst v) w'' := by
        intro v w'' hb hv
        have mk : ∀ (β' : Nat → Nat), (∀ j, j ≠ i → β' j = β j) → v = theVal vs sp β' i → (∀ ns, sp[i]? = some (some ns) → RowAt (β' i) ns w'') → wpAny P .any l.toArray Q fuel (listed.setIfInBounds i true) (a'.put o.dst v) w'' := by
          intro β' hβ hval hrow
          have val_other : ∀ j, j ≠ i → theVal vs sp β' j = theVal vs sp β j := fun j hj => by unfold theVal; rw [hβ j hj]
          refine ih _ _ _ β' hsz' hcf ⟨hI.bel.trans hb, by rw [hf.dst]; exact hI.defers, by rw [hf.dst]; simp [Act.put, hI.size], fun t ht => ?_, fun j oj hj hl e he hb2 => ?_, fun j dj hj hl => ?_, fun j ns hl hs => ?_⟩
          · have hne : d ≠ t := fun e => by
              have := ht i (by rw [hdi, e])
              simp [Array.getD, hlt2] at this
            have ht' : ∀ j, dstOf l j = some t → listed.getD j false = false := fun j hj => by
              have h1 := ht j hj
              by_cases hji : i = j
              · subst hji
                simp [Array.getD, hlt2] at h1
              · rwa [getD_set_ne false hji] at h1
            rw [hf.dst, ← hI.base t ht']
            simp [Act.put, Array.getElem?_setIfInBounds_ne hne]
          · by_cases hji : j = i
            · subst hji
              rw [ho'] at hj
              obtain rfl := Option.some.inj hj
              exact getD_set_true (hdeps e he hb2)
            · have hl' : listed.getD j false = true := by rw [getD_set_ne false (Ne.symm hji)] at hl; exact hl
              exact getD_set_true (hI.closed j oj hj hl' e he hb2)
          · by_cases hji : j = i
            · subst hji
              rw [hdi] at hj
              obtain rfl := Option.some.inj hj
              rw [hf.dst, ← hval]
              have : d < a'.tmps.size := by rw [hI.size]; exact hf.lt
              simp [Act.put, this]
            · have hjlt : j < l.length := by
                cases hoj : l[j]? with
                | none => simp [dstOf, hoj] at hj
                | some oj => exact (List.getElem?_eq_some_iff.1 hoj).1
              have hne : d ≠ dj := fun e => hf.uniq j hjlt hji (by rw [hj, e])
              have hl' : listed.getD j false = true := by rw [getD_set_ne false (Ne.symm hji)] at hl; exact hl
              rw [hf.dst, val_other j hji, ← hI.done j dj hj hl']
              simp [Act.put, Array.getElem?_setIfInBounds_ne hne]
          · by_cases hji : j = i
            · subst hji
              exact hrow ns hs
            · have hl' : listed.getD j false = true := by rw [getD_set_ne false (Ne.symm hji)] at hl; exact hl
              rw [hβ j hji]
              exact (hI.rows j ns hl' hs).bel hb
        cases hs : sp[i]?.getD none with
        | none =>
          rw [hs] at hv
          exact mk β (fun _ _ => rfl) (by unfold theVal; rw [hs]; exact hv) (fun ns hns => by rw [hns] at hs; cases hs)
        | some ns =>
          rw [hs] at hv
          obtain ⟨b, hv, hrow⟩ := hv
          refine mk (fun j => if j = i then b else β j) (fun j hj => if_neg hj) (by unfold theVal; rw [hs]; simpa using hv) (fun ns' hns => ?_)
          rw [hns] at hs
          simp at hs
          subst hs
          simpa using hrow
      unfold wpOp
      rw [ho]
      have hw : Region.wanted o (yielded l.toArray a'.tmps) = true := by simp [Region.wanted, hf.guard]
      simp only [hw, if_true]
      left
      unfold Oper.wp
      rw [hread]
      unfold QB at hq
      generalize (execOp (seen l o a.tmps (lastTmps a.tmps l vs sp β)) o).run P w' = r at hq
      cases r with
      | halt x w2 => exact hq.elim
      | ok nx w2 =>
        cases nx <;> simp only [Oper.upon] at hq ⊢
        case value u => exact next u w2 hq.1 hq.2
        case enter f args =>
          obtain ⟨rfl, hcall⟩ := hq
          exact hcall.mono fun e w'' ⟨v, he, hb, hv⟩ => by
            subst he
            exact next v w'' hb hv
        all_goals exact hq.elim
  refine wp_region_any hm ?_
  have hsz : (Array.replicate l.length false).size = l.length := by simp
  have := key l.length (Array.replicate l.length false) a { w with drawn := w.drawn + 1 } (fun _ => 0) hsz (by simp [cf_replicate])
    ⟨(Bel.refl w).drew, rfl, rfl, fun _ _ => rfl, fun j oj _ h => by simp [Array.getD] at h, fun i d _ h => by simp [Array.getD] at h, fun i ns h => by simp [Array.getD] at h⟩
  simpa using this
end Go.Proofs.YtoikpdijkdmimaaDoor
