/-
  A region that draws its order and whose LAST operations each wait for all the ones before: every order of the first ones comes to one frame (as in the text Region); then the last ones come one by one.
-/
import Derived.Test.YtoikpdijkdmimaaDoorRegion
namespace Go.Proofs.YtoikpdijkdmimaaDoor
open Go.RowKit
set_option linter.unusedVariables false

def tailB (l : List Oper) (k : Nat) : Bool :=
  (List.range l.length).all fun i => decide (i < k) || match l[i]? with
    | none => false
    | some o => o.after.all (fun e => !Region.binds .any e || decide (e.on < i)) && (List.range i).all fun j => o.after.any fun e => Region.binds .any e && e.on == j
theorem tailB_at {l : List Oper} {k : Nat} (h : tailB l k = true) {i : Nat} {o : Oper} (hi : l[i]? = some o) (hk : k ≤ i) :
    (∀ e ∈ o.after, Region.binds .any e = true → e.on < i) ∧ ∀ j, j < i → ∃ e ∈ o.after, Region.binds .any e = true ∧ e.on = j := by
  have hlt : i < l.length := (List.getElem?_eq_some_iff.1 hi).1
  unfold tailB at h
  rw [List.all_eq_true] at h
  have h1 := h i (List.mem_range.2 hlt)
  rw [hi] at h1
  simp only [Bool.or_eq_true, decide_eq_true_eq, Bool.and_eq_true] at h1
  obtain ⟨ha, hb⟩ := h1.resolve_left (by omega)
  rw [Array.all_eq_true_iff_forall_mem] at ha
  rw [List.all_eq_true] at hb
  refine ⟨fun e he hbi => ?_, fun j hj => ?_⟩
  · have := ha e he
    simp only [Bool.or_eq_true, Bool.not_eq_true', decide_eq_true_eq] at this
    exact this.resolve_left (by simp [hbi])
  · have := hb j (List.mem_range.2 hj)
    rw [Array.any_eq_true'] at this
    obtain ⟨e, he, h3⟩ := this
    simp only [Bool.and_eq_true, beq_iff_eq] at h3
    exact ⟨e, he, h3.1, h3.2⟩
theorem getD_lit {listed : Array Bool} {i : Nat} (h : i < listed.size) : listed.getD i false = listed[i] := by simp [Array.getD, h]
theorem wpAny_tail {P : Program} {l : List Oper} {Q : Exit → Act → World → Prop} {k : Nat} (hT : tailB l k = true) : ∀ (n m : Nat) (listed : Array Bool) (a : Act) (w : World), k ≤ m → m + n = l.length → listed.size = l.length →
    (∀ i, i < l.length → listed.getD i false = decide (i < m)) → wpList P l.toArray Q (l.drop m) a w → wpAny P .any l.toArray Q n listed a w
  | 0, m, listed, a, w, hk, hn, hsz, hl, h => by
    have hm : m = l.length := by omega
    subst hm
    rw [List.drop_length] at h
    refine ⟨?_, h⟩
    cases hr : Region.ready .any l.toArray listed with
    | nil => rfl
    | cons i is =>
      exfalso
      have hi : i ∈ Region.ready .any l.toArray listed := by rw [hr]; simp
      obtain ⟨h0, o, ho, _⟩ := mem_ready.1 hi
      have hlt : i < l.length := by
        have := (Array.getElem?_eq_some_iff.1 ho).1
        simpa using this
      have h1 := hl i hlt
      have hlt2 : i < listed.size := by omega
      simp [Array.getD, hlt2, hlt] at h0 h1
      rw [h0] at h1
      cases h1
  | n + 1, m, listed, a, w, hk, hn, hsz, hl, h => by
    have hm : m < l.length := by omega
    obtain ⟨o, ho⟩ : ∃ o, l[m]? = some o := ⟨l[m], List.getElem?_eq_getElem hm⟩
    have hd : l.drop m = o :: l.drop (m + 1) := by
      rw [List.drop_eq_getElem_cons hm]
      rw [List.getElem?_eq_getElem hm] at ho
      rw [Option.some.inj ho]
    have hm2 : m < listed.size := by omega
    obtain ⟨hback, hall⟩ := tailB_at hT ho hk
    refine ⟨fun hr => ?_, fun i hi => ?_⟩
    · exfalso
      have : m ∈ Region.ready .any l.toArray listed := mem_ready.2 ⟨by
        have h1 := hl m hm
        simp [Array.getD, hm2] at h1 ⊢
        exact h1, o, by simpa using ho, fun e he hb => by
          have hlt := hback e he hb
          have := hl e.on (by omega)
          rw [this]
          simpa using hlt⟩
      rw [hr] at this
      cases this
    · obtain ⟨h0, oi, hoi, hdeps⟩ := mem_ready.1 hi
      have hoi' : l[i]? = some oi := by simpa using hoi
      have hlt : i < l.length := (List.getElem?_eq_some_iff.1 hoi').1
      have hlt2 : i < listed.size := by omega
      have hge : m ≤ i := by
        have h1 := hl i hlt
        simp [Array.getD, hlt2] at h0 h1
        rw [h0] at h1
        simpa using h1
      have him : i = m := by
        apply Classical.byContradiction
        intro hne
        obtain ⟨e, he, hb, hon⟩ := (tailB_at hT hoi' (by omega)).2 m (by omega)
        have h1 := hdeps e he hb
        rw [hon, hl m hm] at h1
        simp at h1
      subst him
      rw [ho] at hoi'
      obtain rfl := Option.some.inj hoi'
      rw [hd] at h
      have next : ∀ a' w', wpList P l.toArray Q (l.drop (i + 1)) a' w' → wpAny P .any l.toArray Q n (listed.setIfInBounds i true) a' w' := fun a' w' h' =>
        wpAny_tail hT n (i + 1) _ a' w' (by omega) (by omega) (by simpa using hsz) (fun j hj => by
          by_cases hji : i = j
          · subst hji
            simp [Array.getD, hlt2]
          · rw [getD_set_ne false hji, hl j hj]
            rw [Bool.eq_iff_iff]
            simp
            omega) h'
      unfold wpOp
      rw [hoi]
      unfold wpList at h
      simp only []
      split
      · rename_i hw
        rw [if_pos hw] at h
        exact h.imp (Oper.wp_mono next) id
      · rename_i hw
        rw [if_neg hw] at h
        exact next _ _ h

theorem wp_region_tail (k : Nat) {P : Program} {id : Nat} {l : List Oper} {Q : Exit → Act → World → Prop} {a : Act} {w : World} (vs : List Value) (sp : List (Option (List Int)))
    (hm : P.follows .mixedOrders = true) (hT : tailB l k = true) (hkl : k ≤ l.length) (hB : fixB (l.take k) a.tmps.size = true) (hstep : Steps (StepOk P (l.take k) vs sp a w) 0 (l.take k))
    (hend : ∀ (β : Nat → Nat) (w' : World), Bel w w' → wpList P l.toArray Q (l.drop k) ⟨lastTmps a.tmps (l.take k) vs sp β, a.defers⟩ w') :
    (Code.region id l.toArray true).wp P Q a w := by
  have hpl : (l.take k).length = k := by simp; omega
  have hpa : ∀ i, i < k → (l.take k)[i]? = l[i]? := fun i hi => by rw [List.getElem?_take, if_pos hi]
  generalize hp : l.take k = p at hB hstep hend hpl hpa
  have key : ∀ (fuel : Nat) (listed : Array Bool) (a' : Act) (w' : World) (β : Nat → Nat), listed.size = l.length → (∀ i, k ≤ i → listed.getD i false = false) → cf (listed.toList.take k) = fuel → Inv p vs sp a w listed a' w' β →
      wpAny P .any l.toArray Q (fuel + (l.length - k)) listed a' w' := by
    -- at the end every operation of the first ones has come up
    have fin : ∀ (listed : Array Bool) (a' : Act) (w' : World) (β : Nat → Nat), listed.size = l.length → (∀ i, k ≤ i → listed.getD i false = false) → Inv p vs sp a w listed a' w' β → (∀ i, i < p.length → listed.getD i false = true) → wpAny P .any l.toArray Q (l.length - k) listed a' w' := by
      intro listed a' w' β hsz hlate hI hall
      have e1 : a'.tmps = lastTmps a.tmps p vs sp β := by
        apply Array.ext
        · rw [hI.size, lastTmps_size]
        · intro t h1 h2
          have e : a'.tmps.getD t undef = (lastTmps a.tmps p vs sp β).getD t undef := by
            by_cases ht : ∀ j, j < p.length → dstOf p j ≠ some t
            · rw [hI.base t (fun j hj => by
                exfalso
                cases hoj : p[j]? with
                | none => simp [dstOf, hoj] at hj
                | some oj => exact ht j (List.getElem?_eq_some_iff.1 hoj).1 hj)]
              exact (putL_other p _ a.tmps t ht).symm
            · obtain ⟨j, hj0⟩ := Classical.not_forall.1 ht
              obtain ⟨hj, hjt0⟩ := Classical.not_imp.1 hj0
              have hjt := Classical.not_not.1 hjt0
              obtain ⟨o, ho⟩ : ∃ o, p[j]? = some o := ⟨p[j], List.getElem?_eq_getElem hj⟩
              obtain ⟨d, hf⟩ := fixB_at hB ho
              have hd : d = t := by
                have : dstOf p j = some d := by simp [dstOf, ho, hf.dst]
                rw [hjt] at this
                exact (Option.some.inj this).symm
              subst hd
              rw [hI.done j d hjt (hall j hj), last_at hf ho a.tmps rfl]
          simpa [Array.getD, h1, h2] using e
      have e2 : a' = ⟨lastTmps a.tmps p vs sp β, a.defers⟩ := by
        cases a' with
        | mk t d =>
          have h1 : t = _ := e1
          have h2 : d = a.defers := hI.defers
          rw [h1, h2]
      rw [e2]
      exact wpAny_tail hT _ k listed _ w' (Nat.le_refl _) (by omega) hsz (fun i hi => by
        by_cases hik : i < k
        · rw [hall i (by omega)]; simp [hik]
        · rw [hlate i (by omega)]; simp [hik]) (hend β w' hI.bel)
    -- as long as one has not come up, one may
    have some_ready : ∀ (listed : Array Bool), listed.size = l.length → Region.ready .any l.toArray listed = [] → ∀ i, i < p.length → listed.getD i false = true := by
      intro listed hsz hr i
      induction i using Nat.strongRecOn with
      | ind i ih =>
        intro hi
        cases hc : listed.getD i false with
        | true => rfl
        | false =>
          exfalso
          obtain ⟨o, ho⟩ : ∃ o, p[i]? = some o := ⟨p[i], List.getElem?_eq_getElem hi⟩
          obtain ⟨d, hf⟩ := fixB_at hB ho
          have hol : l[i]? = some o := by rw [← hpa i (by omega)]; exact ho
          have : i ∈ Region.ready .any l.toArray listed := mem_ready.2 ⟨by
            have hlt : i < listed.size := by omega
            simp [Array.getD, hlt] at hc ⊢
            exact hc, o, by simpa using hol, fun e he hb => ih e.on (hf.back e he hb) (by have := hf.back e he hb; omega)⟩
          rw [hr] at this
          cases this
    intro fuel
    induction fuel with
    | zero =>
      intro listed a' w' β hsz hlate hc hI
      have hall : ∀ i, i < p.length → listed.getD i false = true := fun i hi => by
        have h1 := cf_zero (listed.toList.take k) i hc (by simp; omega)
        have hlt : i < listed.size := by omega
        rw [List.getElem?_take, if_pos (by omega)] at h1
        simp [Array.getD, hlt] at h1 ⊢
        exact h1
      rw [Nat.zero_add]
      exact fin listed a' w' β hsz hlate hI hall
    | succ fuel ih =>
      intro listed a' w' β hsz hlate hc hI
      have hun : ∃ j, j < k ∧ listed.getD j false = false := by
        apply Classical.byContradiction
        intro hno
        have h1 : ∀ (x : List Bool), (∀ i, i < x.length → x[i]? = some true) → cf x = 0 := by
          intro x
          induction x with
          | nil => intro _; rfl
          | cons b x ihx =>
            intro hx
            have hb := hx 0 (by simp)
            simp at hb
            subst hb
            have := ihx (fun i hi => by simpa using hx (i + 1) (by simpa using hi))
            simp [cf, this]
        have h2 := h1 (listed.toList.take k) (fun i hi => by
          simp at hi
          rw [List.getElem?_take, if_pos (by omega)]
          have hlt : i < listed.size := by omega
          have h3 : listed.getD i false = true := by
            cases hg : listed.getD i false with
            | true => rfl
            | false => exact absurd ⟨i, by omega, hg⟩ hno
          simp [Array.getD, hlt] at h3 ⊢
          exact h3)
        omega
      have efuel : fuel + 1 + (l.length - k) = fuel + (l.length - k) + 1 := by omega
      rw [efuel]
      refine ⟨fun hr => ?_, fun i hi => ?_⟩
      · exfalso
        obtain ⟨j, hj, hj0⟩ := hun
        rw [some_ready listed hsz hr j (by omega)] at hj0
        cases hj0
      obtain ⟨h0, o, ho, hdeps⟩ := mem_ready.1 hi
      have hol : l[i]? = some o := by simpa using ho
      have hik : i < k := by
        apply Classical.byContradiction
        intro hge
        obtain ⟨j, hj, hj0⟩ := hun
        obtain ⟨e, he, hb, hon⟩ := (tailB_at hT hol (by omega)).2 j (by omega)
        have := hdeps e he hb
        rw [hon, hj0] at this
        cases this
      have ho' : p[i]? = some o := by rw [hpa i hik]; exact hol
      have hlt : i < p.length := (List.getElem?_eq_some_iff.1 ho').1
      obtain ⟨d, hf⟩ := fixB_at hB ho'
      have hdi : dstOf p i = some d := by simp [dstOf, ho', hf.dst]
      have hlt2 : i < listed.size := by omega
      have hfalse : (listed.toList.take k)[i]? = some false := by
        simp [Array.getD, hlt2] at h0
        rw [List.getElem?_take, if_pos hik]
        simp [hlt2, h0]
      have hlate' : ∀ j, k ≤ j → (listed.setIfInBounds i true).getD j false = false := fun j hj => by
        rw [getD_set_ne false (by omega)]
        exact hlate j hj
      have hsz' : (listed.setIfInBounds i true).size = l.length := by simpa using hsz
      have hcf : cf ((listed.setIfInBounds i true).toList.take k) = fuel := by
        have := cf_set (listed.toList.take k) i hfalse
        rw [Array.toList_setIfInBounds, List.take_set]
        omega
      -- the operation reads the last frame
      have hread : execOp a'.eval o = execOp (seen p o a.tmps (lastTmps a.tmps p vs sp β)) o := execOp_congr o hf.sel fun x hx => by
        cases x with
        | tmp t =>
          show a'.tmps.getD t undef = if dep p o t then (lastTmps a.tmps p vs sp β).getD t undef else a.tmps.getD t undef
          cases hd : dep p o t with
          | true =>
            simp only [if_true]
            have hd' := hd
            unfold dep at hd'
            rw [Array.any_eq_true'] at hd'
            obtain ⟨e, he, h3⟩ := hd'
            simp only [Bool.and_eq_true, beq_iff_eq] at h3
            obtain ⟨hb, hjt⟩ := h3
            obtain ⟨oj, hoj⟩ : ∃ oj, p[e.on]? = some oj := by
              cases hoj : p[e.on]? with
              | none => simp [dstOf, hoj] at hjt
              | some oj => exact ⟨oj, rfl⟩
            obtain ⟨dj, hfj⟩ := fixB_at hB hoj
            have hdj : dj = t := by
              have : dstOf p e.on = some dj := by simp [dstOf, hoj, hfj.dst]
              rw [hjt] at this
              exact (Option.some.inj this).symm
            subst hdj
            rw [hI.done _ _ hjt (hdeps e he hb), last_at hfj hoj a.tmps rfl]
          | false =>
            simp only [Bool.false_eq_true, if_false]
            refine hI.base t fun j hj => ?_
            have hjlt : j < p.length := by
              cases hoj : p[j]? with
              | none => simp [dstOf, hoj] at hj
              | some oj => exact (List.getElem?_eq_some_iff.1 hoj).1
            rcases hf.deps t (by simpa using hx) j hjlt hj with ⟨e, he, hb, rfl⟩ | ⟨oj, hoj, e, he, hb, hei⟩
            · exfalso
              have : dep p o t = true := by
                unfold dep
                rw [Array.any_eq_true']
                exact ⟨e, he, by simp [hb, hj]⟩
              rw [hd] at this
              cases this
            · cases hc : listed.getD j false with
              | false => rfl
              | true =>
                exfalso
                have h1 := hI.closed j oj hoj hc e he hb
                rw [hei] at h1
                simp [Array.getD, hlt2] at h0 h1
                rw [h0] at h1
                cases h1
        | _ => rfl
      have hq := (Steps.get hstep ho') β w' hI.bel (fun e he hb ns hns => hI.rows e.on ns (hdeps e he hb) hns)
      rw [Nat.zero_add] at hq
      -- what follows, from the value
      have next : ∀ (v : Value) (w'' : World), Bel w' w'' → (match sp[i]?.getD none with
          | some ns => ∃ b, v = .slice (some ⟨b, 0, none⟩) ns.length ns.length ∧ RowAt b ns w''
          | none => v = vs[i]?.getD undef) → wpAny P .any l.toArray Q (fuel + (l.length - k)) (listed.setIfInBounds i true) (a'.put o.dst v) w'' := by
        intro v w'' hb hv
        have mk : ∀ (β' : Nat → Nat), (∀ j, j ≠ i → β' j = β j) → v = theVal vs sp β' i → (∀ ns, sp[i]? = some (some ns) → RowAt (β' i) ns w'') → wpAny P .any l.toArray Q (fuel + (l.length - k)) (listed.setIfInBounds i true) (a'.put o.dst v) w'' := by
          intro β' hβ hval hrow
          have val_other : ∀ j, j ≠ i → theVal vs sp β' j = theVal vs sp β j := fun j hj => by unfold theVal; rw [hβ j hj]
          refine ih _ _ _ β' hsz' hlate' hcf ⟨hI.bel.trans hb, by rw [hf.dst]; exact hI.defers, by rw [hf.dst]; simp [Act.put, hI.size], fun t ht => ?_, fun j oj hj hl e he hb2 => ?_, fun j dj hj hl => ?_, fun j ns hl hs => ?_⟩
          · have hne : d ≠ t := fun e => by
              have := ht i (by rw [hdi, e])
              simp [Array.getD, hlt2] at this
            have ht' : ∀ j, dstOf p j = some t → listed.getD j false = false := fun j hj => by
              have h1 := ht j hj
              by_cases hji : i = j
              · subst hji
                simp [Array.getD, hlt2] at h1
              · rwa [getD_set_ne false hji] at h1
            rw [hf.dst, ← hI.base t ht']
            simp [Act.put, Array.getElem?_setIfInBounds_ne hne]
          · by_cases hji : j = i
            · subst hji
              rw [ho'] at hj
              obtain rfl := Option.some.inj hj
              exact getD_set_true (hdeps e he hb2)
            · have hl' : listed.getD j false = true := by rw [getD_set_ne false (Ne.symm hji)] at hl; exact hl
              exact getD_set_true (hI.closed j oj hj hl' e he hb2)
          · by_cases hji : j = i
            · subst hji
              rw [hdi] at hj
              obtain rfl := Option.some.inj hj
              rw [hf.dst, ← hval]
              have : d < a'.tmps.size := by rw [hI.size]; exact hf.lt
              simp [Act.put, this]
            · have hjlt : j < p.length := by
                cases hoj : p[j]? with
                | none => simp [dstOf, hoj] at hj
                | some oj => exact (List.getElem?_eq_some_iff.1 hoj).1
              have hne : d ≠ dj := fun e => hf.uniq j hjlt hji (by rw [hj, e])
              have hl' : listed.getD j false = true := by rw [getD_set_ne false (Ne.symm hji)] at hl; exact hl
              rw [hf.dst, val_other j hji, ← hI.done j dj hj hl']
              simp [Act.put, Array.getElem?_setIfInBounds_ne hne]
          · by_cases hji : j = i
            · subst hji
              exact hrow ns hs
            · have hl' : listed.getD j false = true := by rw [getD_set_ne false (Ne.symm hji)] at hl; exact hl
              rw [hβ j hji]
              exact (hI.rows j ns hl' hs).bel hb
        cases hs : sp[i]?.getD none with
        | none =>
          rw [hs] at hv
          exact mk β (fun _ _ => rfl) (by unfold theVal; rw [hs]; exact hv) (fun ns hns => by rw [hns] at hs; cases hs)
        | some ns =>
          rw [hs] at hv
          obtain ⟨b, hv, hrow⟩ := hv
          refine mk (fun j => if j = i then b else β j) (fun j hj => if_neg hj) (by unfold theVal; rw [hs]; simpa using hv) (fun ns' hns => ?_)
          rw [hns] at hs
          simp at hs
          subst hs
          simpa using hrow
      unfold wpOp
      rw [ho]
      have hw : Region.wanted o (yielded l.toArray a'.tmps) = true := by simp [Region.wanted, hf.guard]
      simp only [hw, if_true]
      left
      unfold Oper.wp
      rw [hread]
      unfold QB at hq
      generalize (execOp (seen p o a.tmps (lastTmps a.tmps p vs sp β)) o).run P w' = r at hq
      cases r with
      | halt x w2 => exact hq.elim
      | ok nx w2 =>
        cases nx <;> simp only [Oper.upon] at hq ⊢
        case value u => exact next u w2 hq.1 hq.2
        case enter f args =>
          obtain ⟨rfl, hcall⟩ := hq
          exact hcall.mono fun e w'' ⟨v, he, hb, hv⟩ => by
            subst he
            exact next v w'' hb hv
        all_goals exact hq.elim
  refine wp_region_any hm ?_
  have hsz : (Array.replicate l.length false).size = l.length := by simp
  have := key k (Array.replicate l.length false) a { w with drawn := w.drawn + 1 } (fun _ => 0) hsz (fun i _ => by simp [Array.getD]) (by rw [Array.toList_replicate, List.take_replicate, Nat.min_eq_left hkl, cf_replicate])
    ⟨(Bel.refl w).drew, rfl, rfl, fun _ _ => rfl, fun j oj _ h => by simp [Array.getD] at h, fun i d _ h => by simp [Array.getD] at h, fun i ns h => by simp [Array.getD] at h⟩
  rw [show k + (l.length - k) = l.length by omega] at this
  simpa using this
end Go.Proofs.YtoikpdijkdmimaaDoor
