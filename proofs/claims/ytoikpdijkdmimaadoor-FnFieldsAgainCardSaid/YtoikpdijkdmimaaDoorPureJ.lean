/-
  The fields of a line, joined by single spaces, have the same fields. No program is in sight here.
-/
import Derived.Test.YtoikpdijkdmimaaDoorPure8
import Derived.Test.YtoikpdijkdmimaaDoorPureG
namespace Go.Proofs.YtoikpdijkdmimaaDoor.P
/-- a field: not empty, all its bytes can be printed and none is a space -/
def Fld (f : ByteArray) : Prop := 0 < f.size ∧ ∀ k, k < f.size → 33 ≤ at8n f k ∧ at8n f k ≤ 126
/-- the first k of L, each with a space behind it -/
def joinTo (L : List ByteArray) : Nat → ByteArray
  | 0 => bs []
  | k + 1 => joinTo L k ++ L.getD k ⟨#[]⟩ ++ bs [32]
theorem sep_left (t u : ByteArray) (i : Nat) (h : i < t.size) : sep (t ++ u) i = sep t i := by
  rw [sep_at _ _ (by rw [ByteArray.size_append]; omega), sep_at _ _ h, at8n_left _ _ _ h]
theorem beg_left (t u : ByteArray) : ∀ i, i ≤ t.size → beg (t ++ u) i = beg t i
  | 0, _ => rfl
  | i + 1, h => by
    simp only [beg]
    rw [sep_left t u i (by omega), beg_left t u i (by omega)]
theorem extract_left (t u : ByteArray) (i j : Nat) (h : j ≤ t.size) (hij : i ≤ j) : (t ++ u).extract i j = t.extract i j := by
  apply at8n_ext
  · rw [ByteArray.size_extract, ByteArray.size_extract, ByteArray.size_append]; omega
  · intro k hk
    rw [ByteArray.size_extract, ByteArray.size_append] at hk
    rw [at8n_extract _ _ _ _ (by omega), at8n_extract _ _ _ _ (by omega), at8n_left _ _ _ (by omega)]
theorem fld_left (t u : ByteArray) : ∀ i, i ≤ t.size → fld (t ++ u) i = fld t i
  | 0, _ => rfl
  | i + 1, h => by
    have hb := beg_le t i
    simp only [fld]
    rw [sep_left t u i (by omega), beg_left t u i (by omega), fld_left t u i (by omega), extract_left t u _ i (by omega) hb]
theorem prt_left (t u : ByteArray) : ∀ i, i ≤ t.size → prt (t ++ u) i = prt t i
  | 0, _ => rfl
  | i + 1, h => by
    simp only [prt]
    rw [prt_left t u i (by omega), at8n_left _ _ _ (by omega)]
/-- one field more -/
theorem fld_more (t f : ByteArray) (hf : Fld f) (ht : beg t t.size = t.size) : fld (t ++ f ++ bs [32]) (t.size + f.size + 1) = fld t t.size ++ [f] ∧ beg (t ++ f ++ bs [32]) (t.size + f.size + 1) = t.size + f.size + 1 := by
  have hz : (t ++ f ++ bs [32]).size = t.size + f.size + 1 := by rw [ByteArray.size_append, ByteArray.size_append, bs_size]; rfl
  have hin : ∀ j, j < f.size → sep (t ++ f ++ bs [32]) (t.size + j) = false := fun j hj => by
    have h1 := hf.2 j hj
    rw [sep_at _ _ (by omega), ByteArray.append_assoc, at8n_right _ _ _ (by omega), show t.size + j - t.size = j by omega, at8n_left _ _ _ hj]
    exact decide_eq_false (by omega)
  have step : ∀ j, j ≤ f.size → fld (t ++ f ++ bs [32]) (t.size + j) = fld t t.size ∧ beg (t ++ f ++ bs [32]) (t.size + j) = t.size := by
    intro j
    induction j with
    | zero =>
      intro _
      rw [Nat.add_zero, ByteArray.append_assoc, fld_left t _ t.size (Nat.le_refl _), beg_left t _ t.size (Nat.le_refl _)]
      exact ⟨rfl, ht⟩
    | succ j ih =>
      intro hj
      obtain ⟨h1, h2⟩ := ih (by omega)
      obtain ⟨h3, h4⟩ := fld_in (t ++ f ++ bs [32]) (t.size + j) (hin j (by omega))
      rw [show t.size + (j + 1) = t.size + j + 1 by omega]
      exact ⟨h3.trans h1, h4.trans h2⟩
  obtain ⟨h1, h2⟩ := step f.size (Nat.le_refl _)
  have hs : sep (t ++ f ++ bs [32]) (t.size + f.size) = true := by
    rw [sep_at _ _ (by omega), at8n_right _ _ _ (by rw [ByteArray.size_append]; omega), ByteArray.size_append, Nat.sub_self]
    rfl
  obtain ⟨h3, h4⟩ := fld_sep _ _ hs
  refine ⟨?_, h4⟩
  rw [h3, fin_some _ _ (by rw [h2]; have := hf.1; omega), h1, h2]
  congr 2
  apply at8n_ext
  · rw [ByteArray.size_extract]; omega
  · intro k hk
    rw [ByteArray.size_extract] at hk
    rw [at8n_extract _ _ _ _ (by omega), ByteArray.append_assoc, at8n_right _ _ _ (by omega), show t.size + k - t.size = k by omega, at8n_left _ _ _ (by omega)]
theorem prt_all (s : ByteArray) : ∀ n, (∀ k, k < n → 32 ≤ at8n s k ∧ at8n s k ≤ 126) → prt s n = true
  | 0, _ => rfl
  | n + 1, h => prt_next s n (prt_all s n fun k hk => h k (by omega)) (h n (by omega))
theorem prt_more (t f : ByteArray) (hf : Fld f) (ht : prt t t.size = true) : prt (t ++ f ++ bs [32]) (t.size + f.size + 1) = true := by
  apply prt_all
  intro k hk
  by_cases h1 : k < t.size
  · rw [ByteArray.append_assoc, at8n_left _ _ _ h1]
    exact prt_at t t.size k ht h1
  · by_cases h2 : k < t.size + f.size
    · rw [ByteArray.append_assoc, at8n_right _ _ _ (by omega), at8n_left _ _ _ (by omega)]
      have := hf.2 (k - t.size) (by omega)
      omega
    · rw [at8n_right _ _ _ (by rw [ByteArray.size_append]; omega), ByteArray.size_append, show k - (t.size + f.size) = 0 by omega]
      decide
theorem join_facts (L : List ByteArray) (hL : ∀ f ∈ L, Fld f) : ∀ k, k ≤ L.length →
    fld (joinTo L k) (joinTo L k).size = L.take k ∧ beg (joinTo L k) (joinTo L k).size = (joinTo L k).size ∧ prt (joinTo L k) (joinTo L k).size = true
  | 0, _ => ⟨rfl, rfl, rfl⟩
  | k + 1, h => by
    obtain ⟨h1, h2, h3⟩ := join_facts L hL k (by omega)
    have hk : k < L.length := by omega
    have e : L.getD k ⟨#[]⟩ = L[k] := by rw [List.getD_eq_getElem?_getD, List.getElem?_eq_getElem hk]; rfl
    have hf : Fld (L.getD k ⟨#[]⟩) := by rw [e]; exact hL _ (List.getElem_mem hk)
    have hz : (joinTo L (k + 1)).size = (joinTo L k).size + (L.getD k ⟨#[]⟩).size + 1 := by
      show (joinTo L k ++ L.getD k ⟨#[]⟩ ++ bs [32]).size = _
      rw [ByteArray.size_append, ByteArray.size_append, bs_size]; rfl
    rw [hz]
    show fld (joinTo L k ++ L.getD k ⟨#[]⟩ ++ bs [32]) _ = _ ∧ beg (joinTo L k ++ L.getD k ⟨#[]⟩ ++ bs [32]) _ = _ ∧ prt (joinTo L k ++ L.getD k ⟨#[]⟩ ++ bs [32]) _ = true
    obtain ⟨g1, g2⟩ := fld_more (joinTo L k) (L.getD k ⟨#[]⟩) hf h2
    refine ⟨?_, g2, prt_more _ _ hf h3⟩
    rw [g1, h1, e, List.take_succ_eq_append_getElem hk]
/-- what a line's fields are -/
theorem fld_ok (s : ByteArray) (n : Nat) (hn : n ≤ s.size) (hp : prt s s.size = true) : ∀ i, i ≤ n + 1 → (i ≤ s.size ∨ i = n + 1) → (∀ j, beg s i ≤ j → j < i → j < s.size → ¬ at8n s j = 32) ∧ ∀ f ∈ fld s i, Fld f
  | 0, _, _ => ⟨fun j _ h => by omega, fun f hf => by cases hf⟩
  | i + 1, h, h2 => by
    have his : i ≤ s.size := by omega
    obtain ⟨h3, h4⟩ := fld_ok s n hn hp i (by omega) (by omega)
    cases hs : sep s i with
    | true =>
      obtain ⟨g1, g2⟩ := fld_sep s i hs
      refine ⟨fun j hj hj2 => by omega, fun f hf => ?_⟩
      rw [g1] at hf
      by_cases hb : beg s i < i
      · rw [fin_some s i hb, List.mem_append] at hf
        rcases hf with hf | hf
        · exact h4 f hf
        · simp only [List.mem_singleton] at hf
          subst hf
          have hz : (s.extract (beg s i) i).size = i - beg s i := by rw [ByteArray.size_extract]; omega
          refine ⟨by omega, fun k hk => ?_⟩
          rw [hz] at hk
          rw [at8n_extract _ _ _ _ (by omega)]
          have p1 := prt_at s s.size (beg s i + k) hp (by omega)
          have p2 := h3 (beg s i + k) (by omega) (by omega) (by omega)
          omega
      · have := beg_le s i
        rw [fin_start s i (by omega)] at hf
        exact h4 f hf
    | false =>
      obtain ⟨g1, g2⟩ := fld_in s i hs
      rw [g1, g2]
      refine ⟨fun j hj hj2 hj3 => ?_, h4⟩
      by_cases e : j = i
      · subst e
        rw [sep_at s j hj3] at hs
        exact of_decide_eq_false hs
      · exact h3 j hj (by omega) hj3
theorem sfL_ok (s : ByteArray) : ∀ f ∈ sfL s, Fld f := by
  intro f hf
  unfold sfL at hf
  split at hf
  · rename_i h
    simp only [sfOk, Bool.and_eq_true, decide_eq_true_eq] at h
    have := (fld_ok s s.size (Nat.le_refl _) h.1.2 (s.size + 1) (Nat.le_refl _) (.inr rfl)).2
    rw [(fld_sep s s.size (sep_end s)).1] at this
    exact this f hf
  · cases hf
/-- the fields again -/
theorem fields_again (s : ByteArray) (h : (joinTo (sfL s) (sfL s).length).size ≤ 600) (hl : (sfL s).length ≤ 24) : sfOk (joinTo (sfL s) (sfL s).length) = true ∧ sfL (joinTo (sfL s) (sfL s).length) = sfL s := by
  obtain ⟨h1, h2, h3⟩ := join_facts (sfL s) (sfL_ok s) (sfL s).length (Nat.le_refl _)
  rw [List.take_length] at h1
  generalize joinTo (sfL s) (sfL s).length = t at *
  have hf : fin t t.size = sfL s := by rw [fin_start t t.size h2, h1]
  obtain ⟨g1, g2⟩ := sf_yes t h h3 (by rw [hf]; exact hl)
  exact ⟨g2, g1.trans hf⟩
theorem joinTo_size (L : List ByteArray) (m : Nat) (h : ∀ f ∈ L, f.size ≤ m) : ∀ k, k ≤ L.length → (joinTo L k).size ≤ k * (m + 1)
  | 0, _ => by simp [joinTo, bs_size]
  | k + 1, hk => by
    have h1 := joinTo_size L m h k (by omega)
    have hk2 : k < L.length := by omega
    have e : L.getD k ⟨#[]⟩ = L[k] := by rw [List.getD_eq_getElem?_getD, List.getElem?_eq_getElem hk2]; rfl
    have h2 : (L.getD k ⟨#[]⟩).size ≤ m := by rw [e]; exact h _ (List.getElem_mem hk2)
    show (joinTo L k ++ L.getD k ⟨#[]⟩ ++ bs [32]).size ≤ _
    rw [ByteArray.size_append, ByteArray.size_append, bs_size, Nat.succ_mul]
    simp only [List.length_singleton]
    omega
theorem fin_small (s : ByteArray) : ∀ f ∈ sfL s, f.size ≤ 600 := by
  intro f hf
  have key : ∀ i, ∀ f ∈ fld s i, f.size ≤ s.size := by
    intro i
    induction i with
    | zero => intro f hf; cases hf
    | succ i ih =>
      intro f hf
      simp only [fld] at hf
      split at hf
      · split at hf
        · rw [List.mem_append] at hf
          rcases hf with hf | hf
          · exact ih f hf
          · simp only [List.mem_singleton] at hf
            subst hf
            rw [ByteArray.size_extract]; omega
        · exact ih f hf
      · exact ih f hf
  unfold sfL at hf
  split at hf
  · rename_i h
    simp only [sfOk, Bool.and_eq_true, decide_eq_true_eq] at h
    have hk := key (s.size + 1) f (by rw [(fld_sep s s.size (sep_end s)).1]; exact hf)
    omega
  · cases hf
end Go.Proofs.YtoikpdijkdmimaaDoor.P
