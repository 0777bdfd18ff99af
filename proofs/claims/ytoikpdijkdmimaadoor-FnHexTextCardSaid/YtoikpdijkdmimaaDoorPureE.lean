/-
  Plain laws on hexadecimal text. No program is in sight here.
-/
import Derived.Test.YtoikpdijkdmimaaDoorPure8
namespace Go.Proofs.YtoikpdijkdmimaaDoor.P
theorem hexVal_fig (d : Int) (h : 0 ≤ d ∧ d ≤ 15) : hexVal (fig d) = d := by
  unfold hexVal fig
  by_cases h1 : d < 10
  · rw [if_pos h1, if_pos (by omega)]; omega
  · rw [if_neg h1, if_neg (by omega), if_pos (by omega)]; omega
theorem hexTo_get (s : ByteArray) : ∀ (n k : Nat), k < n → (hexTo s n)[2 * k]? = some (fig (at8 s k / 16)) ∧ (hexTo s n)[2 * k + 1]? = some (fig (at8 s k % 16))
  | 0, k, h => by omega
  | n + 1, k, h => by
    have hl := hexTo_length s n
    rw [hexTo]
    by_cases hk : k = n
    · subst hk
      rw [List.getElem?_append_right (by omega), List.getElem?_append_right (by omega), hl, Nat.sub_self, show 2 * k + 1 - 2 * k = 1 by omega]
      exact ⟨rfl, rfl⟩
    · rw [List.getElem?_append_left (by omega), List.getElem?_append_left (by omega)]
      exact hexTo_get s n k (by omega)
theorem at8_of (l : List Int) (i : Nat) (x : Int) (h : l[i]? = some x) (hx : 0 ≤ x ∧ x ≤ 255) : at8 (bs (l.map by8)) i = x := by
  unfold at8 at8n
  rw [L_bs, List.getElem?_map, h]
  exact by8_toNat x hx
theorem decTo_hex (s : ByteArray) (n : Nat) : ∀ k, k ≤ n → decTo (bs ((hexTo s n).map by8)) k = some ((List.range k).map (at8 s))
  | 0, _ => rfl
  | k + 1, h => by
    have hr := at8_range s k
    have hg := hexTo_get s n k (by omega)
    have f1 := fig_range (at8 s k / 16) (by omega)
    have f2 := fig_range (at8 s k % 16) (by omega)
    have e1 := at8_of _ _ _ hg.1 (by omega)
    have e2 := at8_of _ _ _ hg.2 (by omega)
    have v1 := hexVal_fig (at8 s k / 16) (by omega)
    have v2 := hexVal_fig (at8 s k % 16) (by omega)
    rw [decTo_good _ k _ (decTo_hex s n k (by omega)) (by rw [e1, v1]; omega) (by rw [e2, v2]; omega), e1, e2, v1, v2, List.range_succ, List.map_append, show at8 s k / 16 * 16 + at8 s k % 16 = at8 s k by omega]
    rfl
theorem bytes_of (s : ByteArray) : bs (((List.range s.size).map (at8 s)).map by8) = s := by
  apply at8_ext
  · rw [bs_size]; simp
  · intro k hk
    rw [bs_size] at hk
    simp at hk
    exact at8_of _ k _ (by rw [List.getElem?_map, List.getElem?_range hk]; rfl) (at8_range s k)
theorem hex_round (s : ByteArray) (h : s.size ≤ 20000) : decHex (encodeHex s) = some s ∧ (encodeHex s).size = 2 * s.size := by
  have e : encodeHex s = bs ((hexTo s s.size).map by8) := by unfold encodeHex; rw [if_pos h]
  have z : (encodeHex s).size = 2 * s.size := by rw [e, bs_size, List.length_map, hexTo_length]
  refine ⟨?_, z⟩
  rw [decHex_good _ ((List.range s.size).map (at8 s)) (by omega) (by rw [z, show 2 * s.size / 2 = s.size by omega, e]; exact decTo_hex s s.size s.size (Nat.le_refl _)), bytes_of]
theorem hex_long (s : ByteArray) (h : ¬ s.size ≤ 20000) : encodeHex s = bs [] := by unfold encodeHex; rw [if_neg h]
end Go.Proofs.YtoikpdijkdmimaaDoor.P
