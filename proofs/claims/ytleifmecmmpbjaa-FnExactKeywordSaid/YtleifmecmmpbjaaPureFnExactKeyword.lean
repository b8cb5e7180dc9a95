/- Keyword of the program returns what the reference's returns, for every text. Conditions: none beyond the row's own. -/
import Derived.Test.YtleifmecmmpbjaaPFnExactKeywordx1
namespace Go.Proofs.Ytleifmecmmpbjaa.Pure
open Go.RowKit Go.Proofs.Ytleifmecmmpbjaa.PFnExactKeyword Go.Proofs.YtleifmecmmpbjaaW.PrintWords Go.Proofs.YtleifmecmmpbjaaW.PrintLast

theorem wrap_next {i : Int} {n : Nat} (h0 : 0 ≤ i) (h : i < (n : Int)) (hn : n ≤ 1000000) : wrap64 (i + 1) = i + 1 := by
  unfold wrap64; omega

/-- The rest of a list from i on begins with element i. -/
theorem rest_at (L : List ByteArray) (i : Int) (h0 : 0 ≤ i) (h : i < (L.length : Int)) : L.drop i.toNat = rdOf ByteArray.empty L i :: L.drop (i + 1).toNat := by
  have hi : i.toNat < L.length := by omega
  have h1 : (i + 1).toNat = i.toNat + 1 := by omega
  rw [h1, List.drop_eq_getElem_cons hi]
  congr 1
  simp [rdOf, List.getD, hi]

theorem spec_loop (a : ByteArray) (L : List ByteArray) (hn : L.length ≤ 1000000) (d : Nat) : ∀ (k : Nat) (i : Int), 0 ≤ i → i ≤ L.length → (L.length : Int) - i = d → d < k →
    spec_Keyword.l0 k a L i = some ((L.drop i.toNat).any fun s => decide (s.toList = a.toList)) := by
  induction d with
  | zero =>
    intro k i h0 h1 hd hk
    obtain ⟨k, rfl⟩ : ∃ m, k = m + 1 := ⟨k - 1, by omega⟩
    have : L.drop i.toNat = [] := List.drop_eq_nil_of_le (by omega)
    simp only [spec_Keyword.l0]; rw [if_neg (by omega), this]; rfl
  | succ d ih =>
    intro k i h0 h1 hd hk
    obtain ⟨k, rfl⟩ : ∃ m, k = m + 1 := ⟨k - 1, by omega⟩
    have hlt : i < (L.length : Int) := by omega
    simp only [spec_Keyword.l0]; rw [if_pos hlt, if_pos h0, rest_at L i h0 hlt, List.any_cons]
    by_cases e : (rdOf ByteArray.empty L i).toList = a.toList
    · rw [if_pos e]; simp [e]
    · rw [if_neg e, wrap_next h0 hlt hn, ih k (i + 1) (by omega) (by omega) (by omega) (by omega)]; simp [e]

theorem index_loop (a : ByteArray) (L : List ByteArray) (hn : L.length ≤ 1000000) (d : Nat) : ∀ (k : Nat) (i : Int), 0 ≤ i → i ≤ L.length → (L.length : Int) - i = d → d < k →
    ∃ r, slices_Index_string_string.l0 k L a (L.length : Int) i = some r ∧ decide (r ≥ 0) = ((L.drop i.toNat).any fun s => decide (s.toList = a.toList)) := by
  induction d with
  | zero =>
    intro k i h0 h1 hd hk
    obtain ⟨k, rfl⟩ : ∃ m, k = m + 1 := ⟨k - 1, by omega⟩
    have : L.drop i.toNat = [] := List.drop_eq_nil_of_le (by omega)
    refine ⟨-1, ?_, by rw [this]; rfl⟩
    simp only [slices_Index_string_string.l0]; rw [if_neg (by omega)]
  | succ d ih =>
    intro k i h0 h1 hd hk
    obtain ⟨k, rfl⟩ : ∃ m, k = m + 1 := ⟨k - 1, by omega⟩
    have hlt : i < (L.length : Int) := by omega
    simp only [slices_Index_string_string.l0]; rw [if_pos hlt, if_pos h0, if_pos hlt, rest_at L i h0 hlt, List.any_cons]
    by_cases e : (rdOf ByteArray.empty L i).toList = a.toList
    · refine ⟨i, by rw [if_pos e.symm], ?_⟩
      simp [e, h0]
    · rw [if_neg (fun h => e h.symm), wrap_next h0 hlt hn]
      obtain ⟨r, hr, h⟩ := ih k (i + 1) (by omega) (by omega) (by omega) (by omega)
      exact ⟨r, hr, by rw [h]; simp [e]⟩

theorem spec_tells (a : ByteArray) (L : List ByteArray) (hn : L.length ≤ 1000000) (k : Nat) (hk : L.length < k) : spec_Keyword.l0 k a L 0 = some (L.any fun s => decide (s.toList = a.toList)) :=
  spec_loop a L hn L.length k 0 (by omega) (by omega) (by omega) hk

theorem contains_tells (a : ByteArray) (L : List ByteArray) (hn : L.length ≤ 1000000) (k : Nat) (hk : L.length < k) : slices_Contains_string_string.f k L a = some (L.any fun s => decide (s.toList = a.toList)) := by
  obtain ⟨r, hr, h⟩ := index_loop a L hn L.length k 0 (by omega) (by omega) (by omega) hk
  unfold slices_Contains_string_string.f slices_Index_string_string.f
  rw [hr]
  simp only [Option.bind_some, h]
  rfl

theorem FnExactKeyword : laws_FnExactKeyword.Pure := by
  intro a _
  refine ⟨100, ?_⟩
  unfold laws_FnExactKeyword.f
  by_cases hb : (a.size : Int) > 1048576
  · rw [if_pos hb]
  · rw [if_neg hb]
    unfold spec_Keyword.f impl_Keyword.f
    rw [spec_tells a _ (by decide) 100 (by decide), contains_tells a _ (by decide) 100 (by decide)]
    simp

end Go.Proofs.Ytleifmecmmpbjaa.Pure
