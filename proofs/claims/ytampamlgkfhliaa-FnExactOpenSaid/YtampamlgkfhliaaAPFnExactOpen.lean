/- What the functions that FnExactOpen runs come to, and that the law's own run comes to true. -/
import Derived.Test.YtampamlgkfhliaaAC
import Derived.Test.YtampamlgkfhliaaAMFnExactOpen0
import Derived.Test.YtampamlgkfhliaaAMFnExactOpen1
import Derived.Test.YtampamlgkfhliaaAMFnExactOpen2
import Derived.Test.YtampamlgkfhliaaAMFnExactOpen3
import Derived.Test.YtampamlgkfhliaaAMFnExactOpen4
namespace Go.Proofs.Ytampamlgkfhliaa.Pure
open Go Go.AM Go.AMx Go.Proofs.Ytampamlgkfhliaa.XFnExactOpen
set_option linter.unusedVariables false
set_option linter.unusedSimpArgs false
/-! The text of a mark. -/
theorem marks_l4 (k : Nat) : ∀ (m n : Nat) (x : Int) (t : ByteArray), 0 ≤ x → x ≤ 9223372036854775807 → x < 10 ^ m → m < n → t.size + m ≤ 1000 → ∃ u, laws_markText.l4 k n x t = some u
  | 0, n, x, t, h0, hb0, h1, h2, h3 => by
    obtain ⟨n, rfl⟩ : ∃ p, n = p + 1 := ⟨n - 1, by omega⟩
    have hx : x = 0 := by simp at h1; omega
    have hs : ByteArray.size (⟨#[109]⟩ : ByteArray) = 1 := rfl
    rw [laws_markText.l4_s, iteB_neg (by omega), hs, iteB_pos (by omega)]
    exact ⟨_, rfl⟩
  | m + 1, n, x, t, h0, hb0, h1, h2, h3 => by
    obtain ⟨n, rfl⟩ : ∃ p, n = p + 1 := ⟨n - 1, by omega⟩
    have hs : ByteArray.size (⟨#[109]⟩ : ByteArray) = 1 := rfl
    by_cases hx : x > 0
    · have hb : ∀ y : Int, ByteArray.size (bytesVal [y]) = 1 := fun y => rfl
      have hd : Int.tdiv x 10 = x / 10 := Int.tdiv_eq_ediv_of_nonneg h0
      rw [Int.pow_succ] at h1
      have hlt : x / 10 < 10 ^ m := by generalize (10 : Int) ^ m = P at h1; omega
      rw [laws_markText.l4_s, iteB_pos hx, hb, iteB_pos (by omega), hd, wrap_id (by omega) (by omega)]
      exact marks_l4 k m n (x / 10) _ (by omega) (by omega) hlt (by omega) (by rw [ByteArray.size_append, hb]; omega)
    · rw [laws_markText.l4_s, iteB_neg hx, hs, iteB_pos (by omega)]
      exact ⟨_, rfl⟩
theorem markText_ok : TextOk laws_markText := (Ev.gt 30).mono fun q hq kk h0 hM => by
  rw [laws_markText_e]
  by_cases h : kk ≤ 0
  · rw [iteB_pos h]; exact ⟨_, rfl⟩
  · rw [iteB_neg h]; exact marks_l4 q 20 q kk _ h0 (by omega) (by omega) (by omega) (by show 0 + 20 ≤ 1000; omega)

theorem szIntS_ok : SzOk (.row (.int .i64)) laws_szIntS := sz_flat (e := (.int .i64)) (fun _ => trivial) laws_szIntS_e
theorem szTac_ok : SzOk (.pair (.int .i64) (.pair (.int .i64) (.pair (.int .i64) (.pair (.int .i64) (.pair (.int .i64) (.pair .str (.pair (.row (.int .i64)) .unit))))))) laws_szTac := fun (a1 : Int × Int × Int × Int × Int × ByteArray × (List Int) × Unit) (hx : WfT (.pair (.int .i64) (.pair (.int .i64) (.pair (.int .i64) (.pair (.int .i64) (.pair (.int .i64) (.pair .str (.pair (.row (.int .i64)) .unit))))))) a1) a2 h0 h1 => ((SzE.sub (n := ByteArray.size a1.2.2.2.2.2.1) (G := fun k r => bindO (laws_szIntS k a1.2.2.2.2.2.2.1 (r)) fun r1 => (iteB (decide (r1 < 0)) (some (-1)) (some r1))) h0 h1 hx.2.2.2.2.2.1 fun r0_ p0_ q0_ => SzE.call p0_ (szIntS_ok a1.2.2.2.2.2.2.1 hx.2.2.2.2.2.2.1 _ p0_ (by omega)) fun r1 p1_ q1_ => SzE.done (Int.le_refl _)).to fun h => ⟨trivial, trivial, trivial, trivial, trivial, h.1, h.2.1, trivial⟩).eq fun k => laws_szTac_e k a1 a2
theorem szTacS_ok : SzOk (.row (.pair (.int .i64) (.pair (.int .i64) (.pair (.int .i64) (.pair (.int .i64) (.pair (.int .i64) (.pair .str (.pair (.row (.int .i64)) .unit)))))))) laws_szTacS := sz_row (α := (Int × Int × Int × Int × Int × ByteArray × (List Int) × Unit)) (W := WfT (.pair (.int .i64) (.pair (.int .i64) (.pair (.int .i64) (.pair (.int .i64) (.pair (.int .i64) (.pair .str (.pair (.row (.int .i64)) .unit)))))))) (F := FitT (.pair (.int .i64) (.pair (.int .i64) (.pair (.int .i64) (.pair (.int .i64) (.pair (.int .i64) (.pair .str (.pair (.row (.int .i64)) .unit)))))))) (d := (Ty.dflt (.pair (.int .i64) (.pair (.int .i64) (.pair (.int .i64) (.pair (.int .i64) (.pair (.int .i64) (.pair .str (.pair (.row (.int .i64)) .unit))))))))) (S := laws_szTacS) (L := laws_szTacS.l5) (f := laws_szTac) szTac_ok laws_szTacS.l5_s laws_szTacS_e
theorem szUnit_ok : SzOk (.pair .str (.pair (.int .i64) (.pair (.int .i64) (.pair (.row (.pair (.int .i64) (.pair (.int .i64) (.pair (.int .i64) (.pair (.int .i64) (.pair (.int .i64) (.pair .str (.pair (.row (.int .i64)) .unit)))))))) .unit)))) laws_szUnit := fun (a1 : ByteArray × Int × Int × (List (Int × Int × Int × Int × Int × ByteArray × (List Int) × Unit)) × Unit) (hx : WfT (.pair .str (.pair (.int .i64) (.pair (.int .i64) (.pair (.row (.pair (.int .i64) (.pair (.int .i64) (.pair (.int .i64) (.pair (.int .i64) (.pair (.int .i64) (.pair .str (.pair (.row (.int .i64)) .unit)))))))) .unit)))) a1) a2 h0 h1 => ((SzE.sub (n := ByteArray.size a1.1) (G := fun k r => bindO (laws_szTacS k a1.2.2.2.1 (r)) fun r1 => (iteB (decide (r1 < 0)) (some (-1)) (some r1))) h0 h1 hx.1 fun r0_ p0_ q0_ => SzE.call p0_ (szTacS_ok a1.2.2.2.1 hx.2.2.2.1 _ p0_ (by omega)) fun r1 p1_ q1_ => SzE.done (Int.le_refl _)).to fun h => ⟨h.1, trivial, trivial, h.2.1, trivial⟩).eq fun k => laws_szUnit_e k a1 a2
theorem szUnitS_ok : SzOk (.row (.pair .str (.pair (.int .i64) (.pair (.int .i64) (.pair (.row (.pair (.int .i64) (.pair (.int .i64) (.pair (.int .i64) (.pair (.int .i64) (.pair (.int .i64) (.pair .str (.pair (.row (.int .i64)) .unit)))))))) .unit))))) laws_szUnitS := sz_row (α := (ByteArray × Int × Int × (List (Int × Int × Int × Int × Int × ByteArray × (List Int) × Unit)) × Unit)) (W := WfT (.pair .str (.pair (.int .i64) (.pair (.int .i64) (.pair (.row (.pair (.int .i64) (.pair (.int .i64) (.pair (.int .i64) (.pair (.int .i64) (.pair (.int .i64) (.pair .str (.pair (.row (.int .i64)) .unit)))))))) .unit))))) (F := FitT (.pair .str (.pair (.int .i64) (.pair (.int .i64) (.pair (.row (.pair (.int .i64) (.pair (.int .i64) (.pair (.int .i64) (.pair (.int .i64) (.pair (.int .i64) (.pair .str (.pair (.row (.int .i64)) .unit)))))))) .unit))))) (d := (Ty.dflt (.pair .str (.pair (.int .i64) (.pair (.int .i64) (.pair (.row (.pair (.int .i64) (.pair (.int .i64) (.pair (.int .i64) (.pair (.int .i64) (.pair (.int .i64) (.pair .str (.pair (.row (.int .i64)) .unit)))))))) .unit)))))) (S := laws_szUnitS) (L := laws_szUnitS.l5) (f := laws_szUnit) szUnit_ok laws_szUnitS.l5_s laws_szUnitS_e
theorem szFrame_ok : SzOk (.pair (.int .i64) (.pair (.int .i64) (.pair (.row (.int .i64)) (.pair (.int .i64) .unit)))) laws_szFrame := fun (a1 : Int × Int × (List Int) × Int × Unit) (hx : WfT (.pair (.int .i64) (.pair (.int .i64) (.pair (.row (.int .i64)) (.pair (.int .i64) .unit)))) a1) a2 h0 h1 => ((SzE.call h0 (szIntS_ok a1.2.2.1 hx.2.2.1 _ h0 h1) fun r1 p0_ q0_ => SzE.done (Int.le_refl _)).to fun h => ⟨trivial, trivial, h.1, trivial, trivial⟩).eq fun k => laws_szFrame_e k a1 a2
theorem szFrameS_ok : SzOk (.row (.pair (.int .i64) (.pair (.int .i64) (.pair (.row (.int .i64)) (.pair (.int .i64) .unit))))) laws_szFrameS := sz_row (α := (Int × Int × (List Int) × Int × Unit)) (W := WfT (.pair (.int .i64) (.pair (.int .i64) (.pair (.row (.int .i64)) (.pair (.int .i64) .unit))))) (F := FitT (.pair (.int .i64) (.pair (.int .i64) (.pair (.row (.int .i64)) (.pair (.int .i64) .unit))))) (d := (Ty.dflt (.pair (.int .i64) (.pair (.int .i64) (.pair (.row (.int .i64)) (.pair (.int .i64) .unit)))))) (S := laws_szFrameS) (L := laws_szFrameS.l5) (f := laws_szFrame) szFrame_ok laws_szFrameS.l5_s laws_szFrameS_e
theorem szBody_ok : SzOk (.pair (.row (.pair (.int .i64) (.pair (.int .i64) (.pair (.row (.int .i64)) (.pair (.int .i64) .unit))))) (.pair .bool (.pair .bool (.pair (.int .i64) (.pair (.int .i64) (.pair (.int .i64) (.pair (.int .i64) (.pair (.int .i64) .unit)))))))) laws_szBody := fun (a1 : (List (Int × Int × (List Int) × Int × Unit)) × Bool × Bool × Int × Int × Int × Int × Int × Unit) (hx : WfT (.pair (.row (.pair (.int .i64) (.pair (.int .i64) (.pair (.row (.int .i64)) (.pair (.int .i64) .unit))))) (.pair .bool (.pair .bool (.pair (.int .i64) (.pair (.int .i64) (.pair (.int .i64) (.pair (.int .i64) (.pair (.int .i64) .unit)))))))) a1) a2 h0 h1 => ((SzE.call h0 (szFrameS_ok a1.1 hx.1 _ h0 h1) fun r1 p0_ q0_ => SzE.done (Int.le_refl _)).to fun h => ⟨h.1, trivial, trivial, trivial, trivial, trivial, trivial, trivial, trivial⟩).eq fun k => laws_szBody_e k a1 a2
theorem szBodyS_ok : SzOk (.row (.pair (.row (.pair (.int .i64) (.pair (.int .i64) (.pair (.row (.int .i64)) (.pair (.int .i64) .unit))))) (.pair .bool (.pair .bool (.pair (.int .i64) (.pair (.int .i64) (.pair (.int .i64) (.pair (.int .i64) (.pair (.int .i64) .unit))))))))) laws_szBodyS := sz_row (α := ((List (Int × Int × (List Int) × Int × Unit)) × Bool × Bool × Int × Int × Int × Int × Int × Unit)) (W := WfT (.pair (.row (.pair (.int .i64) (.pair (.int .i64) (.pair (.row (.int .i64)) (.pair (.int .i64) .unit))))) (.pair .bool (.pair .bool (.pair (.int .i64) (.pair (.int .i64) (.pair (.int .i64) (.pair (.int .i64) (.pair (.int .i64) .unit))))))))) (F := FitT (.pair (.row (.pair (.int .i64) (.pair (.int .i64) (.pair (.row (.int .i64)) (.pair (.int .i64) .unit))))) (.pair .bool (.pair .bool (.pair (.int .i64) (.pair (.int .i64) (.pair (.int .i64) (.pair (.int .i64) (.pair (.int .i64) .unit))))))))) (d := (Ty.dflt (.pair (.row (.pair (.int .i64) (.pair (.int .i64) (.pair (.row (.int .i64)) (.pair (.int .i64) .unit))))) (.pair .bool (.pair .bool (.pair (.int .i64) (.pair (.int .i64) (.pair (.int .i64) (.pair (.int .i64) (.pair (.int .i64) .unit)))))))))) (S := laws_szBodyS) (L := laws_szBodyS.l5) (f := laws_szBody) szBody_ok laws_szBodyS.l5_s laws_szBodyS_e
theorem szWaitS_ok : SzOk (.row (.pair (.int .i64) (.pair (.int .i64) (.pair (.int .i64) (.pair (.int .i64) .unit))))) laws_szWaitS := sz_flat (e := (.pair (.int .i64) (.pair (.int .i64) (.pair (.int .i64) (.pair (.int .i64) .unit))))) (fun _ => ⟨trivial, trivial, trivial, trivial, trivial⟩) laws_szWaitS_e
theorem szChan_ok : SzOk (.pair (.int .i64) (.pair .bool (.pair (.row (.int .i64)) (.pair (.row (.pair (.int .i64) (.pair (.int .i64) (.pair (.int .i64) (.pair (.int .i64) .unit))))) (.pair (.row (.pair (.int .i64) (.pair (.int .i64) (.pair (.int .i64) (.pair (.int .i64) .unit))))) .unit))))) laws_szChan := fun (a1 : Int × Bool × (List Int) × (List (Int × Int × Int × Int × Unit)) × (List (Int × Int × Int × Int × Unit)) × Unit) (hx : WfT (.pair (.int .i64) (.pair .bool (.pair (.row (.int .i64)) (.pair (.row (.pair (.int .i64) (.pair (.int .i64) (.pair (.int .i64) (.pair (.int .i64) .unit))))) (.pair (.row (.pair (.int .i64) (.pair (.int .i64) (.pair (.int .i64) (.pair (.int .i64) .unit))))) .unit))))) a1) a2 h0 h1 => ((SzE.call h0 (szIntS_ok a1.2.2.1 hx.2.2.1 _ h0 h1) fun r1 p0_ q0_ => SzE.call p0_ (szWaitS_ok a1.2.2.2.1 hx.2.2.2.1 _ p0_ (by omega)) fun r2 p1_ q1_ => SzE.call p1_ (szWaitS_ok a1.2.2.2.2.1 hx.2.2.2.2.1 _ p1_ (by omega)) fun r3 p2_ q2_ => SzE.done (Int.le_refl _)).to fun h => ⟨trivial, trivial, h.1, h.2.1, h.2.2.1, trivial⟩).eq fun k => laws_szChan_e k a1 a2
theorem szChanS_ok : SzOk (.row (.pair (.int .i64) (.pair .bool (.pair (.row (.int .i64)) (.pair (.row (.pair (.int .i64) (.pair (.int .i64) (.pair (.int .i64) (.pair (.int .i64) .unit))))) (.pair (.row (.pair (.int .i64) (.pair (.int .i64) (.pair (.int .i64) (.pair (.int .i64) .unit))))) .unit)))))) laws_szChanS := sz_row (α := (Int × Bool × (List Int) × (List (Int × Int × Int × Int × Unit)) × (List (Int × Int × Int × Int × Unit)) × Unit)) (W := WfT (.pair (.int .i64) (.pair .bool (.pair (.row (.int .i64)) (.pair (.row (.pair (.int .i64) (.pair (.int .i64) (.pair (.int .i64) (.pair (.int .i64) .unit))))) (.pair (.row (.pair (.int .i64) (.pair (.int .i64) (.pair (.int .i64) (.pair (.int .i64) .unit))))) .unit)))))) (F := FitT (.pair (.int .i64) (.pair .bool (.pair (.row (.int .i64)) (.pair (.row (.pair (.int .i64) (.pair (.int .i64) (.pair (.int .i64) (.pair (.int .i64) .unit))))) (.pair (.row (.pair (.int .i64) (.pair (.int .i64) (.pair (.int .i64) (.pair (.int .i64) .unit))))) .unit)))))) (d := (Ty.dflt (.pair (.int .i64) (.pair .bool (.pair (.row (.int .i64)) (.pair (.row (.pair (.int .i64) (.pair (.int .i64) (.pair (.int .i64) (.pair (.int .i64) .unit))))) (.pair (.row (.pair (.int .i64) (.pair (.int .i64) (.pair (.int .i64) (.pair (.int .i64) .unit))))) .unit))))))) (S := laws_szChanS) (L := laws_szChanS.l5) (f := laws_szChan) szChan_ok laws_szChanS.l5_s laws_szChanS_e
theorem szWorld_ok : SzOk (.pair (.row (.pair .str (.pair (.int .i64) (.pair (.int .i64) (.pair (.row (.pair (.int .i64) (.pair (.int .i64) (.pair (.int .i64) (.pair (.int .i64) (.pair (.int .i64) (.pair .str (.pair (.row (.int .i64)) .unit)))))))) .unit))))) (.pair (.row (.pair (.row (.pair (.int .i64) (.pair (.int .i64) (.pair (.row (.int .i64)) (.pair (.int .i64) .unit))))) (.pair .bool (.pair .bool (.pair (.int .i64) (.pair (.int .i64) (.pair (.int .i64) (.pair (.int .i64) (.pair (.int .i64) .unit))))))))) (.pair (.row (.pair (.int .i64) (.pair .bool (.pair (.row (.int .i64)) (.pair (.row (.pair (.int .i64) (.pair (.int .i64) (.pair (.int .i64) (.pair (.int .i64) .unit))))) (.pair (.row (.pair (.int .i64) (.pair (.int .i64) (.pair (.int .i64) (.pair (.int .i64) .unit))))) .unit)))))) (.pair (.row (.int .i64)) (.pair .bool (.pair (.int .i64) .unit)))))) laws_szWorld := fun (a1 : (List (ByteArray × Int × Int × (List (Int × Int × Int × Int × Int × ByteArray × (List Int) × Unit)) × Unit)) × (List ((List (Int × Int × (List Int) × Int × Unit)) × Bool × Bool × Int × Int × Int × Int × Int × Unit)) × (List (Int × Bool × (List Int) × (List (Int × Int × Int × Int × Unit)) × (List (Int × Int × Int × Int × Unit)) × Unit)) × (List Int) × Bool × Int × Unit) (hx : WfT (.pair (.row (.pair .str (.pair (.int .i64) (.pair (.int .i64) (.pair (.row (.pair (.int .i64) (.pair (.int .i64) (.pair (.int .i64) (.pair (.int .i64) (.pair (.int .i64) (.pair .str (.pair (.row (.int .i64)) .unit)))))))) .unit))))) (.pair (.row (.pair (.row (.pair (.int .i64) (.pair (.int .i64) (.pair (.row (.int .i64)) (.pair (.int .i64) .unit))))) (.pair .bool (.pair .bool (.pair (.int .i64) (.pair (.int .i64) (.pair (.int .i64) (.pair (.int .i64) (.pair (.int .i64) .unit))))))))) (.pair (.row (.pair (.int .i64) (.pair .bool (.pair (.row (.int .i64)) (.pair (.row (.pair (.int .i64) (.pair (.int .i64) (.pair (.int .i64) (.pair (.int .i64) .unit))))) (.pair (.row (.pair (.int .i64) (.pair (.int .i64) (.pair (.int .i64) (.pair (.int .i64) .unit))))) .unit)))))) (.pair (.row (.int .i64)) (.pair .bool (.pair (.int .i64) .unit)))))) a1) a2 h0 h1 => ((SzE.call h0 (szUnitS_ok a1.1 hx.1 _ h0 h1) fun r1 p0_ q0_ => SzE.call p0_ (szBodyS_ok a1.2.1 hx.2.1 _ p0_ (by omega)) fun r2 p1_ q1_ => SzE.call p1_ (szChanS_ok a1.2.2.1 hx.2.2.1 _ p1_ (by omega)) fun r3 p2_ q2_ => SzE.call p2_ (szIntS_ok a1.2.2.2.1 hx.2.2.2.1 _ p2_ (by omega)) fun r4 p3_ q3_ => SzE.done (Int.le_refl _)).to fun h => ⟨h.1, h.2.1, h.2.2.1, h.2.2.2.1, trivial, trivial, trivial⟩).eq fun k => laws_szWorld_e k a1 a2
theorem toIntS_ok : ToOk (.row (.int .i64)) laws_toIntS := to_words (α := Int) (c := 8) (F := FitT (.int .i64)) (d := 0) (d' := 0) (S := laws_toIntS) (L := laws_toIntS.l3) laws_toIntS.l3_s laws_toIntS_e (by decide)
theorem toTac_ok : ToOk (.pair (.int .i64) (.pair (.int .i64) (.pair (.int .i64) (.pair (.int .i64) (.pair (.int .i64) (.pair .str (.pair (.row (.int .i64)) .unit))))))) laws_toTac := fun (a1 : Int × Int × Int × Int × Int × ByteArray × (List Int) × Unit) (hx : FitT (.pair (.int .i64) (.pair (.int .i64) (.pair (.int .i64) (.pair (.int .i64) (.pair (.int .i64) (.pair .str (.pair (.row (.int .i64)) .unit))))))) a1) => (show Ev fun k => (bindO (laws_toIntS k a1.2.2.2.2.2.2.1) fun r1 => (some (a1.1, a1.2.1, a1.2.2.1, a1.2.2.2.1, a1.2.2.2.2.1, a1.2.2.2.2.2.1, r1, ()))) = some a1 from To.call (toIntS_ok a1.2.2.2.2.2.2.1 hx.2.2.2.2.2.2.1) (Ev.of fun _ => rfl)).mono fun k h => (laws_toTac_e k a1).trans h
theorem toTacS_ok : ToOk (.row (.pair (.int .i64) (.pair (.int .i64) (.pair (.int .i64) (.pair (.int .i64) (.pair (.int .i64) (.pair .str (.pair (.row (.int .i64)) .unit)))))))) laws_toTacS := to_row (α := (Int × Int × Int × Int × Int × ByteArray × (List Int) × Unit)) (c := 80) (F := FitT (.pair (.int .i64) (.pair (.int .i64) (.pair (.int .i64) (.pair (.int .i64) (.pair (.int .i64) (.pair .str (.pair (.row (.int .i64)) .unit)))))))) (d := (Ty.dflt (.pair (.int .i64) (.pair (.int .i64) (.pair (.int .i64) (.pair (.int .i64) (.pair (.int .i64) (.pair .str (.pair (.row (.int .i64)) .unit))))))))) (d' := (Ty.dflt (.pair (.int .i64) (.pair (.int .i64) (.pair (.int .i64) (.pair (.int .i64) (.pair (.int .i64) (.pair .str (.pair (.row (.int .i64)) .unit))))))))) (S := laws_toTacS) (L := laws_toTacS.l3) (f := laws_toTac) toTac_ok laws_toTacS.l3_s laws_toTacS_e (by decide)
theorem toUnit_ok : ToOk (.pair .str (.pair (.int .i64) (.pair (.int .i64) (.pair (.row (.pair (.int .i64) (.pair (.int .i64) (.pair (.int .i64) (.pair (.int .i64) (.pair (.int .i64) (.pair .str (.pair (.row (.int .i64)) .unit)))))))) .unit)))) laws_toUnit := fun (a1 : ByteArray × Int × Int × (List (Int × Int × Int × Int × Int × ByteArray × (List Int) × Unit)) × Unit) (hx : FitT (.pair .str (.pair (.int .i64) (.pair (.int .i64) (.pair (.row (.pair (.int .i64) (.pair (.int .i64) (.pair (.int .i64) (.pair (.int .i64) (.pair (.int .i64) (.pair .str (.pair (.row (.int .i64)) .unit)))))))) .unit)))) a1) => (show Ev fun k => (bindO (laws_toTacS k a1.2.2.2.1) fun r1 => (some (a1.1, a1.2.1, a1.2.2.1, r1, ()))) = some a1 from To.call (toTacS_ok a1.2.2.2.1 hx.2.2.2.1) (Ev.of fun _ => rfl)).mono fun k h => (laws_toUnit_e k a1).trans h
theorem toUnitS_ok : ToOk (.row (.pair .str (.pair (.int .i64) (.pair (.int .i64) (.pair (.row (.pair (.int .i64) (.pair (.int .i64) (.pair (.int .i64) (.pair (.int .i64) (.pair (.int .i64) (.pair .str (.pair (.row (.int .i64)) .unit)))))))) .unit))))) laws_toUnitS := to_row (α := (ByteArray × Int × Int × (List (Int × Int × Int × Int × Int × ByteArray × (List Int) × Unit)) × Unit)) (c := 56) (F := FitT (.pair .str (.pair (.int .i64) (.pair (.int .i64) (.pair (.row (.pair (.int .i64) (.pair (.int .i64) (.pair (.int .i64) (.pair (.int .i64) (.pair (.int .i64) (.pair .str (.pair (.row (.int .i64)) .unit)))))))) .unit))))) (d := (Ty.dflt (.pair .str (.pair (.int .i64) (.pair (.int .i64) (.pair (.row (.pair (.int .i64) (.pair (.int .i64) (.pair (.int .i64) (.pair (.int .i64) (.pair (.int .i64) (.pair .str (.pair (.row (.int .i64)) .unit)))))))) .unit)))))) (d' := (Ty.dflt (.pair .str (.pair (.int .i64) (.pair (.int .i64) (.pair (.row (.pair (.int .i64) (.pair (.int .i64) (.pair (.int .i64) (.pair (.int .i64) (.pair (.int .i64) (.pair .str (.pair (.row (.int .i64)) .unit)))))))) .unit)))))) (S := laws_toUnitS) (L := laws_toUnitS.l3) (f := laws_toUnit) toUnit_ok laws_toUnitS.l3_s laws_toUnitS_e (by decide)
theorem toFrame_ok : ToOk (.pair (.int .i64) (.pair (.int .i64) (.pair (.row (.int .i64)) (.pair (.int .i64) .unit)))) laws_toFrame := fun (a1 : Int × Int × (List Int) × Int × Unit) (hx : FitT (.pair (.int .i64) (.pair (.int .i64) (.pair (.row (.int .i64)) (.pair (.int .i64) .unit)))) a1) => (show Ev fun k => (bindO (laws_toIntS k a1.2.2.1) fun r1 => (some (a1.1, a1.2.1, r1, a1.2.2.2.1, ()))) = some a1 from To.call (toIntS_ok a1.2.2.1 hx.2.2.1) (Ev.of fun _ => rfl)).mono fun k h => (laws_toFrame_e k a1).trans h
theorem toFrameS_ok : ToOk (.row (.pair (.int .i64) (.pair (.int .i64) (.pair (.row (.int .i64)) (.pair (.int .i64) .unit))))) laws_toFrameS := to_row (α := (Int × Int × (List Int) × Int × Unit)) (c := 48) (F := FitT (.pair (.int .i64) (.pair (.int .i64) (.pair (.row (.int .i64)) (.pair (.int .i64) .unit))))) (d := (Ty.dflt (.pair (.int .i64) (.pair (.int .i64) (.pair (.row (.int .i64)) (.pair (.int .i64) .unit)))))) (d' := (Ty.dflt (.pair (.int .i64) (.pair (.int .i64) (.pair (.row (.int .i64)) (.pair (.int .i64) .unit)))))) (S := laws_toFrameS) (L := laws_toFrameS.l3) (f := laws_toFrame) toFrame_ok laws_toFrameS.l3_s laws_toFrameS_e (by decide)
theorem toBody_ok : ToOk (.pair (.row (.pair (.int .i64) (.pair (.int .i64) (.pair (.row (.int .i64)) (.pair (.int .i64) .unit))))) (.pair .bool (.pair .bool (.pair (.int .i64) (.pair (.int .i64) (.pair (.int .i64) (.pair (.int .i64) (.pair (.int .i64) .unit)))))))) laws_toBody := fun (a1 : (List (Int × Int × (List Int) × Int × Unit)) × Bool × Bool × Int × Int × Int × Int × Int × Unit) (hx : FitT (.pair (.row (.pair (.int .i64) (.pair (.int .i64) (.pair (.row (.int .i64)) (.pair (.int .i64) .unit))))) (.pair .bool (.pair .bool (.pair (.int .i64) (.pair (.int .i64) (.pair (.int .i64) (.pair (.int .i64) (.pair (.int .i64) .unit)))))))) a1) => (show Ev fun k => (bindO (laws_toFrameS k a1.1) fun r1 => (some (r1, a1.2.1, a1.2.2.1, a1.2.2.2.1, a1.2.2.2.2.1, a1.2.2.2.2.2.1, a1.2.2.2.2.2.2.1, a1.2.2.2.2.2.2.2.1, ()))) = some a1 from To.call (toFrameS_ok a1.1 hx.1) (Ev.of fun _ => rfl)).mono fun k h => (laws_toBody_e k a1).trans h
theorem toBodyS_ok : ToOk (.row (.pair (.row (.pair (.int .i64) (.pair (.int .i64) (.pair (.row (.int .i64)) (.pair (.int .i64) .unit))))) (.pair .bool (.pair .bool (.pair (.int .i64) (.pair (.int .i64) (.pair (.int .i64) (.pair (.int .i64) (.pair (.int .i64) .unit))))))))) laws_toBodyS := to_row (α := ((List (Int × Int × (List Int) × Int × Unit)) × Bool × Bool × Int × Int × Int × Int × Int × Unit)) (c := 72) (F := FitT (.pair (.row (.pair (.int .i64) (.pair (.int .i64) (.pair (.row (.int .i64)) (.pair (.int .i64) .unit))))) (.pair .bool (.pair .bool (.pair (.int .i64) (.pair (.int .i64) (.pair (.int .i64) (.pair (.int .i64) (.pair (.int .i64) .unit))))))))) (d := (Ty.dflt (.pair (.row (.pair (.int .i64) (.pair (.int .i64) (.pair (.row (.int .i64)) (.pair (.int .i64) .unit))))) (.pair .bool (.pair .bool (.pair (.int .i64) (.pair (.int .i64) (.pair (.int .i64) (.pair (.int .i64) (.pair (.int .i64) .unit)))))))))) (d' := (Ty.dflt (.pair (.row (.pair (.int .i64) (.pair (.int .i64) (.pair (.row (.int .i64)) (.pair (.int .i64) .unit))))) (.pair .bool (.pair .bool (.pair (.int .i64) (.pair (.int .i64) (.pair (.int .i64) (.pair (.int .i64) (.pair (.int .i64) .unit)))))))))) (S := laws_toBodyS) (L := laws_toBodyS.l3) (f := laws_toBody) toBody_ok laws_toBodyS.l3_s laws_toBodyS_e (by decide)
theorem toWait_ok : ToOk (.pair (.int .i64) (.pair (.int .i64) (.pair (.int .i64) (.pair (.int .i64) .unit)))) laws_toWait := fun (a1 : Int × Int × Int × Int × Unit) (hx : FitT (.pair (.int .i64) (.pair (.int .i64) (.pair (.int .i64) (.pair (.int .i64) .unit)))) a1) => (show Ev fun k => (some (a1.1, a1.2.1, a1.2.2.1, a1.2.2.2.1, ())) = some a1 from Ev.of fun _ => rfl).mono fun k h => (laws_toWait_e k a1).trans h
theorem toWaitS_ok : ToOk (.row (.pair (.int .i64) (.pair (.int .i64) (.pair (.int .i64) (.pair (.int .i64) .unit))))) laws_toWaitS := to_row (α := (Int × Int × Int × Int × Unit)) (c := 32) (F := FitT (.pair (.int .i64) (.pair (.int .i64) (.pair (.int .i64) (.pair (.int .i64) .unit))))) (d := (Ty.dflt (.pair (.int .i64) (.pair (.int .i64) (.pair (.int .i64) (.pair (.int .i64) .unit)))))) (d' := (Ty.dflt (.pair (.int .i64) (.pair (.int .i64) (.pair (.int .i64) (.pair (.int .i64) .unit)))))) (S := laws_toWaitS) (L := laws_toWaitS.l3) (f := laws_toWait) toWait_ok laws_toWaitS.l3_s laws_toWaitS_e (by decide)
theorem toChan_ok : ToOk (.pair (.int .i64) (.pair .bool (.pair (.row (.int .i64)) (.pair (.row (.pair (.int .i64) (.pair (.int .i64) (.pair (.int .i64) (.pair (.int .i64) .unit))))) (.pair (.row (.pair (.int .i64) (.pair (.int .i64) (.pair (.int .i64) (.pair (.int .i64) .unit))))) .unit))))) laws_toChan := fun (a1 : Int × Bool × (List Int) × (List (Int × Int × Int × Int × Unit)) × (List (Int × Int × Int × Int × Unit)) × Unit) (hx : FitT (.pair (.int .i64) (.pair .bool (.pair (.row (.int .i64)) (.pair (.row (.pair (.int .i64) (.pair (.int .i64) (.pair (.int .i64) (.pair (.int .i64) .unit))))) (.pair (.row (.pair (.int .i64) (.pair (.int .i64) (.pair (.int .i64) (.pair (.int .i64) .unit))))) .unit))))) a1) => (show Ev fun k => (bindO (laws_toIntS k a1.2.2.1) fun r1 => (bindO (laws_toWaitS k a1.2.2.2.1) fun r2 => (bindO (laws_toWaitS k a1.2.2.2.2.1) fun r3 => (some (a1.1, a1.2.1, r1, r2, r3, ()))))) = some a1 from To.call (toIntS_ok a1.2.2.1 hx.2.2.1) (To.call (toWaitS_ok a1.2.2.2.1 hx.2.2.2.1) (To.call (toWaitS_ok a1.2.2.2.2.1 hx.2.2.2.2.1) (Ev.of fun _ => rfl)))).mono fun k h => (laws_toChan_e k a1).trans h
theorem toChanS_ok : ToOk (.row (.pair (.int .i64) (.pair .bool (.pair (.row (.int .i64)) (.pair (.row (.pair (.int .i64) (.pair (.int .i64) (.pair (.int .i64) (.pair (.int .i64) .unit))))) (.pair (.row (.pair (.int .i64) (.pair (.int .i64) (.pair (.int .i64) (.pair (.int .i64) .unit))))) .unit)))))) laws_toChanS := to_row (α := (Int × Bool × (List Int) × (List (Int × Int × Int × Int × Unit)) × (List (Int × Int × Int × Int × Unit)) × Unit)) (c := 88) (F := FitT (.pair (.int .i64) (.pair .bool (.pair (.row (.int .i64)) (.pair (.row (.pair (.int .i64) (.pair (.int .i64) (.pair (.int .i64) (.pair (.int .i64) .unit))))) (.pair (.row (.pair (.int .i64) (.pair (.int .i64) (.pair (.int .i64) (.pair (.int .i64) .unit))))) .unit)))))) (d := (Ty.dflt (.pair (.int .i64) (.pair .bool (.pair (.row (.int .i64)) (.pair (.row (.pair (.int .i64) (.pair (.int .i64) (.pair (.int .i64) (.pair (.int .i64) .unit))))) (.pair (.row (.pair (.int .i64) (.pair (.int .i64) (.pair (.int .i64) (.pair (.int .i64) .unit))))) .unit))))))) (d' := (Ty.dflt (.pair (.int .i64) (.pair .bool (.pair (.row (.int .i64)) (.pair (.row (.pair (.int .i64) (.pair (.int .i64) (.pair (.int .i64) (.pair (.int .i64) .unit))))) (.pair (.row (.pair (.int .i64) (.pair (.int .i64) (.pair (.int .i64) (.pair (.int .i64) .unit))))) .unit))))))) (S := laws_toChanS) (L := laws_toChanS.l3) (f := laws_toChan) toChan_ok laws_toChanS.l3_s laws_toChanS_e (by decide)
theorem toWorld_ok : ToOk (.pair (.row (.pair .str (.pair (.int .i64) (.pair (.int .i64) (.pair (.row (.pair (.int .i64) (.pair (.int .i64) (.pair (.int .i64) (.pair (.int .i64) (.pair (.int .i64) (.pair .str (.pair (.row (.int .i64)) .unit)))))))) .unit))))) (.pair (.row (.pair (.row (.pair (.int .i64) (.pair (.int .i64) (.pair (.row (.int .i64)) (.pair (.int .i64) .unit))))) (.pair .bool (.pair .bool (.pair (.int .i64) (.pair (.int .i64) (.pair (.int .i64) (.pair (.int .i64) (.pair (.int .i64) .unit))))))))) (.pair (.row (.pair (.int .i64) (.pair .bool (.pair (.row (.int .i64)) (.pair (.row (.pair (.int .i64) (.pair (.int .i64) (.pair (.int .i64) (.pair (.int .i64) .unit))))) (.pair (.row (.pair (.int .i64) (.pair (.int .i64) (.pair (.int .i64) (.pair (.int .i64) .unit))))) .unit)))))) (.pair (.row (.int .i64)) (.pair .bool (.pair (.int .i64) .unit)))))) laws_toWorld := fun (a1 : (List (ByteArray × Int × Int × (List (Int × Int × Int × Int × Int × ByteArray × (List Int) × Unit)) × Unit)) × (List ((List (Int × Int × (List Int) × Int × Unit)) × Bool × Bool × Int × Int × Int × Int × Int × Unit)) × (List (Int × Bool × (List Int) × (List (Int × Int × Int × Int × Unit)) × (List (Int × Int × Int × Int × Unit)) × Unit)) × (List Int) × Bool × Int × Unit) (hx : FitT (.pair (.row (.pair .str (.pair (.int .i64) (.pair (.int .i64) (.pair (.row (.pair (.int .i64) (.pair (.int .i64) (.pair (.int .i64) (.pair (.int .i64) (.pair (.int .i64) (.pair .str (.pair (.row (.int .i64)) .unit)))))))) .unit))))) (.pair (.row (.pair (.row (.pair (.int .i64) (.pair (.int .i64) (.pair (.row (.int .i64)) (.pair (.int .i64) .unit))))) (.pair .bool (.pair .bool (.pair (.int .i64) (.pair (.int .i64) (.pair (.int .i64) (.pair (.int .i64) (.pair (.int .i64) .unit))))))))) (.pair (.row (.pair (.int .i64) (.pair .bool (.pair (.row (.int .i64)) (.pair (.row (.pair (.int .i64) (.pair (.int .i64) (.pair (.int .i64) (.pair (.int .i64) .unit))))) (.pair (.row (.pair (.int .i64) (.pair (.int .i64) (.pair (.int .i64) (.pair (.int .i64) .unit))))) .unit)))))) (.pair (.row (.int .i64)) (.pair .bool (.pair (.int .i64) .unit)))))) a1) => (show Ev fun k => (bindO (laws_toUnitS k a1.1) fun r1 => (bindO (laws_toBodyS k a1.2.1) fun r2 => (bindO (laws_toChanS k a1.2.2.1) fun r3 => (bindO (laws_toIntS k a1.2.2.2.1) fun r4 => (some (r1, r2, r3, r4, a1.2.2.2.2.1, a1.2.2.2.2.2.1, ())))))) = some a1 from To.call (toUnitS_ok a1.1 hx.1) (To.call (toBodyS_ok a1.2.1 hx.2.1) (To.call (toChanS_ok a1.2.2.1 hx.2.2.1) (To.call (toIntS_ok a1.2.2.2.1 hx.2.2.2.1) (Ev.of fun _ => rfl))))).mono fun k h => (laws_toWorld_e k a1).trans h
theorem eqIntS_ok : EqOk (.row (.int .i64)) laws_eqIntS := eq_words (α := Int) (F := FitT (.int .i64)) (d := 0) (S := laws_eqIntS) (L := laws_eqIntS.l4) (p := (fun x y => x != y)) (fun x => by simp) laws_eqIntS.l4_s laws_eqIntS_e
theorem eqTac_ok : EqOk (.pair (.int .i64) (.pair (.int .i64) (.pair (.int .i64) (.pair (.int .i64) (.pair (.int .i64) (.pair .str (.pair (.row (.int .i64)) .unit))))))) laws_eqTac := fun (a1 : Int × Int × Int × Int × Int × ByteArray × (List Int) × Unit) (hx : FitT (.pair (.int .i64) (.pair (.int .i64) (.pair (.int .i64) (.pair (.int .i64) (.pair (.int .i64) (.pair .str (.pair (.row (.int .i64)) .unit))))))) a1) => EqE.eq (fun k => laws_eqTac_e k a1 a1) (EqE.word (by simp) (EqE.word (by simp) (EqE.word (by simp) (EqE.word (by simp) (EqE.word (by simp) (EqE.word (by simp) (EqE.call (eqIntS_ok a1.2.2.2.2.2.2.1 hx.2.2.2.2.2.2.1) (EqE.done))))))))
theorem eqTacS_ok : EqOk (.row (.pair (.int .i64) (.pair (.int .i64) (.pair (.int .i64) (.pair (.int .i64) (.pair (.int .i64) (.pair .str (.pair (.row (.int .i64)) .unit)))))))) laws_eqTacS := eq_row (α := (Int × Int × Int × Int × Int × ByteArray × (List Int) × Unit)) (F := FitT (.pair (.int .i64) (.pair (.int .i64) (.pair (.int .i64) (.pair (.int .i64) (.pair (.int .i64) (.pair .str (.pair (.row (.int .i64)) .unit)))))))) (d := (Ty.dflt (.pair (.int .i64) (.pair (.int .i64) (.pair (.int .i64) (.pair (.int .i64) (.pair (.int .i64) (.pair .str (.pair (.row (.int .i64)) .unit))))))))) (S := laws_eqTacS) (L := laws_eqTacS.l4) (f := laws_eqTac) eqTac_ok laws_eqTacS.l4_s laws_eqTacS_e
theorem eqUnit_ok : EqOk (.pair .str (.pair (.int .i64) (.pair (.int .i64) (.pair (.row (.pair (.int .i64) (.pair (.int .i64) (.pair (.int .i64) (.pair (.int .i64) (.pair (.int .i64) (.pair .str (.pair (.row (.int .i64)) .unit)))))))) .unit)))) laws_eqUnit := fun (a1 : ByteArray × Int × Int × (List (Int × Int × Int × Int × Int × ByteArray × (List Int) × Unit)) × Unit) (hx : FitT (.pair .str (.pair (.int .i64) (.pair (.int .i64) (.pair (.row (.pair (.int .i64) (.pair (.int .i64) (.pair (.int .i64) (.pair (.int .i64) (.pair (.int .i64) (.pair .str (.pair (.row (.int .i64)) .unit)))))))) .unit)))) a1) => EqE.eq (fun k => laws_eqUnit_e k a1 a1) (EqE.word (by simp) (EqE.word (by simp) (EqE.word (by simp) (EqE.call (eqTacS_ok a1.2.2.2.1 hx.2.2.2.1) (EqE.done)))))
theorem eqUnitS_ok : EqOk (.row (.pair .str (.pair (.int .i64) (.pair (.int .i64) (.pair (.row (.pair (.int .i64) (.pair (.int .i64) (.pair (.int .i64) (.pair (.int .i64) (.pair (.int .i64) (.pair .str (.pair (.row (.int .i64)) .unit)))))))) .unit))))) laws_eqUnitS := eq_row (α := (ByteArray × Int × Int × (List (Int × Int × Int × Int × Int × ByteArray × (List Int) × Unit)) × Unit)) (F := FitT (.pair .str (.pair (.int .i64) (.pair (.int .i64) (.pair (.row (.pair (.int .i64) (.pair (.int .i64) (.pair (.int .i64) (.pair (.int .i64) (.pair (.int .i64) (.pair .str (.pair (.row (.int .i64)) .unit)))))))) .unit))))) (d := (Ty.dflt (.pair .str (.pair (.int .i64) (.pair (.int .i64) (.pair (.row (.pair (.int .i64) (.pair (.int .i64) (.pair (.int .i64) (.pair (.int .i64) (.pair (.int .i64) (.pair .str (.pair (.row (.int .i64)) .unit)))))))) .unit)))))) (S := laws_eqUnitS) (L := laws_eqUnitS.l4) (f := laws_eqUnit) eqUnit_ok laws_eqUnitS.l4_s laws_eqUnitS_e
theorem eqFrame_ok : EqOk (.pair (.int .i64) (.pair (.int .i64) (.pair (.row (.int .i64)) (.pair (.int .i64) .unit)))) laws_eqFrame := fun (a1 : Int × Int × (List Int) × Int × Unit) (hx : FitT (.pair (.int .i64) (.pair (.int .i64) (.pair (.row (.int .i64)) (.pair (.int .i64) .unit)))) a1) => EqE.eq (fun k => laws_eqFrame_e k a1 a1) (EqE.word (by simp) (EqE.word (by simp) (EqE.call (eqIntS_ok a1.2.2.1 hx.2.2.1) (EqE.word (by simp) (EqE.done)))))
theorem eqFrameS_ok : EqOk (.row (.pair (.int .i64) (.pair (.int .i64) (.pair (.row (.int .i64)) (.pair (.int .i64) .unit))))) laws_eqFrameS := eq_row (α := (Int × Int × (List Int) × Int × Unit)) (F := FitT (.pair (.int .i64) (.pair (.int .i64) (.pair (.row (.int .i64)) (.pair (.int .i64) .unit))))) (d := (Ty.dflt (.pair (.int .i64) (.pair (.int .i64) (.pair (.row (.int .i64)) (.pair (.int .i64) .unit)))))) (S := laws_eqFrameS) (L := laws_eqFrameS.l4) (f := laws_eqFrame) eqFrame_ok laws_eqFrameS.l4_s laws_eqFrameS_e
theorem eqBody_ok : EqOk (.pair (.row (.pair (.int .i64) (.pair (.int .i64) (.pair (.row (.int .i64)) (.pair (.int .i64) .unit))))) (.pair .bool (.pair .bool (.pair (.int .i64) (.pair (.int .i64) (.pair (.int .i64) (.pair (.int .i64) (.pair (.int .i64) .unit)))))))) laws_eqBody := fun (a1 : (List (Int × Int × (List Int) × Int × Unit)) × Bool × Bool × Int × Int × Int × Int × Int × Unit) (hx : FitT (.pair (.row (.pair (.int .i64) (.pair (.int .i64) (.pair (.row (.int .i64)) (.pair (.int .i64) .unit))))) (.pair .bool (.pair .bool (.pair (.int .i64) (.pair (.int .i64) (.pair (.int .i64) (.pair (.int .i64) (.pair (.int .i64) .unit)))))))) a1) => EqE.eq (fun k => laws_eqBody_e k a1 a1) (EqE.call (eqFrameS_ok a1.1 hx.1) (EqE.word (by simp) (EqE.word (by simp) (EqE.word (by simp) (EqE.word (by simp) (EqE.word (by simp) (EqE.word (by simp) (EqE.word (by simp) (EqE.done)))))))))
theorem eqBodyS_ok : EqOk (.row (.pair (.row (.pair (.int .i64) (.pair (.int .i64) (.pair (.row (.int .i64)) (.pair (.int .i64) .unit))))) (.pair .bool (.pair .bool (.pair (.int .i64) (.pair (.int .i64) (.pair (.int .i64) (.pair (.int .i64) (.pair (.int .i64) .unit))))))))) laws_eqBodyS := eq_row (α := ((List (Int × Int × (List Int) × Int × Unit)) × Bool × Bool × Int × Int × Int × Int × Int × Unit)) (F := FitT (.pair (.row (.pair (.int .i64) (.pair (.int .i64) (.pair (.row (.int .i64)) (.pair (.int .i64) .unit))))) (.pair .bool (.pair .bool (.pair (.int .i64) (.pair (.int .i64) (.pair (.int .i64) (.pair (.int .i64) (.pair (.int .i64) .unit))))))))) (d := (Ty.dflt (.pair (.row (.pair (.int .i64) (.pair (.int .i64) (.pair (.row (.int .i64)) (.pair (.int .i64) .unit))))) (.pair .bool (.pair .bool (.pair (.int .i64) (.pair (.int .i64) (.pair (.int .i64) (.pair (.int .i64) (.pair (.int .i64) .unit)))))))))) (S := laws_eqBodyS) (L := laws_eqBodyS.l4) (f := laws_eqBody) eqBody_ok laws_eqBodyS.l4_s laws_eqBodyS_e
theorem eqWait_ok : EqOk (.pair (.int .i64) (.pair (.int .i64) (.pair (.int .i64) (.pair (.int .i64) .unit)))) laws_eqWait := fun (a1 : Int × Int × Int × Int × Unit) (hx : FitT (.pair (.int .i64) (.pair (.int .i64) (.pair (.int .i64) (.pair (.int .i64) .unit)))) a1) => EqE.eq (fun k => laws_eqWait_e k a1 a1) (EqE.word (by simp) (EqE.word (by simp) (EqE.word (by simp) (EqE.word (by simp) (EqE.done)))))
theorem eqWaitS_ok : EqOk (.row (.pair (.int .i64) (.pair (.int .i64) (.pair (.int .i64) (.pair (.int .i64) .unit))))) laws_eqWaitS := eq_row (α := (Int × Int × Int × Int × Unit)) (F := FitT (.pair (.int .i64) (.pair (.int .i64) (.pair (.int .i64) (.pair (.int .i64) .unit))))) (d := (Ty.dflt (.pair (.int .i64) (.pair (.int .i64) (.pair (.int .i64) (.pair (.int .i64) .unit)))))) (S := laws_eqWaitS) (L := laws_eqWaitS.l4) (f := laws_eqWait) eqWait_ok laws_eqWaitS.l4_s laws_eqWaitS_e
theorem eqChan_ok : EqOk (.pair (.int .i64) (.pair .bool (.pair (.row (.int .i64)) (.pair (.row (.pair (.int .i64) (.pair (.int .i64) (.pair (.int .i64) (.pair (.int .i64) .unit))))) (.pair (.row (.pair (.int .i64) (.pair (.int .i64) (.pair (.int .i64) (.pair (.int .i64) .unit))))) .unit))))) laws_eqChan := fun (a1 : Int × Bool × (List Int) × (List (Int × Int × Int × Int × Unit)) × (List (Int × Int × Int × Int × Unit)) × Unit) (hx : FitT (.pair (.int .i64) (.pair .bool (.pair (.row (.int .i64)) (.pair (.row (.pair (.int .i64) (.pair (.int .i64) (.pair (.int .i64) (.pair (.int .i64) .unit))))) (.pair (.row (.pair (.int .i64) (.pair (.int .i64) (.pair (.int .i64) (.pair (.int .i64) .unit))))) .unit))))) a1) => EqE.eq (fun k => laws_eqChan_e k a1 a1) (EqE.word (by simp) (EqE.word (by simp) (EqE.call (eqIntS_ok a1.2.2.1 hx.2.2.1) (EqE.call (eqWaitS_ok a1.2.2.2.1 hx.2.2.2.1) (EqE.call (eqWaitS_ok a1.2.2.2.2.1 hx.2.2.2.2.1) (EqE.done))))))
theorem eqChanS_ok : EqOk (.row (.pair (.int .i64) (.pair .bool (.pair (.row (.int .i64)) (.pair (.row (.pair (.int .i64) (.pair (.int .i64) (.pair (.int .i64) (.pair (.int .i64) .unit))))) (.pair (.row (.pair (.int .i64) (.pair (.int .i64) (.pair (.int .i64) (.pair (.int .i64) .unit))))) .unit)))))) laws_eqChanS := eq_row (α := (Int × Bool × (List Int) × (List (Int × Int × Int × Int × Unit)) × (List (Int × Int × Int × Int × Unit)) × Unit)) (F := FitT (.pair (.int .i64) (.pair .bool (.pair (.row (.int .i64)) (.pair (.row (.pair (.int .i64) (.pair (.int .i64) (.pair (.int .i64) (.pair (.int .i64) .unit))))) (.pair (.row (.pair (.int .i64) (.pair (.int .i64) (.pair (.int .i64) (.pair (.int .i64) .unit))))) .unit)))))) (d := (Ty.dflt (.pair (.int .i64) (.pair .bool (.pair (.row (.int .i64)) (.pair (.row (.pair (.int .i64) (.pair (.int .i64) (.pair (.int .i64) (.pair (.int .i64) .unit))))) (.pair (.row (.pair (.int .i64) (.pair (.int .i64) (.pair (.int .i64) (.pair (.int .i64) .unit))))) .unit))))))) (S := laws_eqChanS) (L := laws_eqChanS.l4) (f := laws_eqChan) eqChan_ok laws_eqChanS.l4_s laws_eqChanS_e
theorem eqWorld_ok : EqOk (.pair (.row (.pair .str (.pair (.int .i64) (.pair (.int .i64) (.pair (.row (.pair (.int .i64) (.pair (.int .i64) (.pair (.int .i64) (.pair (.int .i64) (.pair (.int .i64) (.pair .str (.pair (.row (.int .i64)) .unit)))))))) .unit))))) (.pair (.row (.pair (.row (.pair (.int .i64) (.pair (.int .i64) (.pair (.row (.int .i64)) (.pair (.int .i64) .unit))))) (.pair .bool (.pair .bool (.pair (.int .i64) (.pair (.int .i64) (.pair (.int .i64) (.pair (.int .i64) (.pair (.int .i64) .unit))))))))) (.pair (.row (.pair (.int .i64) (.pair .bool (.pair (.row (.int .i64)) (.pair (.row (.pair (.int .i64) (.pair (.int .i64) (.pair (.int .i64) (.pair (.int .i64) .unit))))) (.pair (.row (.pair (.int .i64) (.pair (.int .i64) (.pair (.int .i64) (.pair (.int .i64) .unit))))) .unit)))))) (.pair (.row (.int .i64)) (.pair .bool (.pair (.int .i64) .unit)))))) laws_eqWorld := fun (a1 : (List (ByteArray × Int × Int × (List (Int × Int × Int × Int × Int × ByteArray × (List Int) × Unit)) × Unit)) × (List ((List (Int × Int × (List Int) × Int × Unit)) × Bool × Bool × Int × Int × Int × Int × Int × Unit)) × (List (Int × Bool × (List Int) × (List (Int × Int × Int × Int × Unit)) × (List (Int × Int × Int × Int × Unit)) × Unit)) × (List Int) × Bool × Int × Unit) (hx : FitT (.pair (.row (.pair .str (.pair (.int .i64) (.pair (.int .i64) (.pair (.row (.pair (.int .i64) (.pair (.int .i64) (.pair (.int .i64) (.pair (.int .i64) (.pair (.int .i64) (.pair .str (.pair (.row (.int .i64)) .unit)))))))) .unit))))) (.pair (.row (.pair (.row (.pair (.int .i64) (.pair (.int .i64) (.pair (.row (.int .i64)) (.pair (.int .i64) .unit))))) (.pair .bool (.pair .bool (.pair (.int .i64) (.pair (.int .i64) (.pair (.int .i64) (.pair (.int .i64) (.pair (.int .i64) .unit))))))))) (.pair (.row (.pair (.int .i64) (.pair .bool (.pair (.row (.int .i64)) (.pair (.row (.pair (.int .i64) (.pair (.int .i64) (.pair (.int .i64) (.pair (.int .i64) .unit))))) (.pair (.row (.pair (.int .i64) (.pair (.int .i64) (.pair (.int .i64) (.pair (.int .i64) .unit))))) .unit)))))) (.pair (.row (.int .i64)) (.pair .bool (.pair (.int .i64) .unit)))))) a1) => EqE.eq (fun k => laws_eqWorld_e k a1 a1) (EqE.call (eqUnitS_ok a1.1 hx.1) (EqE.call (eqBodyS_ok a1.2.1 hx.2.1) (EqE.call (eqChanS_ok a1.2.2.1 hx.2.2.1) (EqE.call (eqIntS_ok a1.2.2.2.1 hx.2.2.2.1) (EqE.word (by simp) (EqE.word (by simp) (EqE.done)))))))
theorem markIntS_ok : MarkOk (FitT (.row (.int .i64))) laws_markIntS 1048576 := mark_row (α := Int) (d := 0) (F := FitT (.int .i64)) (B := 1) (L := laws_markIntS.l2) (by omega) (fun x hx => ((Ev.of fun _ => trivial)).mono fun q hq kk h0 hM n ys i i0 i1 hl hx' => by
  obtain ⟨_⟩ := hq
  refine ⟨kk + 1, ?_, by omega, by omega, ?_⟩
  rotate_left
  · rw [laws_markIntS.l2_s]
    simp (disch := omega) only [List.length_set, List.set_set, getD_set_same, iteB_pos, wrap_next, hx', bindO_some]
    first | exact rfl | (simp (disch := omega) only [bindO_some, wrap_next, List.length_set, List.set_set, getD_set_same, iteB_pos]; exact rfl)) (fun q n kk i ys h => by rw [laws_markIntS.l2_s, iteB_neg (by omega)]) (fun q xs kk => laws_markIntS_e q xs kk) (by omega)
theorem markTacS_ok : MarkOk (FitT (.row (.pair (.int .i64) (.pair (.int .i64) (.pair (.int .i64) (.pair (.int .i64) (.pair (.int .i64) (.pair .str (.pair (.row (.int .i64)) .unit))))))))) laws_markTacS 1099517919232 := mark_row (α := (Int × Int × Int × Int × Int × ByteArray × (List Int) × Unit)) (d := (Ty.dflt (.pair (.int .i64) (.pair (.int .i64) (.pair (.int .i64) (.pair (.int .i64) (.pair (.int .i64) (.pair .str (.pair (.row (.int .i64)) .unit))))))))) (F := FitT (.pair (.int .i64) (.pair (.int .i64) (.pair (.int .i64) (.pair (.int .i64) (.pair (.int .i64) (.pair .str (.pair (.row (.int .i64)) .unit)))))))) (B := 1048582) (L := laws_markTacS.l2) (by omega) (fun x hx => (((markText_ok).and (((markIntS_ok (x.2.2.2.2.2.2.1) hx.2.2.2.2.2.2.1)).and (Ev.of fun _ => trivial)))).mono fun q hq kk h0 hM n ys i i0 i1 hl hx' => by
  obtain ⟨t0, p1, _⟩ := hq
  obtain ⟨s1, w1⟩ := t0 (kk + 1 + 1 + 1 + 1 + 1) (by omega) (by omega)
  obtain ⟨r1, (z1 : List Int), e1, l1, u1⟩ := p1 (kk + 1 + 1 + 1 + 1 + 1 + 1) (by omega) (by omega)
  replace e1 : laws_markIntS q x.2.2.2.2.2.2.1 (kk + 1 + 1 + 1 + 1 + 1 + 1) = some (r1, z1) := e1
  refine ⟨r1, ?_, by omega, by omega, ?_⟩
  rotate_left
  · rw [laws_markTacS.l2_s]
    obtain ⟨dd, hdd⟩ : ∃ d : (Int × Int × Int × Int × Int × ByteArray × (List Int) × Unit), d = Ty.dflt (.pair (.int .i64) (.pair (.int .i64) (.pair (.int .i64) (.pair (.int .i64) (.pair (.int .i64) (.pair .str (.pair (.row (.int .i64)) .unit))))))) := ⟨_, rfl⟩
    rw [← hdd] at hx' ⊢
    simp (disch := omega) only [List.length_set, List.set_set, getD_set_same, iteB_pos, wrap_next, hx', bindO_some, w1, e1]
    first | exact rfl | (simp (disch := omega) only [bindO_some, wrap_next, List.length_set, List.set_set, getD_set_same, iteB_pos]; exact rfl)) (fun q n kk i ys h => by rw [laws_markTacS.l2_s, iteB_neg (by omega)]) (fun q xs kk => laws_markTacS_e q xs kk) (by omega)
theorem markUnitS_ok : MarkOk (FitT (.row (.pair .str (.pair (.int .i64) (.pair (.int .i64) (.pair (.row (.pair (.int .i64) (.pair (.int .i64) (.pair (.int .i64) (.pair (.int .i64) (.pair (.int .i64) (.pair .str (.pair (.row (.int .i64)) .unit)))))))) .unit)))))) laws_markUnitS 1152928101679759360 := mark_row (α := (ByteArray × Int × Int × (List (Int × Int × Int × Int × Int × ByteArray × (List Int) × Unit)) × Unit)) (d := (Ty.dflt (.pair .str (.pair (.int .i64) (.pair (.int .i64) (.pair (.row (.pair (.int .i64) (.pair (.int .i64) (.pair (.int .i64) (.pair (.int .i64) (.pair (.int .i64) (.pair .str (.pair (.row (.int .i64)) .unit)))))))) .unit)))))) (F := FitT (.pair .str (.pair (.int .i64) (.pair (.int .i64) (.pair (.row (.pair (.int .i64) (.pair (.int .i64) (.pair (.int .i64) (.pair (.int .i64) (.pair (.int .i64) (.pair .str (.pair (.row (.int .i64)) .unit)))))))) .unit))))) (B := 1099517919235) (L := laws_markUnitS.l2) (by omega) (fun x hx => (((markText_ok).and (((markTacS_ok (x.2.2.2.1) hx.2.2.2.1)).and (Ev.of fun _ => trivial)))).mono fun q hq kk h0 hM n ys i i0 i1 hl hx' => by
  obtain ⟨t0, p1, _⟩ := hq
  obtain ⟨s1, w1⟩ := t0 (kk) (by omega) (by omega)
  obtain ⟨r1, (z1 : List (Int × Int × Int × Int × Int × ByteArray × (List Int) × Unit)), e1, l1, u1⟩ := p1 (kk + 1 + 1 + 1) (by omega) (by omega)
  replace e1 : laws_markTacS q x.2.2.2.1 (kk + 1 + 1 + 1) = some (r1, z1) := e1
  refine ⟨r1, ?_, by omega, by omega, ?_⟩
  rotate_left
  · rw [laws_markUnitS.l2_s]
    obtain ⟨dd, hdd⟩ : ∃ d : (ByteArray × Int × Int × (List (Int × Int × Int × Int × Int × ByteArray × (List Int) × Unit)) × Unit), d = Ty.dflt (.pair .str (.pair (.int .i64) (.pair (.int .i64) (.pair (.row (.pair (.int .i64) (.pair (.int .i64) (.pair (.int .i64) (.pair (.int .i64) (.pair (.int .i64) (.pair .str (.pair (.row (.int .i64)) .unit)))))))) .unit)))) := ⟨_, rfl⟩
    rw [← hdd] at hx' ⊢
    simp (disch := omega) only [List.length_set, List.set_set, getD_set_same, iteB_pos, wrap_next, hx', bindO_some, w1, e1]
    first | exact rfl | (simp (disch := omega) only [bindO_some, wrap_next, List.length_set, List.set_set, getD_set_same, iteB_pos]; exact rfl)) (fun q n kk i ys h => by rw [laws_markUnitS.l2_s, iteB_neg (by omega)]) (fun q xs kk => laws_markUnitS_e q xs kk) (by omega)
theorem markFrameS_ok : MarkOk (FitT (.row (.pair (.int .i64) (.pair (.int .i64) (.pair (.row (.int .i64)) (.pair (.int .i64) .unit)))))) laws_markFrameS 1099514773504 := mark_row (α := (Int × Int × (List Int) × Int × Unit)) (d := (Ty.dflt (.pair (.int .i64) (.pair (.int .i64) (.pair (.row (.int .i64)) (.pair (.int .i64) .unit)))))) (F := FitT (.pair (.int .i64) (.pair (.int .i64) (.pair (.row (.int .i64)) (.pair (.int .i64) .unit))))) (B := 1048579) (L := laws_markFrameS.l2) (by omega) (fun x hx => ((((markIntS_ok (x.2.2.1) hx.2.2.1)).and (Ev.of fun _ => trivial))).mono fun q hq kk h0 hM n ys i i0 i1 hl hx' => by
  obtain ⟨p1, _⟩ := hq
  obtain ⟨r1, (z1 : List Int), e1, l1, u1⟩ := p1 (kk + 1 + 1) (by omega) (by omega)
  replace e1 : laws_markIntS q x.2.2.1 (kk + 1 + 1) = some (r1, z1) := e1
  refine ⟨r1 + 1, ?_, by omega, by omega, ?_⟩
  rotate_left
  · rw [laws_markFrameS.l2_s]
    obtain ⟨dd, hdd⟩ : ∃ d : (Int × Int × (List Int) × Int × Unit), d = Ty.dflt (.pair (.int .i64) (.pair (.int .i64) (.pair (.row (.int .i64)) (.pair (.int .i64) .unit)))) := ⟨_, rfl⟩
    rw [← hdd] at hx' ⊢
    simp (disch := omega) only [List.length_set, List.set_set, getD_set_same, iteB_pos, wrap_next, hx', bindO_some, e1]
    first | exact rfl | (simp (disch := omega) only [bindO_some, wrap_next, List.length_set, List.set_set, getD_set_same, iteB_pos]; exact rfl)) (fun q n kk i ys h => by rw [laws_markFrameS.l2_s, iteB_neg (by omega)]) (fun q xs kk => laws_markFrameS_e q xs kk) (by omega)
theorem markBodyS_ok : MarkOk (FitT (.row (.pair (.row (.pair (.int .i64) (.pair (.int .i64) (.pair (.row (.int .i64)) (.pair (.int .i64) .unit))))) (.pair .bool (.pair .bool (.pair (.int .i64) (.pair (.int .i64) (.pair (.int .i64) (.pair (.int .i64) (.pair (.int .i64) .unit)))))))))) laws_markBodyS 1152924803149070336 := mark_row (α := ((List (Int × Int × (List Int) × Int × Unit)) × Bool × Bool × Int × Int × Int × Int × Int × Unit)) (d := (Ty.dflt (.pair (.row (.pair (.int .i64) (.pair (.int .i64) (.pair (.row (.int .i64)) (.pair (.int .i64) .unit))))) (.pair .bool (.pair .bool (.pair (.int .i64) (.pair (.int .i64) (.pair (.int .i64) (.pair (.int .i64) (.pair (.int .i64) .unit)))))))))) (F := FitT (.pair (.row (.pair (.int .i64) (.pair (.int .i64) (.pair (.row (.int .i64)) (.pair (.int .i64) .unit))))) (.pair .bool (.pair .bool (.pair (.int .i64) (.pair (.int .i64) (.pair (.int .i64) (.pair (.int .i64) (.pair (.int .i64) .unit))))))))) (B := 1099514773511) (L := laws_markBodyS.l2) (by omega) (fun x hx => ((((markFrameS_ok (x.1) hx.1)).and (Ev.of fun _ => trivial))).mono fun q hq kk h0 hM n ys i i0 i1 hl hx' => by
  obtain ⟨p1, _⟩ := hq
  obtain ⟨r1, (z1 : List (Int × Int × (List Int) × Int × Unit)), e1, l1, u1⟩ := p1 (kk) (by omega) (by omega)
  replace e1 : laws_markFrameS q x.1 (kk) = some (r1, z1) := e1
  refine ⟨r1 + 1 + 1 + 1 + 1 + 1 + 1 + 1, ?_, by omega, by omega, ?_⟩
  rotate_left
  · rw [laws_markBodyS.l2_s]
    obtain ⟨dd, hdd⟩ : ∃ d : ((List (Int × Int × (List Int) × Int × Unit)) × Bool × Bool × Int × Int × Int × Int × Int × Unit), d = Ty.dflt (.pair (.row (.pair (.int .i64) (.pair (.int .i64) (.pair (.row (.int .i64)) (.pair (.int .i64) .unit))))) (.pair .bool (.pair .bool (.pair (.int .i64) (.pair (.int .i64) (.pair (.int .i64) (.pair (.int .i64) (.pair (.int .i64) .unit)))))))) := ⟨_, rfl⟩
    rw [← hdd] at hx' ⊢
    simp (disch := omega) only [List.length_set, List.set_set, getD_set_same, iteB_pos, wrap_next, hx', bindO_some, e1]
    first | exact rfl | (simp (disch := omega) only [bindO_some, wrap_next, List.length_set, List.set_set, getD_set_same, iteB_pos]; exact rfl)) (fun q n kk i ys h => by rw [laws_markBodyS.l2_s, iteB_neg (by omega)]) (fun q xs kk => laws_markBodyS_e q xs kk) (by omega)
theorem markWaitS_ok : MarkOk (FitT (.row (.pair (.int .i64) (.pair (.int .i64) (.pair (.int .i64) (.pair (.int .i64) .unit)))))) laws_markWaitS 4194304 := mark_row (α := (Int × Int × Int × Int × Unit)) (d := (Ty.dflt (.pair (.int .i64) (.pair (.int .i64) (.pair (.int .i64) (.pair (.int .i64) .unit)))))) (F := FitT (.pair (.int .i64) (.pair (.int .i64) (.pair (.int .i64) (.pair (.int .i64) .unit))))) (B := 4) (L := laws_markWaitS.l2) (by omega) (fun x hx => ((Ev.of fun _ => trivial)).mono fun q hq kk h0 hM n ys i i0 i1 hl hx' => by
  obtain ⟨_⟩ := hq
  refine ⟨kk + 1 + 1 + 1 + 1, ?_, by omega, by omega, ?_⟩
  rotate_left
  · rw [laws_markWaitS.l2_s]
    obtain ⟨dd, hdd⟩ : ∃ d : (Int × Int × Int × Int × Unit), d = Ty.dflt (.pair (.int .i64) (.pair (.int .i64) (.pair (.int .i64) (.pair (.int .i64) .unit)))) := ⟨_, rfl⟩
    rw [← hdd] at hx' ⊢
    simp (disch := omega) only [List.length_set, List.set_set, getD_set_same, iteB_pos, wrap_next, hx', bindO_some]
    first | exact rfl | (simp (disch := omega) only [bindO_some, wrap_next, List.length_set, List.set_set, getD_set_same, iteB_pos]; exact rfl)) (fun q n kk i ys h => by rw [laws_markWaitS.l2_s, iteB_neg (by omega)]) (fun q xs kk => laws_markWaitS_e q xs kk) (by omega)
theorem markChanS_ok : MarkOk (FitT (.row (.pair (.int .i64) (.pair .bool (.pair (.row (.int .i64)) (.pair (.row (.pair (.int .i64) (.pair (.int .i64) (.pair (.int .i64) (.pair (.int .i64) .unit))))) (.pair (.row (.pair (.int .i64) (.pair (.int .i64) (.pair (.int .i64) (.pair (.int .i64) .unit))))) .unit))))))) laws_markChanS 9895606747136 := mark_row (α := (Int × Bool × (List Int) × (List (Int × Int × Int × Int × Unit)) × (List (Int × Int × Int × Int × Unit)) × Unit)) (d := (Ty.dflt (.pair (.int .i64) (.pair .bool (.pair (.row (.int .i64)) (.pair (.row (.pair (.int .i64) (.pair (.int .i64) (.pair (.int .i64) (.pair (.int .i64) .unit))))) (.pair (.row (.pair (.int .i64) (.pair (.int .i64) (.pair (.int .i64) (.pair (.int .i64) .unit))))) .unit))))))) (F := FitT (.pair (.int .i64) (.pair .bool (.pair (.row (.int .i64)) (.pair (.row (.pair (.int .i64) (.pair (.int .i64) (.pair (.int .i64) (.pair (.int .i64) .unit))))) (.pair (.row (.pair (.int .i64) (.pair (.int .i64) (.pair (.int .i64) (.pair (.int .i64) .unit))))) .unit)))))) (B := 9437186) (L := laws_markChanS.l2) (by omega) (fun x hx => ((((markIntS_ok (x.2.2.1) hx.2.2.1)).and (((markWaitS_ok (x.2.2.2.1) hx.2.2.2.1)).and (((markWaitS_ok (x.2.2.2.2.1) hx.2.2.2.2.1)).and (Ev.of fun _ => trivial))))).mono fun q hq kk h0 hM n ys i i0 i1 hl hx' => by
  obtain ⟨p1, p2, p3, _⟩ := hq
  obtain ⟨r1, (z1 : List Int), e1, l1, u1⟩ := p1 (kk + 1 + 1) (by omega) (by omega)
  replace e1 : laws_markIntS q x.2.2.1 (kk + 1 + 1) = some (r1, z1) := e1
  obtain ⟨r2, (z2 : List (Int × Int × Int × Int × Unit)), e2, l2, u2⟩ := p2 (r1) (by omega) (by omega)
  replace e2 : laws_markWaitS q x.2.2.2.1 (r1) = some (r2, z2) := e2
  obtain ⟨r3, (z3 : List (Int × Int × Int × Int × Unit)), e3, l3, u3⟩ := p3 (r2) (by omega) (by omega)
  replace e3 : laws_markWaitS q x.2.2.2.2.1 (r2) = some (r3, z3) := e3
  refine ⟨r3, ?_, by omega, by omega, ?_⟩
  rotate_left
  · rw [laws_markChanS.l2_s]
    obtain ⟨dd, hdd⟩ : ∃ d : (Int × Bool × (List Int) × (List (Int × Int × Int × Int × Unit)) × (List (Int × Int × Int × Int × Unit)) × Unit), d = Ty.dflt (.pair (.int .i64) (.pair .bool (.pair (.row (.int .i64)) (.pair (.row (.pair (.int .i64) (.pair (.int .i64) (.pair (.int .i64) (.pair (.int .i64) .unit))))) (.pair (.row (.pair (.int .i64) (.pair (.int .i64) (.pair (.int .i64) (.pair (.int .i64) .unit))))) .unit))))) := ⟨_, rfl⟩
    rw [← hdd] at hx' ⊢
    simp (disch := omega) only [List.length_set, List.set_set, getD_set_same, iteB_pos, wrap_next, hx', bindO_some, e1, e2, e3]
    first | exact rfl | (simp (disch := omega) only [bindO_some, wrap_next, List.length_set, List.set_set, getD_set_same, iteB_pos]; exact rfl)) (fun q n kk i ys h => by rw [laws_markChanS.l2_s, iteB_neg (by omega)]) (fun q xs kk => laws_markChanS_e q xs kk) (by omega)

/-! A world's types. -/
theorem spec_in (k : Nat) (x lo hi : Int) : spec_l1In k x lo hi = some (decide (lo ≤ x ∧ x ≤ hi)) := by rw [spec_l1In_e, in_ge]
abbrev TW : Type := Int × Int × Int × Int × Unit
abbrev TC : Type := Int × Bool × (List Int) × (List TW) × (List TW) × Unit
abbrev TT : Type := Int × Int × Int × Int × Int × ByteArray × (List Int) × Unit
abbrev TU : Type := ByteArray × Int × Int × (List TT) × Unit
abbrev TF : Type := Int × Int × (List Int) × Int × Unit
abbrev TB : Type := (List TF) × Bool × Bool × Int × Int × Int × Int × Int × Unit
abbrev TWo : Type := (List TU) × (List TB) × (List TC) × (List Int) × Bool × Int × Unit
abbrev dB : TB := Ty.dflt (.pair (.row (.pair (.int .i64) (.pair (.int .i64) (.pair (.row (.int .i64)) (.pair (.int .i64) .unit))))) (.pair .bool (.pair .bool (.pair (.int .i64) (.pair (.int .i64) (.pair (.int .i64) (.pair (.int .i64) (.pair (.int .i64) .unit))))))))

/-! Marks on a row of words, and what is held of them. -/
def cntI : Int → Nat → List Int
  | _, 0 => []
  | k, n + 1 => k :: cntI (k + 1) n
theorem cntI_len : ∀ (k : Int) (n : Nat), (cntI k n).length = n
  | _, 0 => rfl
  | k, n + 1 => by simp [cntI, cntI_len (k + 1) n]
theorem mark_ints (xs : List Int) (hl : xs.length ≤ 1048576) : Ev fun q => laws_markIntS q xs 1 = some (1 + (xs.length : Int), cntI 1 xs.length) := by
  refine (Ev.gt xs.length).mono fun q hq => ?_
  have key : ∀ (m : Nat) (i kk : Int) (ys : List Int) (p : Nat), 0 ≤ i → (ys.length : Int) - i = m → m < p → ys.length ≤ 1048576 → 0 ≤ kk → kk ≤ 1048577 + i → laws_markIntS.l2 q p kk i ys = some (kk + m, ys.take i.toNat ++ cntI kk m) := by
    intro m
    induction m with
    | zero =>
      intro i kk ys p hi hm hp hl h0 h1
      obtain ⟨p, rfl⟩ : ∃ q, p = q + 1 := ⟨p - 1, by omega⟩
      rw [laws_markIntS.l2_s, iteB_neg (by omega), List.take_of_length_le (by omega)]
      simp [cntI]
    | succ m ih =>
      intro i kk ys p hi hm hp hl h0 h1
      obtain ⟨p, rfl⟩ : ∃ q, p = q + 1 := ⟨p - 1, by omega⟩
      have hlt : i < (ys.length : Int) := by omega
      have h3 : (i + 1).toNat = i.toNat + 1 := by omega
      rw [laws_markIntS.l2_s, iteB_pos hlt, iteB_pos hi, iteB_pos hlt, wrap_id (by omega) (by omega), wrap_id (by omega) (by omega), ih (i + 1) (kk + 1) (List.set ys i.toNat kk) p (by omega) (by simp; omega) (by omega) (by simpa using hl) (by omega) (by omega)]
      congr 2
      · omega
      · rw [h3, List.take_succ_eq_append_getElem (by simp; omega), List.append_assoc]
        have e1 : List.take i.toNat (ys.set i.toNat kk) = ys.take i.toNat := by rw [List.take_set, List.set_eq_of_length_le (by simp; omega)]
        rw [e1]
        congr 1
        simp [cntI]
  have := key xs.length 0 1 xs q (by omega) (by omega) hq hl (by omega) (by omega)
  rw [laws_markIntS_e, this]
  rfl
theorem held_ints (n : Nat) (hl : n ≤ 1048576) : Ev fun q => laws_heldIntS q (cntI 1 n) 1 = some (1 + (n : Int)) := by
  refine (Ev.gt n).mono fun q hq => ?_
  have key : ∀ (m : Nat) (i kk : Int) (ys : List Int) (p : Nat), 0 ≤ i → (ys.length : Int) - i = m → m < p → ys.length ≤ 1048576 → 0 ≤ kk → kk ≤ 1048577 + i → ys.drop i.toNat = cntI kk m → laws_heldIntS.l2 q p ys kk i = some (kk + m) := by
    intro m
    induction m with
    | zero =>
      intro i kk ys p hi hm hp hl h0 h1 _
      obtain ⟨p, rfl⟩ : ∃ q, p = q + 1 := ⟨p - 1, by omega⟩
      rw [laws_heldIntS.l2_s, iteB_neg (by omega)]
      simp
    | succ m ih =>
      intro i kk ys p hi hm hp hl h0 h1 hd
      obtain ⟨p, rfl⟩ : ∃ q, p = q + 1 := ⟨p - 1, by omega⟩
      have hlt : i < (ys.length : Int) := by omega
      have h3 := drop_at ys 0 i hi hlt
      rw [h3] at hd
      obtain ⟨e1, e2⟩ := List.cons.inj hd
      have e3 : (ys.getD i.toNat 0 != kk) = false := by rw [e1]; simp
      rw [laws_heldIntS.l2_s, iteB_pos hlt, iteB_pos hi, iteB_pos hlt, e3, iteB_false, wrap_id (by omega) (by omega), wrap_id (by omega) (by omega), ih (i + 1) (kk + 1) ys p (by omega) (by omega) (by omega) hl (by omega) (by omega) e2]
      congr 1; omega
  have hlen := cntI_len 1 n
  have := key n 0 1 (cntI 1 n) q (by omega) (by omega) hq (by omega) (by omega) (by omega) rfl
  rw [laws_heldIntS_e, this]

/-! Which of a row are so: the places. -/
def pickI {α : Type} (p : α → Bool) : List α → Int → List Int
  | [], _ => []
  | b :: r, i => bif p b then i :: pickI p r (i + 1) else pickI p r (i + 1)
theorem gather {α : Type} (xs : List α) (d : α) {p : α → Bool} {A : Nat → Int → Option (List Int)} {B : Nat → Int → List Int → Option (List Int)}
    (hA : ∀ n i, 0 ≤ i → i < (xs.length : Int) → A (n + 1) i = bif p (xs.getD i.toNat d) then B n (i + 1) ([] ++ [i]) else A n (i + 1))
    (hA0 : ∀ n i, (xs.length : Int) ≤ i → A (n + 1) i = some [])
    (hB : ∀ n i s, 0 ≤ i → i < (xs.length : Int) → (s.length : Int) ≤ i → B (n + 1) i s = bif p (xs.getD i.toNat d) then B n (i + 1) (s ++ [i]) else B n (i + 1) s)
    (hB0 : ∀ n i s, (xs.length : Int) ≤ i → B (n + 1) i s = some s) (n : Nat) (hn : xs.length < n) : A n 0 = some (pickI p xs 0) := by
  have keyB : ∀ (m : Nat) (i : Int) (s : List Int) (q : Nat), 0 ≤ i → (xs.length : Int) - i = m → m < q → (s.length : Int) ≤ i → B q i s = some (s ++ pickI p (xs.drop i.toNat) i) := by
    intro m
    induction m with
    | zero =>
      intro i s q hi hm hq hs
      obtain ⟨q, rfl⟩ : ∃ p, q = p + 1 := ⟨q - 1, by omega⟩
      rw [hB0 q i s (by omega), List.drop_eq_nil_of_le (by omega)]; simp [pickI]
    | succ m ih =>
      intro i s q hi hm hq hs
      obtain ⟨q, rfl⟩ : ∃ p, q = p + 1 := ⟨q - 1, by omega⟩
      have hlt : i < (xs.length : Int) := by omega
      rw [hB q i s hi hlt hs, drop_at xs d i hi hlt]
      unfold pickI
      cases p (xs.getD i.toNat d)
      · exact ih (i + 1) s q (by omega) (by omega) (by omega) (by omega)
      · have := ih (i + 1) (s ++ [i]) q (by omega) (by omega) (by omega) (by simp; omega)
        rw [List.append_assoc] at this
        exact this
  have keyA : ∀ (m : Nat) (i : Int) (q : Nat), 0 ≤ i → (xs.length : Int) - i = m → m < q → A q i = some (pickI p (xs.drop i.toNat) i) := by
    intro m
    induction m with
    | zero =>
      intro i q hi hm hq
      obtain ⟨q, rfl⟩ : ∃ p, q = p + 1 := ⟨q - 1, by omega⟩
      rw [hA0 q i (by omega), List.drop_eq_nil_of_le (by omega)]; simp [pickI]
    | succ m ih =>
      intro i q hi hm hq
      obtain ⟨q, rfl⟩ : ∃ p, q = p + 1 := ⟨q - 1, by omega⟩
      have hlt : i < (xs.length : Int) := by omega
      rw [hA q i hi hlt, drop_at xs d i hi hlt]
      unfold pickI
      cases hp : p (xs.getD i.toNat d)
      · exact ih (i + 1) q (by omega) (by omega) (by omega)
      · exact keyB m (i + 1) ([] ++ [i]) q (by omega) (by omega) (by omega) (by simp; omega)
  exact keyA xs.length 0 n (by omega) (by omega) hn
theorem pickI_len {α : Type} (p : α → Bool) : ∀ (xs : List α) (i : Int), (pickI p xs i).length ≤ xs.length
  | [], _ => by simp [pickI]
  | x :: r, i => by
    unfold pickI
    have := pickI_len p r (i + 1)
    cases p x
    · show (pickI p r (i + 1)).length ≤ _; simp; omega
    · show (i :: pickI p r (i + 1)).length ≤ _; simp; omega
/-! Which bodies of a world are open. -/
def opn (o : Bool) (b : TB) : Bool := !o && (!b.2.1 && !b.2.2.1)
theorem spec_opn (k : Nat) (x : TWo) (hl : x.2.1.length ≤ 1048576) (i : Int) (h0 : 0 ≤ i) (h1 : i < (x.2.1.length : Int)) : spec_l13Open k x i = some (opn x.2.2.2.2.1 (x.2.1.getD i.toNat dB)) := by
  rw [spec_l13Open_e, spec_in, bindO_some, wrap_id (by omega) (by omega), iteB_pos h0, iteB_pos h1]
  have : decide (0 ≤ i ∧ i ≤ (x.2.1.length : Int) - 1) = true := by simp; omega
  rw [this, iteB_true, iteB_pos h0, iteB_pos h1]
  unfold opn
  generalize hb : x.2.1.getD i.toNat dB = b
  cases x.2.2.2.2.1 <;> cases b.2.1 <;> rfl
theorem spec_open (x : TWo) (hl : x.2.1.length ≤ 1048576) : Ev fun k => spec_Open k x = some (pickI (opn x.2.2.2.2.1) x.2.1 0) := by
  refine (Ev.gt x.2.1.length).mono fun k hk => ?_
  rw [spec_Open_e]
  refine gather x.2.1 dB (A := fun n i => spec_Open.l3 k n i x) (B := fun n i s => spec_Open.l3b k n i x s) (fun n i h0 h1 => ?_) (fun n i h => ?_) (fun n i s h0 h1 hs => ?_) (fun n i s h => ?_) k hk
  · show spec_Open.l3 k (n + 1) i x = _
    rw [spec_Open.l3_s, iteB_pos h1, spec_opn k x hl i h0 h1, bindO_some, next_i h0 h1 (by omega), iteB_pos (show List.length ([] ++ [i]) * 8 ≤ lim by unfold lim; simp)]
    cases opn x.2.2.2.2.1 (x.2.1.getD i.toNat dB) <;> rfl
  · show spec_Open.l3 k (n + 1) i x = _
    rw [spec_Open.l3_s, iteB_neg (by omega)]
  · show spec_Open.l3b k (n + 1) i x s = _
    rw [spec_Open.l3b_s, iteB_pos h1, spec_opn k x hl i h0 h1, bindO_some, next_i h0 h1 (by omega), iteB_pos (show List.length (s ++ [i]) * 8 ≤ lim by unfold lim; simp; omega)]
    cases opn x.2.2.2.2.1 (x.2.1.getD i.toNat dB) <;> rfl
  · show spec_Open.l3b k (n + 1) i x s = _
    rw [spec_Open.l3b_s, iteB_neg (by omega)]
theorem impl_open (x : TWo) (hl : x.2.1.length ≤ 1048576) : Ev fun k => impl_Open k x = some (pickI (opn x.2.2.2.2.1) x.2.1 0) := by
  refine (Ev.gt x.2.1.length).mono fun k hk => ?_
  rw [impl_Open_e]
  refine gather x.2.1 dB (A := fun n i => impl_Open.l3 k n x.2.1 (x.2.1.length : Int) i x) (B := fun n i s => impl_Open.l3b k n x.2.1 (x.2.1.length : Int) i x s) (fun n i h0 h1 => ?_) (fun n i h => ?_) (fun n i s h0 h1 hs => ?_) (fun n i s h => ?_) k hk
  · show impl_Open.l3 k (n + 1) x.2.1 (x.2.1.length : Int) i x = _
    rw [impl_Open.l3_s, iteB_pos h1, iteB_pos h0, iteB_pos h1, next_i h0 h1 (by omega), iteB_pos (show List.length ([] ++ [i]) * 8 ≤ lim by unfold lim; simp)]
    unfold opn
    generalize hb : x.2.1.getD i.toNat dB = b
    cases x.2.2.2.2.1 <;> cases b.2.1 <;> cases b.2.2.1 <;> rfl
  · show impl_Open.l3 k (n + 1) x.2.1 (x.2.1.length : Int) i x = _
    rw [impl_Open.l3_s, iteB_neg (by omega)]
  · show impl_Open.l3b k (n + 1) x.2.1 (x.2.1.length : Int) i x s = _
    rw [impl_Open.l3b_s, iteB_pos h1, iteB_pos h0, iteB_pos h1, next_i h0 h1 (by omega), iteB_pos (show List.length (s ++ [i]) * 8 ≤ lim by unfold lim; simp; omega)]
    unfold opn
    generalize hb : x.2.1.getD i.toNat dB = b
    cases x.2.2.2.2.1 <;> cases b.2.1 <;> cases b.2.2.1 <;> rfl
  · show impl_Open.l3b k (n + 1) x.2.1 (x.2.1.length : Int) i x s = _
    rw [impl_Open.l3b_s, iteB_neg (by omega)]

theorem FnExactOpen : ∀ (x0 : TWo), WfT (.pair (.row (.pair .str (.pair (.int .i64) (.pair (.int .i64) (.pair (.row (.pair (.int .i64) (.pair (.int .i64) (.pair (.int .i64) (.pair (.int .i64) (.pair (.int .i64) (.pair .str (.pair (.row (.int .i64)) .unit)))))))) .unit))))) (.pair (.row (.pair (.row (.pair (.int .i64) (.pair (.int .i64) (.pair (.row (.int .i64)) (.pair (.int .i64) .unit))))) (.pair .bool (.pair .bool (.pair (.int .i64) (.pair (.int .i64) (.pair (.int .i64) (.pair (.int .i64) (.pair (.int .i64) .unit))))))))) (.pair (.row (.pair (.int .i64) (.pair .bool (.pair (.row (.int .i64)) (.pair (.row (.pair (.int .i64) (.pair (.int .i64) (.pair (.int .i64) (.pair (.int .i64) .unit))))) (.pair (.row (.pair (.int .i64) (.pair (.int .i64) (.pair (.int .i64) (.pair (.int .i64) .unit))))) .unit)))))) (.pair (.row (.int .i64)) (.pair .bool (.pair (.int .i64) .unit)))))) x0 → ∃ k, laws_FnExactOpen k x0 = some true := by
  intro x hx
  refine Ev.get ?_
  obtain ⟨r, ev, le, fit⟩ := szWorld_ok x hx 1048576 (by omega) (by omega)
  by_cases c : r < 0
  · exact ev.mono fun k h => by
      replace h : laws_szWorld k x 1048576 = some r := h
      rw [laws_FnExactOpen_e, h, bindO_some, iteB_pos c]
  · have hf := fit (by omega)
    generalize ho : pickI (opn x.2.2.2.2.1) x.2.1 0 = o
    have hbl : x.2.1.length ≤ 1048576 := hf.2.1.1
    have hol : o.length ≤ 1048576 := by rw [← ho]; exact Nat.le_trans (pickI_len _ _ _) hbl
    have hofit : FitT (.row (.int .i64)) o := ⟨hol, fun _ _ => trivial⟩
    refine ((ev.and (toWorld_ok x hf)).and ((spec_open x hbl).and (impl_open x hbl))).two ((((eqIntS_ok o hofit).and (eqWorld_ok x hf)).and ((mark_ints o hol).and (held_ints o.length hol))).and (((markUnitS_ok x.1 hf.1).and (markBodyS_ok x.2.1 hf.2.1)).and (((markChanS_ok x.2.2.1 hf.2.2.1).and (markIntS_ok x.2.2.2.1 hf.2.2.2.1)).and (Ev.gt 0)))) fun k h1 h2 => ?_
    obtain ⟨⟨a1, a2⟩, a3, a4⟩ := h1
    obtain ⟨⟨⟨a5, a6⟩, a7, a8⟩, ⟨b1, b2⟩, ⟨b3, b4⟩, b5⟩ := h2
    rw [ho] at a3 a4
    replace a1 : laws_szWorld k x 1048576 = some r := a1
    replace a2 : laws_toWorld k x = some x := a2
    replace a3 : spec_Open k (x.1, x.2.1, x.2.2.1, x.2.2.2.1, x.2.2.2.2.1, x.2.2.2.2.2.1, ()) = some o := a3
    replace a4 : impl_Open k (x.1, x.2.1, x.2.2.1, x.2.2.2.1, x.2.2.2.2.1, x.2.2.2.2.2.1, ()) = some o := a4
    replace a5 : laws_eqIntS k o o = some true := a5
    replace a6 : laws_eqWorld k (x.1, x.2.1, x.2.2.1, x.2.2.2.1, x.2.2.2.2.1, x.2.2.2.2.2.1, ()) (x.1, x.2.1, x.2.2.1, x.2.2.2.1, x.2.2.2.2.1, x.2.2.2.2.2.1, ()) = some true := a6
    obtain ⟨r1, (z1 : List TU), e1, g1, u1⟩ := b1 1 (by omega) (by omega)
    obtain ⟨r2, (z2 : List TB), e2, g2, u2⟩ := b2 r1 (by omega) (by omega)
    obtain ⟨r3, (z3 : List TC), e3, g3, u3⟩ := b3 r2 (by omega) (by omega)
    obtain ⟨r4, (z4 : List Int), e4, g4, u4⟩ := b4 r3 (by omega) (by omega)
    replace e1 : laws_markUnitS k x.1 1 = some (r1, z1) := e1
    replace e2 : laws_markBodyS k x.2.1 r1 = some (r2, z2) := e2
    replace e3 : laws_markChanS k x.2.2.1 r2 = some (r3, z3) := e3
    replace e4 : laws_markIntS k x.2.2.2.1 r3 = some (r4, z4) := e4
    have n1 : decide (r4 < 0) = false := decide_eq_false (by omega)
    have n2 : decide (1 + (o.length : Int) < 0) = false := decide_eq_false (by omega)
    have n3 : ((1 + (o.length : Int)) != (1 + (o.length : Int))) = false := by simp
    have j : laws_FnExactOpen.j16 k x o o = some true := by
      rw [laws_FnExactOpen.j16_e]
      simp only [a7, a8, a2, a4, a5, bindO_some, n2, n3, iteB_false, Bool.not_true]
    rw [laws_FnExactOpen_e]
    simp only [a1, bindO_some, iteB_neg c, a2, a3, a4, a5, a6, e1, e2, e3, e4, n1, Bool.not_true, Bool.not_false, iteB_false, iteB_true, gate_pos b5, j]

end Go.Proofs.Ytampamlgkfhliaa.Pure
