/- What the functions that FnExactNext runs come to, and that the law's own run comes to true. -/
import Derived.Test.YtampamlgkfhliaaAC
import Derived.Test.YtampamlgkfhliaaAMFnExactNext0
import Derived.Test.YtampamlgkfhliaaAMFnExactNext1
import Derived.Test.YtampamlgkfhliaaAMFnExactNext2
namespace Go.Proofs.Ytampamlgkfhliaa.Pure
open Go Go.AM Go.AMx Go.Proofs.Ytampamlgkfhliaa.XFnExactNext
set_option linter.unusedVariables false
set_option linter.unusedSimpArgs false
/-! The text of a mark. -/
theorem marks_l4 (k : Nat) : ∀ (m n : Nat) (x : Int) (t : ByteArray), 0 ≤ x → x ≤ 9223372036854775807 → x < 10 ^ m → m < n → t.size + m ≤ 1000 → ∃ u, laws_markText.l4 k n x t = some u
  | 0, n, x, t, h0, hb0, h1, h2, h3 => by
    obtain ⟨n, rfl⟩ : ∃ p, n = p + 1 := ⟨n - 1, by omega⟩
    have hx : x = 0 := by simp at h1; omega
    have hs : ByteArray.size (⟨#[109]⟩ : ByteArray) = 1 := rfl
    rw [laws_markText.l4_s, iteB_neg (by omega), hs, iteB_pos (by omega)]
    exact ⟨_, rfl⟩
  | m + 1, n, x, t, h0, hb0, h1, h2, h3 => by
    obtain ⟨n, rfl⟩ : ∃ p, n = p + 1 := ⟨n - 1, by omega⟩
    have hs : ByteArray.size (⟨#[109]⟩ : ByteArray) = 1 := rfl
    by_cases hx : x > 0
    · have hb : ∀ y : Int, ByteArray.size (bytesVal [y]) = 1 := fun y => rfl
      have hd : Int.tdiv x 10 = x / 10 := Int.tdiv_eq_ediv_of_nonneg h0
      rw [Int.pow_succ] at h1
      have hlt : x / 10 < 10 ^ m := by generalize (10 : Int) ^ m = P at h1; omega
      rw [laws_markText.l4_s, iteB_pos hx, hb, iteB_pos (by omega), hd, wrap_id (by omega) (by omega)]
      exact marks_l4 k m n (x / 10) _ (by omega) (by omega) hlt (by omega) (by rw [ByteArray.size_append, hb]; omega)
    · rw [laws_markText.l4_s, iteB_neg hx, hs, iteB_pos (by omega)]
      exact ⟨_, rfl⟩
theorem markText_ok : TextOk laws_markText := (Ev.gt 30).mono fun q hq kk h0 hM => by
  rw [laws_markText_e]
  by_cases h : kk ≤ 0
  · rw [iteB_pos h]; exact ⟨_, rfl⟩
  · rw [iteB_neg h]; exact marks_l4 q 20 q kk _ h0 (by omega) (by omega) (by omega) (by show 0 + 20 ≤ 1000; omega)

theorem szIntS_ok : SzOk (.row (.int .i64)) laws_szIntS := sz_flat (e := (.int .i64)) (fun _ => trivial) laws_szIntS_e
theorem szTac_ok : SzOk (.pair (.int .i64) (.pair (.int .i64) (.pair (.int .i64) (.pair (.int .i64) (.pair (.int .i64) (.pair .str (.pair (.row (.int .i64)) .unit))))))) laws_szTac := fun (a1 : Int × Int × Int × Int × Int × ByteArray × (List Int) × Unit) (hx : WfT (.pair (.int .i64) (.pair (.int .i64) (.pair (.int .i64) (.pair (.int .i64) (.pair (.int .i64) (.pair .str (.pair (.row (.int .i64)) .unit))))))) a1) a2 h0 h1 => ((SzE.sub (n := ByteArray.size a1.2.2.2.2.2.1) (G := fun k r => bindO (laws_szIntS k a1.2.2.2.2.2.2.1 (r)) fun r1 => (iteB (decide (r1 < 0)) (some (-1)) (some r1))) h0 h1 hx.2.2.2.2.2.1 fun r0_ p0_ q0_ => SzE.call p0_ (szIntS_ok a1.2.2.2.2.2.2.1 hx.2.2.2.2.2.2.1 _ p0_ (by omega)) fun r1 p1_ q1_ => SzE.done (Int.le_refl _)).to fun h => ⟨trivial, trivial, trivial, trivial, trivial, h.1, h.2.1, trivial⟩).eq fun k => laws_szTac_e k a1 a2
theorem szTacS_ok : SzOk (.row (.pair (.int .i64) (.pair (.int .i64) (.pair (.int .i64) (.pair (.int .i64) (.pair (.int .i64) (.pair .str (.pair (.row (.int .i64)) .unit)))))))) laws_szTacS := sz_row (α := (Int × Int × Int × Int × Int × ByteArray × (List Int) × Unit)) (W := WfT (.pair (.int .i64) (.pair (.int .i64) (.pair (.int .i64) (.pair (.int .i64) (.pair (.int .i64) (.pair .str (.pair (.row (.int .i64)) .unit)))))))) (F := FitT (.pair (.int .i64) (.pair (.int .i64) (.pair (.int .i64) (.pair (.int .i64) (.pair (.int .i64) (.pair .str (.pair (.row (.int .i64)) .unit)))))))) (d := (Ty.dflt (.pair (.int .i64) (.pair (.int .i64) (.pair (.int .i64) (.pair (.int .i64) (.pair (.int .i64) (.pair .str (.pair (.row (.int .i64)) .unit))))))))) (S := laws_szTacS) (L := laws_szTacS.l5) (f := laws_szTac) szTac_ok laws_szTacS.l5_s laws_szTacS_e
theorem szUnit_ok : SzOk (.pair .str (.pair (.int .i64) (.pair (.int .i64) (.pair (.row (.pair (.int .i64) (.pair (.int .i64) (.pair (.int .i64) (.pair (.int .i64) (.pair (.int .i64) (.pair .str (.pair (.row (.int .i64)) .unit)))))))) .unit)))) laws_szUnit := fun (a1 : ByteArray × Int × Int × (List (Int × Int × Int × Int × Int × ByteArray × (List Int) × Unit)) × Unit) (hx : WfT (.pair .str (.pair (.int .i64) (.pair (.int .i64) (.pair (.row (.pair (.int .i64) (.pair (.int .i64) (.pair (.int .i64) (.pair (.int .i64) (.pair (.int .i64) (.pair .str (.pair (.row (.int .i64)) .unit)))))))) .unit)))) a1) a2 h0 h1 => ((SzE.sub (n := ByteArray.size a1.1) (G := fun k r => bindO (laws_szTacS k a1.2.2.2.1 (r)) fun r1 => (iteB (decide (r1 < 0)) (some (-1)) (some r1))) h0 h1 hx.1 fun r0_ p0_ q0_ => SzE.call p0_ (szTacS_ok a1.2.2.2.1 hx.2.2.2.1 _ p0_ (by omega)) fun r1 p1_ q1_ => SzE.done (Int.le_refl _)).to fun h => ⟨h.1, trivial, trivial, h.2.1, trivial⟩).eq fun k => laws_szUnit_e k a1 a2
theorem toIntS_ok : ToOk (.row (.int .i64)) laws_toIntS := to_words (α := Int) (c := 8) (F := FitT (.int .i64)) (d := 0) (d' := 0) (S := laws_toIntS) (L := laws_toIntS.l3) laws_toIntS.l3_s laws_toIntS_e (by decide)
theorem toTac_ok : ToOk (.pair (.int .i64) (.pair (.int .i64) (.pair (.int .i64) (.pair (.int .i64) (.pair (.int .i64) (.pair .str (.pair (.row (.int .i64)) .unit))))))) laws_toTac := fun (a1 : Int × Int × Int × Int × Int × ByteArray × (List Int) × Unit) (hx : FitT (.pair (.int .i64) (.pair (.int .i64) (.pair (.int .i64) (.pair (.int .i64) (.pair (.int .i64) (.pair .str (.pair (.row (.int .i64)) .unit))))))) a1) => (show Ev fun k => (bindO (laws_toIntS k a1.2.2.2.2.2.2.1) fun r1 => (some (a1.1, a1.2.1, a1.2.2.1, a1.2.2.2.1, a1.2.2.2.2.1, a1.2.2.2.2.2.1, r1, ()))) = some a1 from To.call (toIntS_ok a1.2.2.2.2.2.2.1 hx.2.2.2.2.2.2.1) (Ev.of fun _ => rfl)).mono fun k h => (laws_toTac_e k a1).trans h
theorem toTacS_ok : ToOk (.row (.pair (.int .i64) (.pair (.int .i64) (.pair (.int .i64) (.pair (.int .i64) (.pair (.int .i64) (.pair .str (.pair (.row (.int .i64)) .unit)))))))) laws_toTacS := to_row (α := (Int × Int × Int × Int × Int × ByteArray × (List Int) × Unit)) (c := 80) (F := FitT (.pair (.int .i64) (.pair (.int .i64) (.pair (.int .i64) (.pair (.int .i64) (.pair (.int .i64) (.pair .str (.pair (.row (.int .i64)) .unit)))))))) (d := (Ty.dflt (.pair (.int .i64) (.pair (.int .i64) (.pair (.int .i64) (.pair (.int .i64) (.pair (.int .i64) (.pair .str (.pair (.row (.int .i64)) .unit))))))))) (d' := (Ty.dflt (.pair (.int .i64) (.pair (.int .i64) (.pair (.int .i64) (.pair (.int .i64) (.pair (.int .i64) (.pair .str (.pair (.row (.int .i64)) .unit))))))))) (S := laws_toTacS) (L := laws_toTacS.l3) (f := laws_toTac) toTac_ok laws_toTacS.l3_s laws_toTacS_e (by decide)
theorem toUnit_ok : ToOk (.pair .str (.pair (.int .i64) (.pair (.int .i64) (.pair (.row (.pair (.int .i64) (.pair (.int .i64) (.pair (.int .i64) (.pair (.int .i64) (.pair (.int .i64) (.pair .str (.pair (.row (.int .i64)) .unit)))))))) .unit)))) laws_toUnit := fun (a1 : ByteArray × Int × Int × (List (Int × Int × Int × Int × Int × ByteArray × (List Int) × Unit)) × Unit) (hx : FitT (.pair .str (.pair (.int .i64) (.pair (.int .i64) (.pair (.row (.pair (.int .i64) (.pair (.int .i64) (.pair (.int .i64) (.pair (.int .i64) (.pair (.int .i64) (.pair .str (.pair (.row (.int .i64)) .unit)))))))) .unit)))) a1) => (show Ev fun k => (bindO (laws_toTacS k a1.2.2.2.1) fun r1 => (some (a1.1, a1.2.1, a1.2.2.1, r1, ()))) = some a1 from To.call (toTacS_ok a1.2.2.2.1 hx.2.2.2.1) (Ev.of fun _ => rfl)).mono fun k h => (laws_toUnit_e k a1).trans h
theorem eqIntS_ok : EqOk (.row (.int .i64)) laws_eqIntS := eq_words (α := Int) (F := FitT (.int .i64)) (d := 0) (S := laws_eqIntS) (L := laws_eqIntS.l4) (p := (fun x y => x != y)) (fun x => by simp) laws_eqIntS.l4_s laws_eqIntS_e
theorem eqTac_ok : EqOk (.pair (.int .i64) (.pair (.int .i64) (.pair (.int .i64) (.pair (.int .i64) (.pair (.int .i64) (.pair .str (.pair (.row (.int .i64)) .unit))))))) laws_eqTac := fun (a1 : Int × Int × Int × Int × Int × ByteArray × (List Int) × Unit) (hx : FitT (.pair (.int .i64) (.pair (.int .i64) (.pair (.int .i64) (.pair (.int .i64) (.pair (.int .i64) (.pair .str (.pair (.row (.int .i64)) .unit))))))) a1) => EqE.eq (fun k => laws_eqTac_e k a1 a1) (EqE.word (by simp) (EqE.word (by simp) (EqE.word (by simp) (EqE.word (by simp) (EqE.word (by simp) (EqE.word (by simp) (EqE.call (eqIntS_ok a1.2.2.2.2.2.2.1 hx.2.2.2.2.2.2.1) (EqE.done))))))))
theorem eqTacS_ok : EqOk (.row (.pair (.int .i64) (.pair (.int .i64) (.pair (.int .i64) (.pair (.int .i64) (.pair (.int .i64) (.pair .str (.pair (.row (.int .i64)) .unit)))))))) laws_eqTacS := eq_row (α := (Int × Int × Int × Int × Int × ByteArray × (List Int) × Unit)) (F := FitT (.pair (.int .i64) (.pair (.int .i64) (.pair (.int .i64) (.pair (.int .i64) (.pair (.int .i64) (.pair .str (.pair (.row (.int .i64)) .unit)))))))) (d := (Ty.dflt (.pair (.int .i64) (.pair (.int .i64) (.pair (.int .i64) (.pair (.int .i64) (.pair (.int .i64) (.pair .str (.pair (.row (.int .i64)) .unit))))))))) (S := laws_eqTacS) (L := laws_eqTacS.l4) (f := laws_eqTac) eqTac_ok laws_eqTacS.l4_s laws_eqTacS_e
theorem eqUnit_ok : EqOk (.pair .str (.pair (.int .i64) (.pair (.int .i64) (.pair (.row (.pair (.int .i64) (.pair (.int .i64) (.pair (.int .i64) (.pair (.int .i64) (.pair (.int .i64) (.pair .str (.pair (.row (.int .i64)) .unit)))))))) .unit)))) laws_eqUnit := fun (a1 : ByteArray × Int × Int × (List (Int × Int × Int × Int × Int × ByteArray × (List Int) × Unit)) × Unit) (hx : FitT (.pair .str (.pair (.int .i64) (.pair (.int .i64) (.pair (.row (.pair (.int .i64) (.pair (.int .i64) (.pair (.int .i64) (.pair (.int .i64) (.pair (.int .i64) (.pair .str (.pair (.row (.int .i64)) .unit)))))))) .unit)))) a1) => EqE.eq (fun k => laws_eqUnit_e k a1 a1) (EqE.word (by simp) (EqE.word (by simp) (EqE.word (by simp) (EqE.call (eqTacS_ok a1.2.2.2.1 hx.2.2.2.1) (EqE.done)))))
theorem markIntS_ok : MarkOk (FitT (.row (.int .i64))) laws_markIntS 1048576 := mark_row (α := Int) (d := 0) (F := FitT (.int .i64)) (B := 1) (L := laws_markIntS.l2) (by omega) (fun x hx => ((Ev.of fun _ => trivial)).mono fun q hq kk h0 hM n ys i i0 i1 hl hx' => by
  obtain ⟨_⟩ := hq
  refine ⟨kk + 1, ?_, by omega, by omega, ?_⟩
  rotate_left
  · rw [laws_markIntS.l2_s]
    simp (disch := omega) only [List.length_set, List.set_set, getD_set_same, iteB_pos, wrap_next, hx', bindO_some]
    first | exact rfl | (simp (disch := omega) only [bindO_some, wrap_next, List.length_set, List.set_set, getD_set_same, iteB_pos]; exact rfl)) (fun q n kk i ys h => by rw [laws_markIntS.l2_s, iteB_neg (by omega)]) (fun q xs kk => laws_markIntS_e q xs kk) (by omega)
theorem markTacS_ok : MarkOk (FitT (.row (.pair (.int .i64) (.pair (.int .i64) (.pair (.int .i64) (.pair (.int .i64) (.pair (.int .i64) (.pair .str (.pair (.row (.int .i64)) .unit))))))))) laws_markTacS 1099517919232 := mark_row (α := (Int × Int × Int × Int × Int × ByteArray × (List Int) × Unit)) (d := (Ty.dflt (.pair (.int .i64) (.pair (.int .i64) (.pair (.int .i64) (.pair (.int .i64) (.pair (.int .i64) (.pair .str (.pair (.row (.int .i64)) .unit))))))))) (F := FitT (.pair (.int .i64) (.pair (.int .i64) (.pair (.int .i64) (.pair (.int .i64) (.pair (.int .i64) (.pair .str (.pair (.row (.int .i64)) .unit)))))))) (B := 1048582) (L := laws_markTacS.l2) (by omega) (fun x hx => (((markText_ok).and (((markIntS_ok (x.2.2.2.2.2.2.1) hx.2.2.2.2.2.2.1)).and (Ev.of fun _ => trivial)))).mono fun q hq kk h0 hM n ys i i0 i1 hl hx' => by
  obtain ⟨t0, p1, _⟩ := hq
  obtain ⟨s1, w1⟩ := t0 (kk + 1 + 1 + 1 + 1 + 1) (by omega) (by omega)
  obtain ⟨r1, (z1 : List Int), e1, l1, u1⟩ := p1 (kk + 1 + 1 + 1 + 1 + 1 + 1) (by omega) (by omega)
  replace e1 : laws_markIntS q x.2.2.2.2.2.2.1 (kk + 1 + 1 + 1 + 1 + 1 + 1) = some (r1, z1) := e1
  refine ⟨r1, ?_, by omega, by omega, ?_⟩
  rotate_left
  · rw [laws_markTacS.l2_s]
    obtain ⟨dd, hdd⟩ : ∃ d : (Int × Int × Int × Int × Int × ByteArray × (List Int) × Unit), d = Ty.dflt (.pair (.int .i64) (.pair (.int .i64) (.pair (.int .i64) (.pair (.int .i64) (.pair (.int .i64) (.pair .str (.pair (.row (.int .i64)) .unit))))))) := ⟨_, rfl⟩
    rw [← hdd] at hx' ⊢
    simp (disch := omega) only [List.length_set, List.set_set, getD_set_same, iteB_pos, wrap_next, hx', bindO_some, w1, e1]
    first | exact rfl | (simp (disch := omega) only [bindO_some, wrap_next, List.length_set, List.set_set, getD_set_same, iteB_pos]; exact rfl)) (fun q n kk i ys h => by rw [laws_markTacS.l2_s, iteB_neg (by omega)]) (fun q xs kk => laws_markTacS_e q xs kk) (by omega)

/-! Ops of places. -/
def wok (x : Int) : Bool := decide (-2147483648 ≤ x ∧ x ≤ 2147483647)
theorem spec_in (k : Nat) (x lo hi : Int) : spec_l1In k x lo hi = some (decide (lo ≤ x ∧ x ≤ hi)) := by rw [spec_l1In_e, in_ge]
theorem impl_in (k : Nat) (x lo hi : Int) : impl_within k x lo hi = some (decide (lo ≤ x ∧ x ≤ hi)) := by rw [impl_within_e, in_ge]
theorem spec_wok (k : Nat) (x : Int) : spec_WordOk k x = some (wok x) := by rw [spec_WordOk_e, spec_in, bindO_some]; rfl
theorem impl_wok (k : Nat) (x : Int) : impl_WordOk k x = some (wok x) := by rw [impl_WordOk_e, impl_in, bindO_some]; rfl
def bit (h b : Int) : Bool := (IntKind.wrap .i64 ((BitVec.ofInt (IntKind.bits .i64) h &&& BitVec.ofInt (IntKind.bits .i64) b).toNat : Int)) != 0
def hasT (op : Int) : Int := if 1 ≤ op ∧ op ≤ 28 then List.getD [0, 9, 3, 7, 7, 7, 7, 7, 8, 8, 10, 49, 2, 2, 48, 3, 6, 3, 2, 45, 3, 6, 39, 1, 17, 2, 6, 6, 2] op.toNat 0 else 0
theorem spec_has (k : Nat) (op : Int) : spec_l10Has k op = some (hasT op) := by
  rw [spec_l10Has_e, spec_in, bindO_some]
  unfold hasT
  by_cases h : 1 ≤ op ∧ op ≤ 28
  · rw [decide_eq_true h, Bool.not_true, iteB_false, iteB_pos (by omega), iteB_pos (by simp; omega), if_pos h]
  · rw [decide_eq_false h, Bool.not_false, iteB_true, if_neg h]
theorem contains_byte (l : List Int) (hl : l.length ≤ 1048576) (c : Int) : Ev fun k => slices_Contains_byte k l c = some (l.any fun y => c == y) := by
  refine contains_of (α := Int) (d := 0) (C := fun _ y => some (c == y)) (I := fun k xs => slices_Index_byte k xs c) (L := fun k n xs m i => slices_Index_byte.l2 k n xs c m i) (S := fun k xs => slices_Contains_byte k xs c) (fun k n xs m i => ?_) (fun k xs => slices_Index_byte_e k xs c) (fun k xs => slices_Contains_byte_e k xs c) l hl fun x _ => Ev.of fun _ => rfl
  exact slices_Index_byte.l2_s k n xs c m i
/-- The letters of an op, and what they say. -/
structure Letters (op : Int) (B : ByteArray) : Prop where
  is : ∀ k, impl_owns k op = some B
  len : (valBytes B).length ≤ 1048576
  d : (valBytes B).any (fun y => 68 == y) = bit (hasT op) 1
  a : (valBytes B).any (fun y => 65 == y) = bit (hasT op) 2
  b : (valBytes B).any (fun y => 66 == y) = bit (hasT op) 4
  n : (valBytes B).any (fun y => 78 == y) = bit (hasT op) 8
  s : (valBytes B).any (fun y => 83 == y) = bit (hasT op) 16
  x : (valBytes B).any (fun y => 88 == y) = bit (hasT op) 32
  some : (!(ByteArray.toList B == ByteArray.toList (⟨#[]⟩ : ByteArray))) = decide (1 ≤ op ∧ op ≤ 28)
theorem letters_1 : Letters 1 (⟨#[68, 78]⟩ : ByteArray) := ⟨fun k => by rw [impl_owns_e]; rfl, by decide, by kernel_rfl, by kernel_rfl, by kernel_rfl, by kernel_rfl, by kernel_rfl, by kernel_rfl, by kernel_rfl⟩
theorem letters_2 : Letters 2 (⟨#[68, 65]⟩ : ByteArray) := ⟨fun k => by rw [impl_owns_e]; rfl, by decide, by kernel_rfl, by kernel_rfl, by kernel_rfl, by kernel_rfl, by kernel_rfl, by kernel_rfl, by kernel_rfl⟩
theorem letters_3 : Letters 3 (⟨#[68, 65, 66]⟩ : ByteArray) := ⟨fun k => by rw [impl_owns_e]; rfl, by decide, by kernel_rfl, by kernel_rfl, by kernel_rfl, by kernel_rfl, by kernel_rfl, by kernel_rfl, by kernel_rfl⟩
theorem letters_4 : Letters 4 (⟨#[68, 65, 66]⟩ : ByteArray) := ⟨fun k => by rw [impl_owns_e]; rfl, by decide, by kernel_rfl, by kernel_rfl, by kernel_rfl, by kernel_rfl, by kernel_rfl, by kernel_rfl, by kernel_rfl⟩
theorem letters_5 : Letters 5 (⟨#[68, 65, 66]⟩ : ByteArray) := ⟨fun k => by rw [impl_owns_e]; rfl, by decide, by kernel_rfl, by kernel_rfl, by kernel_rfl, by kernel_rfl, by kernel_rfl, by kernel_rfl, by kernel_rfl⟩
theorem letters_6 : Letters 6 (⟨#[68, 65, 66]⟩ : ByteArray) := ⟨fun k => by rw [impl_owns_e]; rfl, by decide, by kernel_rfl, by kernel_rfl, by kernel_rfl, by kernel_rfl, by kernel_rfl, by kernel_rfl, by kernel_rfl⟩
theorem letters_7 : Letters 7 (⟨#[68, 65, 66]⟩ : ByteArray) := ⟨fun k => by rw [impl_owns_e]; rfl, by decide, by kernel_rfl, by kernel_rfl, by kernel_rfl, by kernel_rfl, by kernel_rfl, by kernel_rfl, by kernel_rfl⟩
theorem letters_8 : Letters 8 (⟨#[78]⟩ : ByteArray) := ⟨fun k => by rw [impl_owns_e]; rfl, by decide, by kernel_rfl, by kernel_rfl, by kernel_rfl, by kernel_rfl, by kernel_rfl, by kernel_rfl, by kernel_rfl⟩
theorem letters_9 : Letters 9 (⟨#[78]⟩ : ByteArray) := ⟨fun k => by rw [impl_owns_e]; rfl, by decide, by kernel_rfl, by kernel_rfl, by kernel_rfl, by kernel_rfl, by kernel_rfl, by kernel_rfl, by kernel_rfl⟩
theorem letters_10 : Letters 10 (⟨#[65, 78]⟩ : ByteArray) := ⟨fun k => by rw [impl_owns_e]; rfl, by decide, by kernel_rfl, by kernel_rfl, by kernel_rfl, by kernel_rfl, by kernel_rfl, by kernel_rfl, by kernel_rfl⟩
theorem letters_11 : Letters 11 (⟨#[68, 83, 88]⟩ : ByteArray) := ⟨fun k => by rw [impl_owns_e]; rfl, by decide, by kernel_rfl, by kernel_rfl, by kernel_rfl, by kernel_rfl, by kernel_rfl, by kernel_rfl, by kernel_rfl⟩
theorem letters_12 : Letters 12 (⟨#[65]⟩ : ByteArray) := ⟨fun k => by rw [impl_owns_e]; rfl, by decide, by kernel_rfl, by kernel_rfl, by kernel_rfl, by kernel_rfl, by kernel_rfl, by kernel_rfl, by kernel_rfl⟩
theorem letters_13 : Letters 13 (⟨#[65]⟩ : ByteArray) := ⟨fun k => by rw [impl_owns_e]; rfl, by decide, by kernel_rfl, by kernel_rfl, by kernel_rfl, by kernel_rfl, by kernel_rfl, by kernel_rfl, by kernel_rfl⟩
theorem letters_14 : Letters 14 (⟨#[83, 88]⟩ : ByteArray) := ⟨fun k => by rw [impl_owns_e]; rfl, by decide, by kernel_rfl, by kernel_rfl, by kernel_rfl, by kernel_rfl, by kernel_rfl, by kernel_rfl, by kernel_rfl⟩
theorem letters_15 : Letters 15 (⟨#[68, 65]⟩ : ByteArray) := ⟨fun k => by rw [impl_owns_e]; rfl, by decide, by kernel_rfl, by kernel_rfl, by kernel_rfl, by kernel_rfl, by kernel_rfl, by kernel_rfl, by kernel_rfl⟩
theorem letters_16 : Letters 16 (⟨#[65, 66]⟩ : ByteArray) := ⟨fun k => by rw [impl_owns_e]; rfl, by decide, by kernel_rfl, by kernel_rfl, by kernel_rfl, by kernel_rfl, by kernel_rfl, by kernel_rfl, by kernel_rfl⟩
theorem letters_17 : Letters 17 (⟨#[68, 65]⟩ : ByteArray) := ⟨fun k => by rw [impl_owns_e]; rfl, by decide, by kernel_rfl, by kernel_rfl, by kernel_rfl, by kernel_rfl, by kernel_rfl, by kernel_rfl, by kernel_rfl⟩
theorem letters_18 : Letters 18 (⟨#[65]⟩ : ByteArray) := ⟨fun k => by rw [impl_owns_e]; rfl, by decide, by kernel_rfl, by kernel_rfl, by kernel_rfl, by kernel_rfl, by kernel_rfl, by kernel_rfl, by kernel_rfl⟩
theorem letters_19 : Letters 19 (⟨#[68, 66, 78, 88]⟩ : ByteArray) := ⟨fun k => by rw [impl_owns_e]; rfl, by decide, by kernel_rfl, by kernel_rfl, by kernel_rfl, by kernel_rfl, by kernel_rfl, by kernel_rfl, by kernel_rfl⟩
theorem letters_20 : Letters 20 (⟨#[68, 65]⟩ : ByteArray) := ⟨fun k => by rw [impl_owns_e]; rfl, by decide, by kernel_rfl, by kernel_rfl, by kernel_rfl, by kernel_rfl, by kernel_rfl, by kernel_rfl, by kernel_rfl⟩
theorem letters_21 : Letters 21 (⟨#[65, 66]⟩ : ByteArray) := ⟨fun k => by rw [impl_owns_e]; rfl, by decide, by kernel_rfl, by kernel_rfl, by kernel_rfl, by kernel_rfl, by kernel_rfl, by kernel_rfl, by kernel_rfl⟩
theorem letters_22 : Letters 22 (⟨#[68, 65, 66, 88]⟩ : ByteArray) := ⟨fun k => by rw [impl_owns_e]; rfl, by decide, by kernel_rfl, by kernel_rfl, by kernel_rfl, by kernel_rfl, by kernel_rfl, by kernel_rfl, by kernel_rfl⟩
theorem letters_23 : Letters 23 (⟨#[68]⟩ : ByteArray) := ⟨fun k => by rw [impl_owns_e]; rfl, by decide, by kernel_rfl, by kernel_rfl, by kernel_rfl, by kernel_rfl, by kernel_rfl, by kernel_rfl, by kernel_rfl⟩
theorem letters_24 : Letters 24 (⟨#[68, 83]⟩ : ByteArray) := ⟨fun k => by rw [impl_owns_e]; rfl, by decide, by kernel_rfl, by kernel_rfl, by kernel_rfl, by kernel_rfl, by kernel_rfl, by kernel_rfl, by kernel_rfl⟩
theorem letters_25 : Letters 25 (⟨#[65]⟩ : ByteArray) := ⟨fun k => by rw [impl_owns_e]; rfl, by decide, by kernel_rfl, by kernel_rfl, by kernel_rfl, by kernel_rfl, by kernel_rfl, by kernel_rfl, by kernel_rfl⟩
theorem letters_26 : Letters 26 (⟨#[65, 66]⟩ : ByteArray) := ⟨fun k => by rw [impl_owns_e]; rfl, by decide, by kernel_rfl, by kernel_rfl, by kernel_rfl, by kernel_rfl, by kernel_rfl, by kernel_rfl, by kernel_rfl⟩
theorem letters_27 : Letters 27 (⟨#[65, 66]⟩ : ByteArray) := ⟨fun k => by rw [impl_owns_e]; rfl, by decide, by kernel_rfl, by kernel_rfl, by kernel_rfl, by kernel_rfl, by kernel_rfl, by kernel_rfl, by kernel_rfl⟩
theorem letters_28 : Letters 28 (⟨#[65]⟩ : ByteArray) := ⟨fun k => by rw [impl_owns_e]; rfl, by decide, by kernel_rfl, by kernel_rfl, by kernel_rfl, by kernel_rfl, by kernel_rfl, by kernel_rfl, by kernel_rfl⟩
theorem letters_no (op : Int) (h : op < 1 ∨ 28 < op) : Letters op (⟨#[]⟩ : ByteArray) := by
  have ne : ∀ c : Int, 1 ≤ c → c ≤ 28 → (op == c) = false := fun c h1 h2 => by simp; omega
  have h0 : hasT op = 0 := by unfold hasT; rw [if_neg (by omega)]
  refine ⟨fun k => ?_, by decide, ?_, ?_, ?_, ?_, ?_, ?_, ?_⟩
  · rw [impl_owns_e]
    simp only [ne 1 (by omega) (by omega), ne 2 (by omega) (by omega), ne 3 (by omega) (by omega), ne 4 (by omega) (by omega), ne 5 (by omega) (by omega), ne 6 (by omega) (by omega), ne 7 (by omega) (by omega), ne 8 (by omega) (by omega), ne 9 (by omega) (by omega), ne 10 (by omega) (by omega), ne 11 (by omega) (by omega), ne 12 (by omega) (by omega), ne 13 (by omega) (by omega), ne 14 (by omega) (by omega), ne 15 (by omega) (by omega), ne 16 (by omega) (by omega), ne 17 (by omega) (by omega), ne 18 (by omega) (by omega), ne 19 (by omega) (by omega), ne 20 (by omega) (by omega), ne 21 (by omega) (by omega), ne 22 (by omega) (by omega), ne 23 (by omega) (by omega), ne 24 (by omega) (by omega), ne 25 (by omega) (by omega), ne 26 (by omega) (by omega), ne 27 (by omega) (by omega), ne 28 (by omega) (by omega), iteB_false]
  all_goals first | (rw [h0]; kernel_rfl) | skip
  rw [decide_eq_false (by omega)]; kernel_rfl
theorem letters (op : Int) : ∃ B, Letters op B := by
  have h : op = 1 ∨ op = 2 ∨ op = 3 ∨ op = 4 ∨ op = 5 ∨ op = 6 ∨ op = 7 ∨ op = 8 ∨ op = 9 ∨ op = 10 ∨ op = 11 ∨ op = 12 ∨ op = 13 ∨ op = 14 ∨ op = 15 ∨ op = 16 ∨ op = 17 ∨ op = 18 ∨ op = 19 ∨ op = 20 ∨ op = 21 ∨ op = 22 ∨ op = 23 ∨ op = 24 ∨ op = 25 ∨ op = 26 ∨ op = 27 ∨ op = 28 ∨ (op < 1 ∨ 28 < op) := by omega
  rcases h with h | h | h | h | h | h | h | h | h | h | h | h | h | h | h | h | h | h | h | h | h | h | h | h | h | h | h | h | h
  · subst h; exact ⟨_, letters_1⟩
  · subst h; exact ⟨_, letters_2⟩
  · subst h; exact ⟨_, letters_3⟩
  · subst h; exact ⟨_, letters_4⟩
  · subst h; exact ⟨_, letters_5⟩
  · subst h; exact ⟨_, letters_6⟩
  · subst h; exact ⟨_, letters_7⟩
  · subst h; exact ⟨_, letters_8⟩
  · subst h; exact ⟨_, letters_9⟩
  · subst h; exact ⟨_, letters_10⟩
  · subst h; exact ⟨_, letters_11⟩
  · subst h; exact ⟨_, letters_12⟩
  · subst h; exact ⟨_, letters_13⟩
  · subst h; exact ⟨_, letters_14⟩
  · subst h; exact ⟨_, letters_15⟩
  · subst h; exact ⟨_, letters_16⟩
  · subst h; exact ⟨_, letters_17⟩
  · subst h; exact ⟨_, letters_18⟩
  · subst h; exact ⟨_, letters_19⟩
  · subst h; exact ⟨_, letters_20⟩
  · subst h; exact ⟨_, letters_21⟩
  · subst h; exact ⟨_, letters_22⟩
  · subst h; exact ⟨_, letters_23⟩
  · subst h; exact ⟨_, letters_24⟩
  · subst h; exact ⟨_, letters_25⟩
  · subst h; exact ⟨_, letters_26⟩
  · subst h; exact ⟨_, letters_27⟩
  · subst h; exact ⟨_, letters_28⟩
  · exact ⟨_, letters_no op h⟩
theorem owned_of {op : Int} {B : ByteArray} (h : Letters op B) (c : Int) : Ev fun k => impl_owned k op c = some ((valBytes B).any fun y => c == y) :=
  (contains_byte _ h.len c).mono fun k hk => by rw [impl_owned_e, h.is, bindO_some, hk, bindO_some]
theorem own_d (op : Int) : Ev fun k => impl_owned k op 68 = some (bit (hasT op) 1) := by obtain ⟨B, h⟩ := letters op; have := owned_of h 68; rwa [h.d] at this
theorem own_a (op : Int) : Ev fun k => impl_owned k op 65 = some (bit (hasT op) 2) := by obtain ⟨B, h⟩ := letters op; have := owned_of h 65; rwa [h.a] at this
theorem own_b (op : Int) : Ev fun k => impl_owned k op 66 = some (bit (hasT op) 4) := by obtain ⟨B, h⟩ := letters op; have := owned_of h 66; rwa [h.b] at this
theorem own_n (op : Int) : Ev fun k => impl_owned k op 78 = some (bit (hasT op) 8) := by obtain ⟨B, h⟩ := letters op; have := owned_of h 78; rwa [h.n] at this
theorem own_s (op : Int) : Ev fun k => impl_owned k op 83 = some (bit (hasT op) 16) := by obtain ⟨B, h⟩ := letters op; have := owned_of h 83; rwa [h.s] at this
theorem own_x (op : Int) : Ev fun k => impl_owned k op 88 = some (bit (hasT op) 32) := by obtain ⟨B, h⟩ := letters op; have := owned_of h 88; rwa [h.x] at this
theorem bz_1 : bit 0 1 = false := by kernel_rfl
theorem bz_2 : bit 0 2 = false := by kernel_rfl
theorem bz_4 : bit 0 4 = false := by kernel_rfl
theorem bz_8 : bit 0 8 = false := by kernel_rfl
theorem bz_16 : bit 0 16 = false := by kernel_rfl
theorem bz_32 : bit 0 32 = false := by kernel_rfl
theorem xn_1 : bit (hasT 1) 32 = false := by kernel_rfl
theorem xn_2 : bit (hasT 2) 32 = false := by kernel_rfl
theorem xn_3 : bit (hasT 3) 32 = false := by kernel_rfl
theorem xn_4 : bit (hasT 4) 32 = false := by kernel_rfl
theorem xn_5 : bit (hasT 5) 32 = false := by kernel_rfl
theorem xn_6 : bit (hasT 6) 32 = false := by kernel_rfl
theorem xn_7 : bit (hasT 7) 32 = false := by kernel_rfl
theorem xn_8 : bit (hasT 8) 32 = false := by kernel_rfl
theorem xn_9 : bit (hasT 9) 32 = false := by kernel_rfl
theorem xn_10 : bit (hasT 10) 32 = false := by kernel_rfl
theorem xn_12 : bit (hasT 12) 32 = false := by kernel_rfl
theorem xn_13 : bit (hasT 13) 32 = false := by kernel_rfl
theorem xn_15 : bit (hasT 15) 32 = false := by kernel_rfl
theorem xn_16 : bit (hasT 16) 32 = false := by kernel_rfl
theorem xn_17 : bit (hasT 17) 32 = false := by kernel_rfl
theorem xn_18 : bit (hasT 18) 32 = false := by kernel_rfl
theorem xn_20 : bit (hasT 20) 32 = false := by kernel_rfl
theorem xn_21 : bit (hasT 21) 32 = false := by kernel_rfl
theorem xn_23 : bit (hasT 23) 32 = false := by kernel_rfl
theorem xn_24 : bit (hasT 24) 32 = false := by kernel_rfl
theorem xn_25 : bit (hasT 25) 32 = false := by kernel_rfl
theorem xn_26 : bit (hasT 26) 32 = false := by kernel_rfl
theorem xn_27 : bit (hasT 27) 32 = false := by kernel_rfl
theorem xn_28 : bit (hasT 28) 32 = false := by kernel_rfl
/-- What is so of an op that is none, or not a select. -/
theorem bits_no (op : Int) (h : op < 1 ∨ 28 < op) (b : Int) (hb : b = 1 ∨ b = 2 ∨ b = 4 ∨ b = 8 ∨ b = 16 ∨ b = 32) : bit (hasT op) b = false := by
  have h0 : hasT op = 0 := by unfold hasT; rw [if_neg (by omega)]
  rw [h0]
  rcases hb with rfl | rfl | rfl | rfl | rfl | rfl
  · exact bz_1
  · exact bz_2
  · exact bz_4
  · exact bz_8
  · exact bz_16
  · exact bz_32
theorem sel_1 : bit (hasT 19) 1 = true := by kernel_rfl
theorem sel_2 : bit (hasT 19) 2 = false := by kernel_rfl
theorem sel_4 : bit (hasT 19) 4 = true := by kernel_rfl
theorem sel_8 : bit (hasT 19) 8 = true := by kernel_rfl
theorem sel_16 : bit (hasT 19) 16 = false := by kernel_rfl
theorem sel_32 : bit (hasT 19) 32 = true := by kernel_rfl
theorem args_x (op : Int) (h : op ≠ 19) (h2 : op ≠ 22) (h3 : op ≠ 11) (h4 : op ≠ 14) : bit (hasT op) 32 = false := by
  have h : op = 1 ∨ op = 2 ∨ op = 3 ∨ op = 4 ∨ op = 5 ∨ op = 6 ∨ op = 7 ∨ op = 8 ∨ op = 9 ∨ op = 10 ∨ op = 12 ∨ op = 13 ∨ op = 15 ∨ op = 16 ∨ op = 17 ∨ op = 18 ∨ op = 20 ∨ op = 21 ∨ op = 23 ∨ op = 24 ∨ op = 25 ∨ op = 26 ∨ op = 27 ∨ op = 28 ∨ (op < 1 ∨ 28 < op) := by omega
  rcases h with h | h | h | h | h | h | h | h | h | h | h | h | h | h | h | h | h | h | h | h | h | h | h | h | h
  · subst h; exact xn_1
  · subst h; exact xn_2
  · subst h; exact xn_3
  · subst h; exact xn_4
  · subst h; exact xn_5
  · subst h; exact xn_6
  · subst h; exact xn_7
  · subst h; exact xn_8
  · subst h; exact xn_9
  · subst h; exact xn_10
  · subst h; exact xn_12
  · subst h; exact xn_13
  · subst h; exact xn_15
  · subst h; exact xn_16
  · subst h; exact xn_17
  · subst h; exact xn_18
  · subst h; exact xn_20
  · subst h; exact xn_21
  · subst h; exact xn_23
  · subst h; exact xn_24
  · subst h; exact xn_25
  · subst h; exact xn_26
  · subst h; exact xn_27
  · subst h; exact xn_28
  · exact bits_no op h 32 (by simp)
theorem x_22 : bit (hasT 22) 32 = true := by kernel_rfl
theorem x_11 : bit (hasT 11) 32 = true := by kernel_rfl
theorem x_14 : bit (hasT 14) 32 = true := by kernel_rfl

/-! Args. -/
abbrev TT : Type := Int × Int × Int × Int × Int × ByteArray × (List Int) × Unit
abbrev TT.args (x : TT) : List Int := x.2.2.2.2.2.2.1
theorem iteB_same {α : Type} (b : Bool) (x : α) : iteB b x x = x := by cases b <;> rfl
def trip (a c : Int) : Bool := decide (1 ≤ a ∧ a ≤ 2) && !(a == 1 && c != 0)
def selOk : List Int → Bool
  | [a, _, c] => trip a c
  | [a, _, c, d, _, f] => trip a c && trip d f
  | [a, _, c, d, _, f, g, _, i] => trip a c && (trip d f && trip g i)
  | _ => false
theorem selOk_len {l : List Int} (h : l.length ≠ 3) (h2 : l.length ≠ 6) (h3 : l.length ≠ 9) : selOk l = false := by
  unfold selOk
  split <;> simp at h h2 h3 ⊢
theorem len3 {l : List Int} (h : l.length = 3) : ∃ a b c, l = [a, b, c] := by
  match l, h with
  | [a, b, c], _ => exact ⟨a, b, c, rfl⟩
theorem len6 {l : List Int} (h : l.length = 6) : ∃ a b c d e f, l = [a, b, c, d, e, f] := by
  match l, h with
  | [a, b, c, d, e, f], _ => exact ⟨a, b, c, d, e, f, rfl⟩
theorem len9 {l : List Int} (h : l.length = 9) : ∃ a b c d e f g i j, l = [a, b, c, d, e, f, g, i, j] := by
  match l, h with
  | [a, b, c, d, e, f, g, i, j], _ => exact ⟨a, b, c, d, e, f, g, i, j, rfl⟩
/-- One round of the reference's. -/
theorem spec_round (k n : Nat) (x : TT) (i : Int) (h0 : 0 ≤ i) (h1 : i + 2 < (x.args.length : Int)) (hl : x.args.length ≤ 1048576) :
    spec_l10Args.l5 k (n + 1) (x.args.length : Int) i x = iteB (trip (x.args.getD i.toNat 0) (x.args.getD (i + 2).toNat 0)) (spec_l10Args.l5 k n (x.args.length : Int) (i + 3) x) (some false) := by
  have w2 : IntKind.wrap .i64 (i + 2) = i + 2 := wrap_id (by omega) (by omega)
  have w3 : IntKind.wrap .i64 (i + 3) = i + 3 := wrap_id (by omega) (by omega)
  rw [spec_l10Args.l5_s, iteB_pos (show i < (x.args.length : Int) by omega), iteB_pos h0, iteB_pos (show i < (x.args.length : Int) by omega), spec_in, bindO_some, w2, iteB_pos h1, iteB_pos h0, iteB_pos (show i < (x.args.length : Int) by omega), iteB_pos (show 0 ≤ i + 2 by omega), iteB_pos h1, w3, Bool.not_not]
  unfold trip
  generalize decide (1 ≤ List.getD x.2.2.2.2.2.2.1 i.toNat 0 ∧ List.getD x.2.2.2.2.2.2.1 i.toNat 0 ≤ 2) = A
  generalize (List.getD x.2.2.2.2.2.2.1 i.toNat 0 == 1) = B
  generalize (List.getD x.2.2.2.2.2.2.1 (i + 2).toNat 0 != 0) = C
  cases A <;> cases B <;> cases C <;> rfl
theorem impl_round (k n : Nat) (x : TT) (i : Int) (h0 : 0 ≤ i) (h1 : i + 2 < (x.args.length : Int)) (hl : x.args.length ≤ 1048576) :
    impl_argsOk.l3 k (n + 1) i x = iteB (trip (x.args.getD i.toNat 0) (x.args.getD (i + 2).toNat 0)) (impl_argsOk.l3 k n (i + 3) x) (some false) := by
  have w2 : IntKind.wrap .i64 (i + 2) = i + 2 := wrap_id (by omega) (by omega)
  have w3 : IntKind.wrap .i64 (i + 3) = i + 3 := wrap_id (by omega) (by omega)
  rw [impl_argsOk.l3_s, w2, iteB_pos h1, iteB_pos h0, iteB_pos (show i < (x.args.length : Int) by omega), impl_in, bindO_some, iteB_pos h0, iteB_pos (show i < (x.args.length : Int) by omega), iteB_pos (show 0 ≤ i + 2 by omega), iteB_pos h1, w3, Bool.not_not]
  unfold trip
  generalize decide (1 ≤ List.getD x.2.2.2.2.2.2.1 i.toNat 0 ∧ List.getD x.2.2.2.2.2.2.1 i.toNat 0 ≤ 2) = A
  generalize (List.getD x.2.2.2.2.2.2.1 i.toNat 0 == 1) = B
  generalize (List.getD x.2.2.2.2.2.2.1 (i + 2).toNat 0 != 0) = C
  cases A <;> cases B <;> cases C <;> rfl
/-- The reference's end, and what comes of other lengths. -/
theorem spec_end (k n : Nat) (x : TT) (i : Int) (h : (x.args.length : Int) ≤ i) : spec_l10Args.l5 k (n + 1) (x.args.length : Int) i x = some (((x.args.length : Int) == 3) || (((x.args.length : Int) == 6) || ((x.args.length : Int) == 9))) := by
  rw [spec_l10Args.l5_s, iteB_neg (by omega)]
  cases ((x.args.length : Int) == 3) <;> cases ((x.args.length : Int) == 6) <;> rfl
theorem spec_other (x : TT) (hl : x.args.length ≤ 1048576) (h3 : x.args.length ≠ 3) (h6 : x.args.length ≠ 6) (h9 : x.args.length ≠ 9) (k : Nat) : ∀ (m : Nat) (i : Int) (q : Nat), 0 ≤ i → (x.args.length : Int) - i ≤ m → m < q → spec_l10Args.l5 k q (x.args.length : Int) i x = some false := by
  have he : (((x.args.length : Int) == 3) || (((x.args.length : Int) == 6) || ((x.args.length : Int) == 9))) = false := by
    have a : ((x.args.length : Int) == 3) = false := by simp; omega
    have b : ((x.args.length : Int) == 6) = false := by simp; omega
    have c : ((x.args.length : Int) == 9) = false := by simp; omega
    rw [a, b, c]; rfl
  intro m
  induction m with
  | zero =>
    intro i q h0 hm hq
    obtain ⟨q, rfl⟩ : ∃ p, q = p + 1 := ⟨q - 1, by omega⟩
    rw [spec_end k q x i (by omega), he]
  | succ m ih =>
    intro i q h0 hm hq
    obtain ⟨q, rfl⟩ : ∃ p, q = p + 1 := ⟨q - 1, by omega⟩
    by_cases c : (x.args.length : Int) ≤ i
    · rw [spec_end k q x i c, he]
    · by_cases c2 : i + 2 < (x.args.length : Int)
      · rw [spec_round k q x i h0 c2 hl, ih (i + 3) q (by omega) (by omega) (by omega), iteB_same]
      · have w2 : IntKind.wrap .i64 (i + 2) = i + 2 := wrap_id (by omega) (by omega)
        have w3 : IntKind.wrap .i64 (i + 3) = i + 3 := wrap_id (by omega) (by omega)
        rw [spec_l10Args.l5_s, iteB_pos (by omega), iteB_pos h0, iteB_pos (show i < (x.args.length : Int) by omega), spec_in, bindO_some, w2, iteB_neg c2, w3, ih (i + 3) q (by omega) (by omega) (by omega), iteB_same]
theorem spec_sel (x : TT) (hl : x.args.length ≤ 1048576) : Ev fun k => spec_l10Args.l5 k k (x.args.length : Int) 0 x = some (selOk x.args) := by
  by_cases h3 : x.args.length = 3
  · refine ⟨5, fun k hk => ?_⟩
    obtain ⟨q, hq⟩ : ∃ q, k = q + 1 + 1 := ⟨k - 2, by omega⟩
    obtain ⟨a, b, c, e⟩ := len3 h3
    have : ∀ n, spec_l10Args.l5 k (n + 1 + 1) (x.args.length : Int) 0 x = some (selOk x.args) := fun n => by
      rw [spec_round k (n + 1) x 0 (by omega) (by omega) hl, spec_end k n x (0 + 3) (by omega), h3, e]
      show iteB (trip a c) (some true) (some false) = some (trip a c)
      cases trip a c <;> rfl
    have := this q
    rwa [← hq] at this
  · by_cases h6 : x.args.length = 6
    · refine ⟨5, fun k hk => ?_⟩
      obtain ⟨q, hq⟩ : ∃ q, k = q + 1 + 1 + 1 := ⟨k - 3, by omega⟩
      obtain ⟨a, b, c, d, f, g, e⟩ := len6 h6
      have : ∀ n, spec_l10Args.l5 k (n + 1 + 1 + 1) (x.args.length : Int) 0 x = some (selOk x.args) := fun n => by
        rw [spec_round k (n + 1 + 1) x 0 (by omega) (by omega) hl, spec_round k (n + 1) x (0 + 3) (by omega) (by omega) hl, spec_end k n x (0 + 3 + 3) (by omega), h6, e]
        show iteB (trip a c) (iteB (trip d g) (some true) (some false)) (some false) = some (trip a c && trip d g)
        cases trip a c <;> cases trip d g <;> rfl
      have := this q
      rwa [← hq] at this
    · by_cases h9 : x.args.length = 9
      · refine ⟨5, fun k hk => ?_⟩
        obtain ⟨q, hq⟩ : ∃ q, k = q + 1 + 1 + 1 + 1 := ⟨k - 4, by omega⟩
        obtain ⟨a, b, c, d, f, g, i, j, l, e⟩ := len9 h9
        have : ∀ n, spec_l10Args.l5 k (n + 1 + 1 + 1 + 1) (x.args.length : Int) 0 x = some (selOk x.args) := fun n => by
          rw [spec_round k (n + 1 + 1 + 1) x 0 (by omega) (by omega) hl, spec_round k (n + 1 + 1) x (0 + 3) (by omega) (by omega) hl, spec_round k (n + 1) x (0 + 3 + 3) (by omega) (by omega) hl, spec_end k n x (0 + 3 + 3 + 3) (by omega), h9, e]
          show iteB (trip a c) (iteB (trip d g) (iteB (trip i l) (some true) (some false)) (some false)) (some false) = some (trip a c && (trip d g && trip i l))
          cases trip a c <;> cases trip d g <;> cases trip i l <;> rfl
        have := this q
        rwa [← hq] at this
      · rw [selOk_len h3 h6 h9]
        exact (Ev.gt x.args.length).mono fun k hk => spec_other x hl h3 h6 h9 k x.args.length 0 k (by omega) (by omega) hk
/-- The program's: its number's bounds too. -/
theorem impl_end (k n : Nat) (x : TT) (i : Int) (h : (x.args.length : Int) ≤ i + 2) (h0 : 0 ≤ i) (hi : i ≤ 2000000) : impl_argsOk.l3 k (n + 1) i x = some (bif (Int.tmod (x.args.length : Int) 3) == 0 then (bif decide (3 ≤ (x.args.length : Int) ∧ (x.args.length : Int) ≤ 9) then decide (0 ≤ x.2.2.2.2.1 ∧ x.2.2.2.2.1 ≤ 1) else false) else false) := by
  have w2 : IntKind.wrap .i64 (i + 2) = i + 2 := wrap_id (by omega) (by omega)
  rw [impl_argsOk.l3_s, w2, iteB_neg (show ¬ i + 2 < (x.args.length : Int) by omega)]
  simp only [impl_in, bindO_some, iteB_ss]
theorem tmod3 (n : Nat) : (Int.tmod (n : Int) 3 == 0) = decide (n % 3 = 0) := by
  have : Int.tmod (n : Int) 3 = ((n % 3 : Nat) : Int) := by rw [show (3 : Int) = ((3 : Nat) : Int) from rfl, ← Int.ofNat_tmod]
  rw [this]
  by_cases h : n % 3 = 0
  · simp [h]
  · rw [decide_eq_false h]; simp; omega
theorem impl_other (x : TT) (hl : x.args.length ≤ 1048576) (h3 : x.args.length ≠ 3) (h6 : x.args.length ≠ 6) (h9 : x.args.length ≠ 9) (k : Nat) : ∀ (m : Nat) (i : Int) (q : Nat), 0 ≤ i → i ≤ 1100000 → (x.args.length : Int) - i ≤ m → m < q → impl_argsOk.l3 k q i x = some false := by
  have he : (bif (Int.tmod (x.args.length : Int) 3) == 0 then (bif decide (3 ≤ (x.args.length : Int) ∧ (x.args.length : Int) ≤ 9) then decide (0 ≤ x.2.2.2.2.1 ∧ x.2.2.2.2.1 ≤ 1) else false) else false) = false := by
    rw [tmod3]
    by_cases c : x.args.length % 3 = 0
    · rw [decide_eq_true c, decide_eq_false (by omega)]; rfl
    · rw [decide_eq_false c]; rfl
  intro m
  induction m with
  | zero =>
    intro i q h0 h1 hm hq
    obtain ⟨q, rfl⟩ : ∃ p, q = p + 1 := ⟨q - 1, by omega⟩
    rw [impl_end k q x i (by omega) h0 (by omega), he]
  | succ m ih =>
    intro i q h0 h1 hm hq
    obtain ⟨q, rfl⟩ : ∃ p, q = p + 1 := ⟨q - 1, by omega⟩
    by_cases c2 : i + 2 < (x.args.length : Int)
    · rw [impl_round k q x i h0 c2 hl, ih (i + 3) q (by omega) (by omega) (by omega) (by omega), iteB_same]
    · rw [impl_end k q x i (by omega) h0 (by omega), he]
theorem impl_sel (x : TT) (hl : x.args.length ≤ 1048576) : Ev fun k => impl_argsOk.l3 k k 0 x = some (selOk x.args && decide (0 ≤ x.2.2.2.2.1 ∧ x.2.2.2.2.1 ≤ 1)) := by
  by_cases h3 : x.args.length = 3
  · refine ⟨5, fun k hk => ?_⟩
    obtain ⟨q, hq⟩ : ∃ q, k = q + 1 + 1 := ⟨k - 2, by omega⟩
    obtain ⟨a, b, c, e⟩ := len3 h3
    have : ∀ n, impl_argsOk.l3 k (n + 1 + 1) 0 x = some (selOk x.args && decide (0 ≤ x.2.2.2.2.1 ∧ x.2.2.2.2.1 ≤ 1)) := fun n => by
      rw [impl_round k (n + 1) x 0 (by omega) (by omega) hl, impl_end k n x (0 + 3) (by omega) (by omega) (by omega), h3, e]
      generalize decide (0 ≤ x.2.2.2.2.1 ∧ x.2.2.2.2.1 ≤ 1) = Z
      show iteB (trip a c) (some Z) (some false) = some (trip a c && Z)
      cases trip a c <;> rfl
    have := this q
    rwa [← hq] at this
  · by_cases h6 : x.args.length = 6
    · refine ⟨5, fun k hk => ?_⟩
      obtain ⟨q, hq⟩ : ∃ q, k = q + 1 + 1 + 1 := ⟨k - 3, by omega⟩
      obtain ⟨a, b, c, d, f, g, e⟩ := len6 h6
      have : ∀ n, impl_argsOk.l3 k (n + 1 + 1 + 1) 0 x = some (selOk x.args && decide (0 ≤ x.2.2.2.2.1 ∧ x.2.2.2.2.1 ≤ 1)) := fun n => by
        rw [impl_round k (n + 1 + 1) x 0 (by omega) (by omega) hl, impl_round k (n + 1) x (0 + 3) (by omega) (by omega) hl, impl_end k n x (0 + 3 + 3) (by omega) (by omega) (by omega), h6, e]
        generalize decide (0 ≤ x.2.2.2.2.1 ∧ x.2.2.2.2.1 ≤ 1) = Z
        show iteB (trip a c) (iteB (trip d g) (some Z) (some false)) (some false) = some (trip a c && trip d g && Z)
        cases trip a c <;> cases trip d g <;> rfl
      have := this q
      rwa [← hq] at this
    · by_cases h9 : x.args.length = 9
      · refine ⟨5, fun k hk => ?_⟩
        obtain ⟨q, hq⟩ : ∃ q, k = q + 1 + 1 + 1 + 1 := ⟨k - 4, by omega⟩
        obtain ⟨a, b, c, d, f, g, i, j, l, e⟩ := len9 h9
        have : ∀ n, impl_argsOk.l3 k (n + 1 + 1 + 1 + 1) 0 x = some (selOk x.args && decide (0 ≤ x.2.2.2.2.1 ∧ x.2.2.2.2.1 ≤ 1)) := fun n => by
          rw [impl_round k (n + 1 + 1 + 1) x 0 (by omega) (by omega) hl, impl_round k (n + 1 + 1) x (0 + 3) (by omega) (by omega) hl, impl_round k (n + 1) x (0 + 3 + 3) (by omega) (by omega) hl, impl_end k n x (0 + 3 + 3 + 3) (by omega) (by omega) (by omega), h9, e]
          generalize decide (0 ≤ x.2.2.2.2.1 ∧ x.2.2.2.2.1 ≤ 1) = Z
          show iteB (trip a c) (iteB (trip d g) (iteB (trip i l) (some Z) (some false)) (some false)) (some false) = some (trip a c && (trip d g && trip i l) && Z)
          cases trip a c <;> cases trip d g <;> cases trip i l <;> rfl
        have := this q
        rwa [← hq] at this
      · rw [selOk_len h3 h6 h9]
        exact (Ev.gt x.args.length).mono fun k hk => impl_other x hl h3 h6 h9 k x.args.length 0 k (by omega) (by omega) (by omega) hk
/-- Are the args as told. -/
def argV (x : TT) : Bool := bif x.1 == 19 then selOk x.args else bif x.1 == 22 then (x.args.length : Int) == 1 else bif !(bit (hasT x.1) 32) then (x.args.length : Int) == 0 else decide ((x.args.length : Int) ≤ 4)
theorem spec_args (x : TT) (hl : x.args.length ≤ 1048576) : Ev fun k => spec_l10Args k x = some (argV x) := by
  refine (spec_sel x hl).mono fun k h => ?_
  rw [spec_l10Args_e, h]
  unfold argV
  by_cases c : x.1 = 19
  · have : (x.1 == 19) = true := by simp [c]
    rw [this]; rfl
  · have a : (x.1 == 19) = false := by simp [c]
    rw [a, iteB_false, cond_false]
    by_cases c2 : x.1 = 22
    · have : (x.1 == 22) = true := by simp [c2]
      rw [this]; rfl
    · have a2 : (x.1 == 22) = false := by simp [c2]
      rw [a2, iteB_false, cond_false]
      by_cases c3 : x.1 = 11
      · rw [c3, x_11]; rfl
      · by_cases c4 : x.1 = 14
        · rw [c4, x_14]; rfl
        · have a3 : (x.1 == 11) = false := by simp [c3]
          have a4 : (x.1 == 14) = false := by simp [c4]
          rw [a3, a4, args_x x.1 c c2 c3 c4]; rfl
theorem impl_args (x : TT) (n : Int) (hl : x.args.length ≤ 1048576) : Ev fun k => impl_argsOk k x n = some (argV x && (bif x.1 == 19 then decide (0 ≤ x.2.2.2.2.1 ∧ x.2.2.2.2.1 ≤ 1) else true)) := by
  refine (impl_sel x hl).two (own_x x.1) fun k h h2 => ?_
  rw [impl_argsOk_e, h, h2, bindO_some]
  unfold argV
  cases x.1 == 19
  · cases x.1 == 22
    · cases bit (hasT x.1) 32 <;> simp [iteB_false, iteB_true]
    · simp [iteB_false, iteB_true]
  · rfl

/-! What a place sets and reads. -/
def keep (op : Int) (l : List Int) (i : Nat) : Bool := bif op == 19 then (decide (i % 3 = 1) || (decide (i % 3 = 2) && (l.getD (i - 2) 0 == 2))) else true
def selFrom (op : Int) (l : List Int) : Nat → Nat → List Int
  | 0, _ => []
  | m + 1, i => (bif keep op l i then [l.getD i 0] else []) ++ selFrom op l m (i + 1)
theorem sel_len (op : Int) (l : List Int) : ∀ m i, (selFrom op l m i).length ≤ m
  | 0, _ => by simp [selFrom]
  | m + 1, i => by
    have := sel_len op l m (i + 1)
    unfold selFrom
    cases keep op l i <;> simp <;> omega
theorem sel_all {op : Int} (h : op ≠ 19) (l : List Int) : ∀ m i, i + m = l.length → selFrom op l m i = l.drop i
  | 0, i, e => by rw [List.drop_eq_nil_of_le (by omega)]; rfl
  | m + 1, i, e => by
    have hk : keep op l i = true := by unfold keep; have : (op == 19) = false := by simp [h]
                                       rw [this]; rfl
    unfold selFrom
    rw [hk, sel_all h l m (i + 1) (by omega), List.drop_eq_getElem_cons (by omega : i < l.length)]
    simp [List.getD, show i < l.length by omega]
def setsV (x : TT) : List Int := (bif bit (hasT x.1) 1 then [x.2.1] else []) ++ (bif x.1 == 19 then [x.2.2.2.1] else [])
def usesV (x : TT) : List Int := (bif bit (hasT x.1) 2 then [x.2.2.1] else []) ++ ((bif bit (hasT x.1) 4 && x.1 != 19 then [x.2.2.2.1] else []) ++ (bif bit (hasT x.1) 32 then selFrom x.1 x.args x.args.length 0 else []))
theorem lim_ok {n : Nat} (h : n ≤ 2000000) : n * 8 ≤ lim := by unfold lim; omega
theorem spec_sets (x : TT) : Ev fun k => spec_Sets k x = some (setsV x) := by
  refine (Ev.gt 0).mono fun k hk => ?_
  rw [spec_Sets_e, spec_has, bindO_some, gate_pos hk, gate_pos hk, spec_Sets.j4_e, spec_Sets.j4b_e]
  unfold setsV
  show iteB (bit (hasT x.1) 1) _ _ = _
  rw [iteB_pos (lim_ok (by simp)), iteB_pos (lim_ok (by simp)), iteB_pos (lim_ok (by simp))]
  cases bit (hasT x.1) 1 <;> cases x.1 == 19 <;> rfl
theorem impl_sets (x : TT) : Ev fun k => impl_Sets k x = some (setsV x) := by
  refine (own_d x.1).mono fun k h => ?_
  rw [impl_Sets_e, h, bindO_some]
  unfold setsV
  by_cases c : x.1 = 19
  · have a : (x.1 == 19) = true := by simp [c]
    have b : bit (hasT x.1) 1 = true := by rw [c]; exact sel_1
    rw [a, b]; rfl
  · have a : (x.1 == 19) = false := by simp [c]
    rw [a]
    cases bit (hasT x.1) 1 <;> rfl
/-- The two ways of the reference's rounds are one. -/
theorem l8b_eq (k : Nat) (h : Int) (x : TT) : ∀ (n : Nat) (i : Int), spec_Uses.l8b k n h i x = spec_Uses.l8 k n h i x []
  | 0, i => by rw [spec_Uses.l8b_0, spec_Uses.l8_0]
  | n + 1, i => by
    have ih := l8b_eq k h x n
    rw [spec_Uses.l8b_s, spec_Uses.l8_s, spec_Uses.j10b_e, spec_Uses.j10_e]
    simp only [ih]
theorem idx2 {i : Nat} (h : i % 3 = 2) (hi : i ≤ 2000000) : IntKind.wrap .i64 ((i : Int) - 2) = ((i - 2 : Nat) : Int) := by rw [wrap_id (by omega) (by omega)]; omega
theorem tm (i : Nat) : Int.tmod (i : Int) 3 = ((i % 3 : Nat) : Int) := by rw [show (3 : Int) = ((3 : Nat) : Int) from rfl, ← Int.ofNat_tmod]
theorem spec_rounds (x : TT) (hl : x.args.length ≤ 1048576) (k : Nat) (hk : 0 < k) : ∀ (m i : Nat) (q : Nat) (y : List Int), i + m = x.args.length → m < q → y.length ≤ i + 2 →
    spec_Uses.l8 k q (hasT x.1) (i : Int) x y = some (y ++ (bif bit (hasT x.1) 32 then selFrom x.1 x.args m i else [])) := by
  intro m
  induction m with
  | zero =>
    intro i q y e hq hy
    obtain ⟨q, rfl⟩ : ∃ p, q = p + 1 := ⟨q - 1, by omega⟩
    rw [spec_Uses.l8_s, iteB_neg (show ¬ (i : Int) < (x.args.length : Int) by omega)]
    cases bit (hasT x.1) 32 <;> simp [selFrom]
  | succ m ih =>
    intro i q y e hq hy
    obtain ⟨q, rfl⟩ : ∃ p, q = p + 1 := ⟨q - 1, by omega⟩
    have hi : (i : Int) < (x.args.length : Int) := by omega
    rw [spec_Uses.l8_s, iteB_pos hi]
    show iteB (bit (hasT x.1) 32) _ _ = _
    cases hb : bit (hasT x.1) 32 with
    | false => rw [iteB_false]; simp
    | true =>
      have nx : IntKind.wrap .i64 ((i : Int) + 1) = ((i + 1 : Nat) : Int) := by rw [wrap_id (by omega) (by omega)]; omega
      have more := ih (i + 1) q (y ++ [x.args.getD i 0]) (by omega) (by omega) (by simp; omega)
      have skip := ih (i + 1) q y (by omega) (by omega) (by omega)
      rw [hb] at more skip
      have g : (i : Int).toNat = i := by omega
      rw [iteB_true, gate_pos hk, spec_Uses.j10_e, nx]
      have push : iteB (decide (0 ≤ (i : Int))) (iteB (decide ((i : Int) < (x.args.length : Int))) (iteB (decide ((y ++ [x.args.getD (i : Int).toNat 0]).length * 8 ≤ lim)) (spec_Uses.l8 k q (hasT x.1) ((i + 1 : Nat) : Int) x (y ++ [x.args.getD (i : Int).toNat 0])) none) none) none = some (y ++ [x.args.getD i 0] ++ selFrom x.1 x.args m (i + 1)) := by
        rw [iteB_pos (by omega), iteB_pos hi, iteB_pos (lim_ok (by simp; omega)), g, more]; rfl
      have stay : spec_Uses.l8 k q (hasT x.1) ((i + 1 : Nat) : Int) x y = some (y ++ selFrom x.1 x.args m (i + 1)) := skip
      show iteB (!(x.1 != 19)) (iteB (!(Int.tmod (i : Int) 3 == 1)) (iteB (Int.tmod (i : Int) 3 == 2) (iteB (decide (0 ≤ IntKind.wrap .i64 ((i : Int) - 2))) (iteB (decide (IntKind.wrap .i64 ((i : Int) - 2) < (x.args.length : Int))) (iteB (x.args.getD (IntKind.wrap .i64 ((i : Int) - 2)).toNat 0 == 2) _ _) _) _) _) _) _ = _
      rw [cond_true]
      unfold selFrom keep
      by_cases c : x.1 = 19
      · have a : (x.1 == 19) = true := by simp [c]
        have a2 : (!(x.1 != 19)) = true := by simp [c]
        rw [a, a2, iteB_true, cond_true, tm]
        by_cases c1 : i % 3 = 1
        · have b : (!(((i % 3 : Nat) : Int) == 1)) = false := by simp [c1]
          rw [b, iteB_false, decide_eq_true c1, Bool.true_or, cond_true, ← List.append_assoc]
          exact push
        · have b : (!(((i % 3 : Nat) : Int) == 1)) = true := by simp; omega
          rw [b, iteB_true, decide_eq_false c1, Bool.false_or]
          by_cases c2 : i % 3 = 2
          · have b2 : ((((i % 3 : Nat) : Int)) == 2) = true := by simp [c2]
            rw [b2, iteB_true, idx2 c2 (by omega), iteB_pos (by omega), iteB_pos (show ((i - 2 : Nat) : Int) < (x.args.length : Int) by omega), decide_eq_true c2, Bool.true_and, show (((i - 2 : Nat) : Int)).toNat = i - 2 by omega]
            cases x.args.getD (i - 2) 0 == 2
            · rw [iteB_false, cond_false, List.nil_append]; exact stay
            · rw [iteB_true, cond_true, ← List.append_assoc]; exact push
          · have b2 : ((((i % 3 : Nat) : Int)) == 2) = false := by simp; omega
            rw [b2, iteB_false, decide_eq_false c2, Bool.false_and, cond_false, List.nil_append]; exact stay
      · have a : (x.1 == 19) = false := by simp [c]
        have a2 : (!(x.1 != 19)) = false := by simp [c]
        rw [a, a2, iteB_false, cond_false, cond_true, ← List.append_assoc]
        exact push
theorem spec_uses (x : TT) (hl : x.args.length ≤ 1048576) : Ev fun k => spec_Uses k x = some (usesV x) := by
  refine ((Ev.gt 0).and (Ev.gt x.args.length)).mono fun k hk => ?_
  have R := fun y (h : y.length ≤ 2) => spec_rounds x hl k hk.1 x.args.length 0 k y (by omega) hk.2 (by omega)
  have R0 : ∀ y : List Int, y.length ≤ 2 → spec_Uses.l8 k k (hasT x.1) 0 x y = some (y ++ (bif bit (hasT x.1) 32 then selFrom x.1 x.args x.args.length 0 else [])) := fun y h => R y h
  rw [spec_Uses_e, spec_has, bindO_some]
  simp only [gate_pos hk.1, spec_Uses.j5_e, spec_Uses.j5b_e, spec_Uses.j7_e, spec_Uses.j7b_e, l8b_eq]
  unfold usesV
  show iteB (bit (hasT x.1) 2) (iteB _ (iteB (bit (hasT x.1) 4) _ _) _) (iteB (bit (hasT x.1) 4) _ _) = _
  simp only [List.nil_append]
  rw [R0 [] (by simp), R0 ([x.2.2.2.1]) (by simp), R0 ([x.2.2.1] ++ [x.2.2.2.1]) (by simp), R0 [x.2.2.1] (by simp)]
  rw [iteB_pos (lim_ok (by simp)), iteB_pos (lim_ok (by simp)), iteB_pos (lim_ok (by simp))]
  cases bit (hasT x.1) 2 <;> cases bit (hasT x.1) 4 <;> cases x.1 != 19 <;> rfl
theorem impl_rounds (x : TT) (c : x.1 = 19) (hl : x.args.length ≤ 1048576) (k : Nat) : ∀ (m i : Nat) (q : Nat) (y : List Int), i + m = x.args.length → m < q → y.length ≤ i →
    impl_Uses.l4b k q x.args (x.args.length : Int) (i : Int) x y = some (y ++ selFrom 19 x.args m i) := by
  intro m
  induction m with
  | zero =>
    intro i q y e hq hy
    obtain ⟨q, rfl⟩ : ∃ p, q = p + 1 := ⟨q - 1, by omega⟩
    rw [impl_Uses.l4b_s, iteB_neg (by omega)]
    simp [selFrom]
  | succ m ih =>
    intro i q y e hq hy
    obtain ⟨q, rfl⟩ : ∃ p, q = p + 1 := ⟨q - 1, by omega⟩
    have hi : (i : Int) < (x.args.length : Int) := by omega
    have nx : IntKind.wrap .i64 ((i : Int) + 1) = ((i + 1 : Nat) : Int) := by rw [wrap_id (by omega) (by omega)]; omega
    have more := ih (i + 1) q (y ++ [x.args.getD i 0]) (by omega) (by omega) (by simp; omega)
    have stay := ih (i + 1) q y (by omega) (by omega) (by omega)
    have g : (i : Int).toNat = i := by omega
    rw [impl_Uses.l4b_s, iteB_pos hi, iteB_pos (by omega), iteB_pos hi, nx, g, tm]
    have push : iteB (decide ((y ++ [x.args.getD i 0]).length * 8 ≤ lim)) (impl_Uses.l4b k q x.args (x.args.length : Int) ((i + 1 : Nat) : Int) x (y ++ [x.args.getD i 0])) none = some (y ++ [x.args.getD i 0] ++ selFrom 19 x.args m (i + 1)) := by
      rw [iteB_pos (lim_ok (by simp; omega)), more]
    unfold selFrom keep
    rw [show ((19 : Int) == 19) = true from rfl, cond_true]
    by_cases c1 : i % 3 = 1
    · have b : (!(((i % 3 : Nat) : Int) == 1)) = false := by simp [c1]
      rw [b, iteB_false, decide_eq_true c1, Bool.true_or, cond_true, ← List.append_assoc]
      exact push
    · have b : (!(((i % 3 : Nat) : Int) == 1)) = true := by simp; omega
      rw [b, iteB_true, decide_eq_false c1, Bool.false_or]
      by_cases c2 : i % 3 = 2
      · have b2 : ((((i % 3 : Nat) : Int)) == 2) = true := by simp [c2]
        rw [b2, iteB_true, idx2 c2 (by omega), iteB_pos (by omega), iteB_pos (show ((i - 2 : Nat) : Int) < (x.args.length : Int) by omega), decide_eq_true c2, Bool.true_and, show (((i - 2 : Nat) : Int)).toNat = i - 2 by omega]
        show iteB (x.args.getD (i - 2) 0 == 2) _ _ = _
        cases x.args.getD (i - 2) 0 == 2
        · rw [iteB_false, cond_false, List.nil_append]; exact stay
        · rw [iteB_true, cond_true, ← List.append_assoc]; exact push
      · have b2 : ((((i % 3 : Nat) : Int)) == 2) = false := by simp; omega
        rw [b2, iteB_false, decide_eq_false c2, Bool.false_and, cond_false, List.nil_append]; exact stay
theorem l4_eq (k : Nat) (l : List Int) (n : Int) (x : TT) : ∀ (q : Nat) (i : Int), impl_Uses.l4 k q l n i x = impl_Uses.l4b k q l n i x []
  | 0, i => by rw [impl_Uses.l4_0, impl_Uses.l4b_0]
  | q + 1, i => by
    have ih := l4_eq k l n x q
    rw [impl_Uses.l4_s, impl_Uses.l4b_s]
    simp only [ih]
theorem impl_uses (x : TT) (hl : x.args.length ≤ 1048576) : Ev fun k => impl_Uses k x = some (usesV x) := by
  refine (((own_a x.1).and (own_b x.1)).and ((own_x x.1).and ((Ev.gt 0).and (Ev.gt x.args.length)))).mono fun k hk => ?_
  obtain ⟨⟨ha, hb⟩, hx, h0, h1⟩ := hk
  rw [impl_Uses_e]
  by_cases c : x.1 = 19
  · have a : (x.1 == 19) = true := by simp [c]
    have R := impl_rounds x c hl k x.args.length 0 k [] (by omega) h1 (by simp)
    have R' : impl_Uses.l4b k k x.args (x.args.length : Int) 0 x [] = some ([] ++ selFrom 19 x.args x.args.length 0) := R
    rw [a, iteB_true, l4_eq, R']
    unfold usesV
    have b2 : bit (hasT x.1) 2 = false := by rw [c]; exact sel_2
    have b3 : bit (hasT x.1) 32 = true := by rw [c]; exact sel_32
    have b4 : (x.1 != 19) = false := by simp [c]
    rw [b2, b3, b4, c, Bool.and_false]; rfl
  · have a : (x.1 == 19) = false := by simp [c]
    have a2 : (x.1 != 19) = true := by simp [c]
    rw [a, iteB_false, ha, bindO_some]
    simp only [gate_pos h0, impl_Uses.j12_e, impl_Uses.j12b_e, impl_Uses.j14_e, impl_Uses.j14b_e, hb, hx, bindO_some, List.nil_append]
    unfold usesV
    rw [a2, Bool.and_true, sel_all c x.args x.args.length 0 (by omega), List.drop_zero]
    have L : ∀ l : List Int, l.length ≤ 2000000 → decide (l.length * 8 ≤ lim) = true := fun l h => decide_eq_true (lim_ok h)
    have hl' : x.2.2.2.2.2.2.1.length ≤ 1048576 := hl
    simp only [L ([x.2.2.1] ++ [x.2.2.2.1] ++ x.2.2.2.2.2.2.1) (by simp; omega), L ([x.2.2.1] ++ x.2.2.2.2.2.2.1) (by simp; omega), L ([x.2.2.2.1] ++ x.2.2.2.2.2.2.1) (by simp; omega), L x.2.2.2.2.2.2.1 (by omega), L ([x.2.2.1] ++ [x.2.2.2.1]) (by simp), L [x.2.2.1] (by simp), L [x.2.2.2.1] (by simp), iteB_true]
    cases bit (hasT x.1) 2 <;> cases bit (hasT x.1) 4 <;> cases bit (hasT x.1) 32 <;> simp [iteB_true, iteB_false]

/-! Places, labels, units. -/
theorem guard_or {α : Type} (b z : Bool) (X : Option α) (y : Option α) : iteB (!b) (iteB z X y) X = iteB (b || z) X y := by cases b <;> cases z <;> rfl
theorem guard_or2 {α : Type} (b z : Bool) (X : Option α) (y : Option α) : iteB (!b) (iteB (!z) y X) X = iteB (b || z) X y := by cases b <;> cases z <;> rfl
theorem guard_or3 (b z : Bool) : iteB (!b) (some z) (some true) = some (b || z) := by cases b <;> rfl
theorem nne (a b : Int) : (!(a != b)) = (a == b) := by simp [bne]
def within (n r : Int) : Bool := decide (0 ≤ r ∧ r ≤ IntKind.wrap .i64 (n - 1))
def regsV (x : TT) (n : Int) : Bool := (setsV x ++ usesV x).all (within n)
theorem regs_len (x : TT) (hl : x.args.length ≤ 1048576) : (setsV x ++ usesV x).length ≤ 1048580 := by
  have h1 : (setsV x).length ≤ 2 := by unfold setsV; cases bit (hasT x.1) 1 <;> cases x.1 == 19 <;> simp
  have h2 : (usesV x).length ≤ 2 + x.args.length := by
    have := sel_len x.1 x.args x.args.length 0
    unfold usesV
    cases bit (hasT x.1) 2 <;> cases (bit (hasT x.1) 4 && x.1 != 19) <;> cases bit (hasT x.1) 32 <;> simp <;> omega
  rw [List.length_append]; omega
theorem spec_regs (x : TT) (n : Int) (hl : x.args.length ≤ 1048576) : Ev fun k => spec_l10Regs k x n = some (regsV x n) := by
  have hn := regs_len x hl
  have R := all_rounds (setsV x ++ usesV x) 0 (f := fun k r => spec_l1In k r 0 (IntKind.wrap .i64 (n - 1))) (p := within n) (L := fun k m i => spec_l10Regs.l3 k m n i (setsV x ++ usesV x)) (e := fun _ => some true) (fun y _ => Ev.of fun k => spec_in k y 0 _) (Ev.of fun _ => rfl) (fun k m i h0 h1 => by
      show spec_l10Regs.l3 k (m + 1) n i _ = _
      rw [spec_l10Regs.l3_s, iteB_pos h1, iteB_pos h0, iteB_pos h1, next_i h0 h1 (by omega)]) (fun k m i h => by
      show spec_l10Regs.l3 k (m + 1) n i _ = _
      rw [spec_l10Regs.l3_s, iteB_neg (by omega)])
  refine (R.and ((spec_sets x).and (spec_uses x hl))).mono fun k h => ?_
  obtain ⟨h1, h2, h3⟩ := h
  rw [spec_l10Regs_e, h2, bindO_some, h3, bindO_some, iteB_pos (lim_ok (by omega)), h1]
  simp [regsV]
theorem impl_regs (x : TT) (n : Int) (hl : x.args.length ≤ 1048576) : Ev fun k => impl_tacOk.j5 k x n = some (regsV x n) := by
  have hn := regs_len x hl
  have R := index_rounds (setsV x ++ usesV x) 0 (f := fun k r => impl_tacOk_1_vbp k r n) (p := fun r => !within n r) (L := fun k m i => slices_IndexFunc_int__impl_tacOk_1.l2 k m (setsV x ++ usesV x) n ((setsV x ++ usesV x).length : Int) i) (fun y _ => Ev.of fun k => by rw [impl_tacOk_1_vbp_e, impl_in, bindO_some]; rfl) (fun k m i h0 h1 => by
      show slices_IndexFunc_int__impl_tacOk_1.l2 k (m + 1) _ n _ i = _
      rw [slices_IndexFunc_int__impl_tacOk_1.l2_s, iteB_pos h1, iteB_pos h0, iteB_pos h1, next_i h0 h1 (by omega)]) (fun k m i h => by
      show slices_IndexFunc_int__impl_tacOk_1.l2 k (m + 1) _ n _ i = _
      rw [slices_IndexFunc_int__impl_tacOk_1.l2_s, iteB_neg (by omega)])
  refine (R.and ((impl_sets x).and (impl_uses x hl))).mono fun k h => ?_
  obtain ⟨h1, h2, h3⟩ := h
  rw [impl_tacOk.j5_e, h2, bindO_some, h3, bindO_some, iteB_pos (lim_ok (by omega)), slices_ContainsFunc_int__impl_tacOk_1_e, slices_IndexFunc_int__impl_tacOk_1_e, h1, bindO_some, bindO_some, firstOf_any _ _ 0 (by omega), any_not, Bool.not_not]
  rfl
def zeroV (x : TT) : Bool := (bit (hasT x.1) 1 || x.2.1 == 0) && ((bit (hasT x.1) 2 || x.2.2.1 == 0) && ((bit (hasT x.1) 4 || x.2.2.2.1 == 0) && ((bit (hasT x.1) 8 || x.2.2.2.2.1 == 0) && (bit (hasT x.1) 16 || (ByteArray.toList x.2.2.2.2.2.1 == ByteArray.toList (⟨#[]⟩ : ByteArray))))))
theorem ite_and {b c : Bool} : iteB b (some c) (some false) = some (b && c) := by cases b <;> rfl
theorem spec_zero (k : Nat) (x : TT) : spec_l10Place.j6 k (hasT x.1) x = some (zeroV x) := by
  rw [spec_l10Place.j6_e]
  simp only [guard_or3]
  simp only [guard_or]
  simp only [ite_and]
  rfl
def placeV (x : TT) (n : Int) : Bool := decide (1 ≤ x.1 ∧ x.1 ≤ 28) && (argV x && (regsV x n && ((bif x.1 == 19 then decide (0 ≤ x.2.2.2.2.1 ∧ x.2.2.2.2.1 ≤ 1) else true) && (wok x.2.2.2.2.1 && zeroV x))))
theorem spec_place (x : TT) (n : Int) (hl : x.args.length ≤ 1048576) : Ev fun k => spec_l10Place k x n = some (placeV x n) := by
  refine ((spec_args x hl).and ((spec_regs x n hl).and (Ev.gt 0))).mono fun k h => ?_
  obtain ⟨h1, h2, h0⟩ := h
  rw [spec_l10Place_e, spec_has, bindO_some, spec_in, bindO_some, h1, bindO_some, h2, bindO_some, gate_pos h0, spec_l10Place.j4_e, gate_pos h0, spec_zero]
  simp only [spec_in, spec_wok, bindO_some]
  unfold placeV
  generalize decide (1 ≤ x.1 ∧ x.1 ≤ 28) = A
  generalize argV x = B
  generalize regsV x n = C
  generalize decide (0 ≤ x.2.2.2.2.1 ∧ x.2.2.2.2.1 ≤ 1) = D
  generalize wok x.2.2.2.2.1 = F
  generalize zeroV x = G
  generalize (x.1 == 19) = H
  cases A <;> cases B <;> cases C <;> cases D <;> cases F <;> cases G <;> cases H <;> rfl
theorem impl_place (x : TT) (n : Int) (hl : x.args.length ≤ 1048576) : Ev fun k => impl_tacOk k x n = some (placeV x n) := by
  obtain ⟨L, hL⟩ := letters x.1
  refine (((own_d x.1).and ((own_a x.1).and (own_b x.1))).and (((own_n x.1).and (own_s x.1)).and ((impl_args x n hl).and ((impl_regs x n hl).and (Ev.gt 0))))).mono fun k h => ?_
  obtain ⟨⟨hd, ha, hb⟩, ⟨hn, hs⟩, h1, h2, h0⟩ := h
  have hz : impl_tacOk.j3 k x n = iteB (zeroV x) (some (regsV x n)) (some false) := by
    rw [impl_tacOk.j3_e]
    simp only [hd, ha, hb, hn, hs, bindO_some, gate_pos h0, h2, nne, guard_or, guard_or2]
    unfold zeroV
    generalize (bit (hasT x.1) 1 || x.2.1 == 0) = z1
    generalize (bit (hasT x.1) 2 || x.2.2.1 == 0) = z2
    generalize (bit (hasT x.1) 4 || x.2.2.2.1 == 0) = z3
    generalize (bit (hasT x.1) 8 || x.2.2.2.2.1 == 0) = z4
    generalize (bit (hasT x.1) 16 || (ByteArray.toList x.2.2.2.2.2.1 == ByteArray.toList (⟨#[]⟩ : ByteArray))) = z5
    cases z1 <;> cases z2 <;> cases z3 <;> cases z4 <;> cases z5 <;> rfl
  rw [impl_tacOk_e, hL.is, bindO_some, hL.some, impl_wok, bindO_some, h1, bindO_some, gate_pos h0, hz]
  unfold placeV
  generalize decide (1 ≤ x.1 ∧ x.1 ≤ 28) = A
  generalize argV x = B
  generalize regsV x n = C
  generalize decide (0 ≤ x.2.2.2.2.1 ∧ x.2.2.2.2.1 ≤ 1) = D
  generalize wok x.2.2.2.2.1 = F
  generalize zeroV x = G
  generalize (x.1 == 19) = H
  cases A <;> cases B <;> cases C <;> cases D <;> cases F <;> cases G <;> cases H <;> rfl
abbrev dT : TT := Ty.dflt (.pair (.int .i64) (.pair (.int .i64) (.pair (.int .i64) (.pair (.int .i64) (.pair (.int .i64) (.pair .str (.pair (.row (.int .i64)) .unit)))))))
def isLab (n : Int) (t : TT) : Bool := bif t.1 == 8 then t.2.2.2.2.1 == n else false
theorem spec_label (l : List TT) (n : Int) (hl : l.length ≤ 1048576) : Ev fun k => spec_l10Label k l n = some (firstOf (isLab n) l 0) := by
  refine (index_rounds l dT (f := fun _ t => some (isLab n t)) (p := isLab n) (L := fun k m i => spec_l10Label.l2 k m l n i) (fun _ _ => Ev.of fun _ => rfl) (fun k m i h0 h1 => ?_) (fun k m i h => ?_)).mono fun k h => ?_
  · show spec_l10Label.l2 k (m + 1) l n i = _
    rw [spec_l10Label.l2_s, iteB_pos h1, iteB_pos h0, iteB_pos h1, iteB_pos h0, iteB_pos h1, next_i h0 h1 (by omega), bindO_some]
    unfold isLab
    show iteB ((l.getD i.toNat dT).1 == 8) (iteB ((l.getD i.toNat dT).2.2.2.2.1 == n) _ _) _ = _
    cases (l.getD i.toNat dT).1 == 8 <;> cases (l.getD i.toNat dT).2.2.2.2.1 == n <;> rfl
  · show spec_l10Label.l2 k (m + 1) l n i = _
    rw [spec_l10Label.l2_s, iteB_neg (by omega)]
  · rw [spec_l10Label_e]; exact h
theorem impl_label (l : List TT) (n : Int) (hl : l.length ≤ 1048576) : Ev fun k => impl_labelAt k l n = some (firstOf (isLab n) l 0) := by
  refine (index_rounds l dT (f := fun k t => impl_labelAt_1_vbp k t n) (p := isLab n) (L := fun k m i => slices_IndexFunc_impl_Tac__impl_labelAt_1.l2 k m l n (l.length : Int) i) (fun t _ => Ev.of fun k => ?_) (fun k m i h0 h1 => ?_) (fun k m i h => ?_)).mono fun k h => ?_
  · rw [impl_labelAt_1_vbp_e, iteB_ss]; rfl
  · show slices_IndexFunc_impl_Tac__impl_labelAt_1.l2 k (m + 1) l n _ i = _
    rw [slices_IndexFunc_impl_Tac__impl_labelAt_1.l2_s, iteB_pos h1, iteB_pos h0, iteB_pos h1, next_i h0 h1 (by omega)]
  · show slices_IndexFunc_impl_Tac__impl_labelAt_1.l2 k (m + 1) l n _ i = _
    rw [slices_IndexFunc_impl_Tac__impl_labelAt_1.l2_s, iteB_neg (by omega)]
  · rw [impl_labelAt_e, slices_IndexFunc_impl_Tac__impl_labelAt_1_e, h, bindO_some]
/-- All of a row, by place. -/
def allI {α : Type} (p : Int → α → Bool) : List α → Int → Bool
  | [], _ => true
  | x :: r, i => p i x && allI p r (i + 1)
theorem all_idx {α : Type} (xs : List α) (d : α) {F : Nat → α → Prop} {p : Int → α → Bool} {L : Nat → Nat → Int → Option Bool} {e : Nat → Option Bool} {b : Bool} (hF : ∀ x ∈ xs, Ev fun k => F k x) (he : Ev fun k => e k = some b)
    (hL : ∀ k n i, (∀ x ∈ xs, F k x) → 0 ≤ i → i < (xs.length : Int) → L k (n + 1) i = iteB (p i (xs.getD i.toNat d)) (L k n (i + 1)) (some false))
    (hE : ∀ k n i, (xs.length : Int) ≤ i → L k (n + 1) i = e k) : Ev fun k => L k k 0 = some (allI p xs 0 && b) := by
  refine ((Ev.all hF).and he).two (Ev.gt xs.length) fun k h1 h2 => ?_
  have key : ∀ (m : Nat) (i : Int) (q : Nat), 0 ≤ i → (xs.length : Int) - i = m → m < q → L k q i = some (allI p (xs.drop i.toNat) i && b) := by
    intro m
    induction m with
    | zero =>
      intro i q hi hm hq
      obtain ⟨q, rfl⟩ : ∃ p, q = p + 1 := ⟨q - 1, by omega⟩
      rw [hE k q i (by omega), h1.2, List.drop_eq_nil_of_le (by omega)]; rfl
    | succ m ih =>
      intro i q hi hm hq
      obtain ⟨q, rfl⟩ : ∃ p, q = p + 1 := ⟨q - 1, by omega⟩
      have hlt : i < (xs.length : Int) := by omega
      rw [hL k q i h1.1 hi hlt, ih (i + 1) q (by omega) (by omega) (by omega), drop_at xs d i hi hlt]
      show _ = some (p i (xs.getD i.toNat d) && allI p (xs.drop (i + 1).toNat) (i + 1) && b)
      cases p i (xs.getD i.toNat d) <;> rfl
  have := key xs.length 0 k (by omega) (by omega) h2
  simpa using this
abbrev TU : Type := ByteArray × Int × Int × (List TT) × Unit
def stepV (u : TU) (i : Int) (t : TT) : Bool :=
  placeV t u.2.2.1 && ((bif t.1 == 8 then (firstOf (isLab t.2.2.2.2.1) u.2.2.2.1 0 == i) && decide (0 ≤ t.2.2.2.2.1 ∧ t.2.2.2.2.1 ≤ 900) else true) && (bif t.1 == 9 || t.1 == 10 then !(decide (firstOf (isLab t.2.2.2.2.1) u.2.2.2.1 0 < 0)) else true))
def endV (op : Int) : Bool := op == 12 || (op == 9 || op == 28)
def lastOp (u : TU) : Int := (List.getD u.2.2.2.1 (IntKind.wrap .i64 ((u.2.2.2.1.length : Int) - 1)).toNat dT).1
theorem spec_code (u : TU) (h1 : 1 ≤ u.2.2.2.1.length) (h2 : u.2.2.2.1.length ≤ 1048576) (hx : ∀ t ∈ u.2.2.2.1, (TT.args t).length ≤ 1048576) : Ev fun k => spec_UnitOk.l5 k k (u.2.2.2.1.length : Int) 0 u = some (allI (stepV u) u.2.2.2.1 0 && endV (lastOp u)) := by
  refine all_idx u.2.2.2.1 dT (F := fun k t => spec_l10Place k t u.2.2.1 = some (placeV t u.2.2.1) ∧ spec_l10Label k u.2.2.2.1 t.2.2.2.2.1 = some (firstOf (isLab t.2.2.2.2.1) u.2.2.2.1 0)) (L := fun k n i => spec_UnitOk.l5 k n (u.2.2.2.1.length : Int) i u) (e := fun _ => some (endV (lastOp u))) (fun t m => (spec_place t u.2.2.1 (hx t m)).and (spec_label u.2.2.2.1 t.2.2.2.2.1 h2)) (Ev.of fun _ => rfl) (fun k n i hF g0 g1 => ?_) (fun k n i hi => ?_)
  · show spec_UnitOk.l5 k (n + 1) _ i u = _
    obtain ⟨f1, f2⟩ := hF _ (getD_mem u.2.2.2.1 dT g0 g1)
    rw [spec_UnitOk.l5_s, iteB_pos g1, iteB_pos g0, iteB_pos g1, next_i g0 g1 (by omega)]
    show bindO (spec_l10Place k (u.2.2.2.1.getD i.toNat dT) u.2.2.1) _ = _
    rw [f1, bindO_some]
    show iteB _ _ (bindO (spec_l10Label k u.2.2.2.1 (u.2.2.2.1.getD i.toNat dT).2.2.2.2.1) fun r6 => iteB ((u.2.2.2.1.getD i.toNat dT).1 == 8) (iteB (!(r6 != i)) (bindO (spec_l1In k (u.2.2.2.1.getD i.toNat dT).2.2.2.2.1 0 900) fun r7 => iteB (!(!r7)) (iteB (!((u.2.2.2.1.getD i.toNat dT).1 == 9)) (iteB ((u.2.2.2.1.getD i.toNat dT).1 == 10) _ _) _) _) _) (iteB (!((u.2.2.2.1.getD i.toNat dT).1 == 9)) (iteB ((u.2.2.2.1.getD i.toNat dT).1 == 10) _ _) _)) = _
    rw [f2, bindO_some, nne, spec_in, bindO_some]
    unfold stepV
    generalize placeV (u.2.2.2.1.getD i.toNat dT) u.2.2.1 = A
    generalize firstOf (isLab (u.2.2.2.1.getD i.toNat dT).2.2.2.2.1) u.2.2.2.1 0 = f
    generalize decide (0 ≤ (u.2.2.2.1.getD i.toNat dT).2.2.2.2.1 ∧ (u.2.2.2.1.getD i.toNat dT).2.2.2.2.1 ≤ 900) = B
    generalize ((u.2.2.2.1.getD i.toNat dT).1 == 8) = C
    generalize ((u.2.2.2.1.getD i.toNat dT).1 == 9) = D
    generalize ((u.2.2.2.1.getD i.toNat dT).1 == 10) = E
    generalize (f == i) = G
    generalize decide (f < 0) = H
    cases A <;> cases B <;> cases C <;> cases D <;> cases E <;> cases G <;> cases H <;> rfl
  · show spec_UnitOk.l5 k (n + 1) _ i u = _
    have w : IntKind.wrap .i64 ((u.2.2.2.1.length : Int) - 1) = (u.2.2.2.1.length : Int) - 1 := wrap_id (by omega) (by omega)
    rw [spec_UnitOk.l5_s, iteB_neg (by omega), iteB_pos (by rw [w]; omega), iteB_pos (by rw [w]; omega)]
    unfold endV
    show iteB (!(lastOp u == 12)) (iteB (!(lastOp u == 9)) (some (lastOp u == 28)) (some true)) (some true) = _
    cases (lastOp u == 12) <;> cases (lastOp u == 9) <;> rfl
theorem impl_ends_v (k : Nat) (op : Int) : impl_ends k op = some (endV op) := by
  rw [impl_ends_e]
  unfold endV
  cases (op == 12) <;> cases (op == 9) <;> rfl
theorem impl_code (u : TU) (h1 : 1 ≤ u.2.2.2.1.length) (h2 : u.2.2.2.1.length ≤ 1048576) (hx : ∀ t ∈ u.2.2.2.1, (TT.args t).length ≤ 1048576) : Ev fun k => impl_UnitOk.l4 k k u.2.2.2.1 (u.2.2.2.1.length : Int) 0 u = some (allI (stepV u) u.2.2.2.1 0 && endV (lastOp u)) := by
  refine all_idx u.2.2.2.1 dT (F := fun k t => impl_tacOk k t u.2.2.1 = some (placeV t u.2.2.1) ∧ impl_labelAt k u.2.2.2.1 t.2.2.2.2.1 = some (firstOf (isLab t.2.2.2.2.1) u.2.2.2.1 0)) (L := fun k n i => impl_UnitOk.l4 k n u.2.2.2.1 (u.2.2.2.1.length : Int) i u) (e := fun _ => some (endV (lastOp u))) (fun t m => (impl_place t u.2.2.1 (hx t m)).and (impl_label u.2.2.2.1 t.2.2.2.2.1 h2)) (Ev.of fun _ => rfl) (fun k n i hF g0 g1 => ?_) (fun k n i hi => ?_)
  · show impl_UnitOk.l4 k (n + 1) _ _ i u = _
    obtain ⟨f1, f2⟩ := hF _ (getD_mem u.2.2.2.1 dT g0 g1)
    rw [impl_UnitOk.l4_s, iteB_pos g1, iteB_pos g0, iteB_pos g1, next_i g0 g1 (by omega)]
    show bindO (impl_tacOk k (u.2.2.2.1.getD i.toNat dT) u.2.2.1) _ = _
    rw [f1, bindO_some]
    have f2' : impl_labelAt k u.2.2.2.1 (List.getD u.2.2.2.1 i.toNat dT).2.2.2.2.1 = _ := f2
    simp only [impl_in, f2', bindO_some]
    unfold stepV
    show iteB _ _ (iteB ((u.2.2.2.1.getD i.toNat dT).1 == 8) (iteB _ (iteB _ _ (iteB (!((u.2.2.2.1.getD i.toNat dT).1 == 9)) (iteB ((u.2.2.2.1.getD i.toNat dT).1 == 10) _ _) _)) _) (iteB (!((u.2.2.2.1.getD i.toNat dT).1 == 9)) (iteB ((u.2.2.2.1.getD i.toNat dT).1 == 10) _ _) _)) = _
    generalize placeV (u.2.2.2.1.getD i.toNat dT) u.2.2.1 = A
    generalize firstOf (isLab (u.2.2.2.1.getD i.toNat dT).2.2.2.2.1) u.2.2.2.1 0 = f
    generalize decide (0 ≤ (u.2.2.2.1.getD i.toNat dT).2.2.2.2.1 ∧ (u.2.2.2.1.getD i.toNat dT).2.2.2.2.1 ≤ 900) = B
    generalize ((u.2.2.2.1.getD i.toNat dT).1 == 8) = C
    generalize ((u.2.2.2.1.getD i.toNat dT).1 == 9) = D
    generalize ((u.2.2.2.1.getD i.toNat dT).1 == 10) = E
    have hb : (f != i) = !(f == i) := rfl
    rw [hb]
    generalize (f == i) = G
    generalize decide (f < 0) = H
    cases A <;> cases B <;> cases C <;> cases D <;> cases E <;> cases G <;> cases H <;> rfl
  · show impl_UnitOk.l4 k (n + 1) _ _ i u = _
    have w : IntKind.wrap .i64 ((u.2.2.2.1.length : Int) - 1) = (u.2.2.2.1.length : Int) - 1 := wrap_id (by omega) (by omega)
    rw [impl_UnitOk.l4_s, iteB_neg (by omega), iteB_pos (by rw [w]; omega), iteB_pos (by rw [w]; omega), impl_ends_v, bindO_some]
    rfl
def unitV (u : TU) : Bool := decide (0 ≤ u.2.2.1 ∧ u.2.2.1 ≤ 250) && (decide (0 ≤ u.2.1 ∧ u.2.1 ≤ mn 4 u.2.2.1) && (decide (1 ≤ (u.2.2.2.1.length : Int) ∧ (u.2.2.2.1.length : Int) ≤ 900) && (allI (stepV u) u.2.2.2.1 0 && endV (lastOp u))))
theorem spec_unit (u : TU) (h2 : u.2.2.2.1.length ≤ 1048576) (hx : ∀ t ∈ u.2.2.2.1, (TT.args t).length ≤ 1048576) : Ev fun k => spec_UnitOk k u = some (unitV u) := by
  have hm : ∀ k, spec_l1Min k 4 u.2.2.1 = some (mn 4 u.2.2.1) := fun k => by
    rw [spec_l1Min_e, iteB_ss]
    unfold mn
    by_cases c : 4 < u.2.2.1
    · rw [decide_eq_true c, decide_eq_false (by omega)]; rfl
    · rw [decide_eq_false c]
      by_cases c2 : u.2.2.1 < 4
      · rw [decide_eq_true c2]; rfl
      · rw [decide_eq_false c2]; simp; omega
  by_cases c : 1 ≤ (u.2.2.2.1.length : Int) ∧ (u.2.2.2.1.length : Int) ≤ 900
  · refine ((spec_code u (by omega) h2 hx).and (Ev.gt 0)).mono fun k h => ?_
    rw [spec_UnitOk_e, gate_pos h.2, spec_UnitOk.j4_e, h.1]
    simp only [spec_in, hm, bindO_some, iteB_ss]
    unfold unitV
    congr 1
    generalize decide (0 ≤ u.2.2.1 ∧ u.2.2.1 ≤ 250) = A
    generalize decide (0 ≤ u.2.1 ∧ u.2.1 ≤ mn 4 u.2.2.1) = B
    generalize decide (1 ≤ (u.2.2.2.1.length : Int) ∧ (u.2.2.2.1.length : Int) ≤ 900) = C
    cases A <;> cases B <;> cases C <;> rfl
  · refine Ev.of fun k => ?_
    rw [spec_UnitOk_e]
    simp only [spec_in, hm, bindO_some]
    unfold unitV
    rw [decide_eq_false c]
    cases decide (0 ≤ u.2.2.1 ∧ u.2.2.1 ≤ 250) <;> cases decide (0 ≤ u.2.1 ∧ u.2.1 ≤ mn 4 u.2.2.1) <;> rfl
theorem impl_unit (u : TU) (h2 : u.2.2.2.1.length ≤ 1048576) (hx : ∀ t ∈ u.2.2.2.1, (TT.args t).length ≤ 1048576) : Ev fun k => impl_UnitOk k u = some (unitV u) := by
  by_cases c : 1 ≤ (u.2.2.2.1.length : Int) ∧ (u.2.2.2.1.length : Int) ≤ 900
  · refine ((impl_code u (by omega) h2 hx).and (Ev.gt 0)).mono fun k h => ?_
    rw [impl_UnitOk_e, gate_pos h.2, impl_UnitOk.j3_e, h.1]
    simp only [impl_in, bindO_some, iteB_ss]
    unfold unitV
    congr 1
    generalize decide (0 ≤ u.2.2.1 ∧ u.2.2.1 ≤ 250) = A
    generalize decide (0 ≤ u.2.1 ∧ u.2.1 ≤ mn 4 u.2.2.1) = B
    generalize decide (1 ≤ (u.2.2.2.1.length : Int) ∧ (u.2.2.2.1.length : Int) ≤ 900) = C
    cases A <;> cases B <;> cases C <;> rfl
  · refine Ev.of fun k => ?_
    rw [impl_UnitOk_e]
    simp only [impl_in, bindO_some]
    unfold unitV
    rw [decide_eq_false c]
    cases decide (0 ≤ u.2.2.1 ∧ u.2.2.1 ≤ 250) <;> cases decide (0 ≤ u.2.1 ∧ u.2.1 ≤ mn 4 u.2.2.1) <;> rfl

/-! Marks on a row of words, and what is held of them. -/
def cntI : Int → Nat → List Int
  | _, 0 => []
  | k, n + 1 => k :: cntI (k + 1) n
theorem cntI_len : ∀ (k : Int) (n : Nat), (cntI k n).length = n
  | _, 0 => rfl
  | k, n + 1 => by simp [cntI, cntI_len (k + 1) n]
theorem mark_ints (xs : List Int) (hl : xs.length ≤ 1048576) : Ev fun q => laws_markIntS q xs 1 = some (1 + (xs.length : Int), cntI 1 xs.length) := by
  refine (Ev.gt xs.length).mono fun q hq => ?_
  have key : ∀ (m : Nat) (i kk : Int) (ys : List Int) (p : Nat), 0 ≤ i → (ys.length : Int) - i = m → m < p → ys.length ≤ 1048576 → 0 ≤ kk → kk ≤ 1048577 + i → laws_markIntS.l2 q p kk i ys = some (kk + m, ys.take i.toNat ++ cntI kk m) := by
    intro m
    induction m with
    | zero =>
      intro i kk ys p hi hm hp hl h0 h1
      obtain ⟨p, rfl⟩ : ∃ q, p = q + 1 := ⟨p - 1, by omega⟩
      rw [laws_markIntS.l2_s, iteB_neg (by omega), List.take_of_length_le (by omega)]
      simp [cntI]
    | succ m ih =>
      intro i kk ys p hi hm hp hl h0 h1
      obtain ⟨p, rfl⟩ : ∃ q, p = q + 1 := ⟨p - 1, by omega⟩
      have hlt : i < (ys.length : Int) := by omega
      have h3 : (i + 1).toNat = i.toNat + 1 := by omega
      rw [laws_markIntS.l2_s, iteB_pos hlt, iteB_pos hi, iteB_pos hlt, wrap_id (by omega) (by omega), wrap_id (by omega) (by omega), ih (i + 1) (kk + 1) (List.set ys i.toNat kk) p (by omega) (by simp; omega) (by omega) (by simpa using hl) (by omega) (by omega)]
      congr 2
      · omega
      · rw [h3, List.take_succ_eq_append_getElem (by simp; omega), List.append_assoc]
        have e1 : List.take i.toNat (ys.set i.toNat kk) = ys.take i.toNat := by rw [List.take_set, List.set_eq_of_length_le (by simp; omega)]
        rw [e1]
        congr 1
        simp [cntI]
  have := key xs.length 0 1 xs q (by omega) (by omega) hq hl (by omega) (by omega)
  rw [laws_markIntS_e, this]
  rfl
theorem held_ints (n : Nat) (hl : n ≤ 1048576) : Ev fun q => laws_heldIntS q (cntI 1 n) 1 = some (1 + (n : Int)) := by
  refine (Ev.gt n).mono fun q hq => ?_
  have key : ∀ (m : Nat) (i kk : Int) (ys : List Int) (p : Nat), 0 ≤ i → (ys.length : Int) - i = m → m < p → ys.length ≤ 1048576 → 0 ≤ kk → kk ≤ 1048577 + i → ys.drop i.toNat = cntI kk m → laws_heldIntS.l2 q p ys kk i = some (kk + m) := by
    intro m
    induction m with
    | zero =>
      intro i kk ys p hi hm hp hl h0 h1 _
      obtain ⟨p, rfl⟩ : ∃ q, p = q + 1 := ⟨p - 1, by omega⟩
      rw [laws_heldIntS.l2_s, iteB_neg (by omega)]
      simp
    | succ m ih =>
      intro i kk ys p hi hm hp hl h0 h1 hd
      obtain ⟨p, rfl⟩ : ∃ q, p = q + 1 := ⟨p - 1, by omega⟩
      have hlt : i < (ys.length : Int) := by omega
      have h3 := drop_at ys 0 i hi hlt
      rw [h3] at hd
      obtain ⟨e1, e2⟩ := List.cons.inj hd
      have e3 : (ys.getD i.toNat 0 != kk) = false := by rw [e1]; simp
      rw [laws_heldIntS.l2_s, iteB_pos hlt, iteB_pos hi, iteB_pos hlt, e3, iteB_false, wrap_id (by omega) (by omega), wrap_id (by omega) (by omega), ih (i + 1) (kk + 1) ys p (by omega) (by omega) (by omega) hl (by omega) (by omega) e2]
      congr 1; omega
  have hlen := cntI_len 1 n
  have := key n 0 1 (cntI 1 n) q (by omega) (by omega) hq (by omega) (by omega) (by omega) rfl
  rw [laws_heldIntS_e, this]

/-! Sorts of no more than two words, their runs. -/
theorem sort2 (a b : Int) : List.mergeSort [a, b] (fun x y => decide (x ≤ y)) = bif decide (a ≤ b) then [a, b] else [b, a] := by
  rw [List.mergeSort]
  simp only [List.MergeSort.Internal.splitInTwo]
  by_cases h : a ≤ b <;> simp [h]
theorem compact1 (a : Int) : Lib.compact [a] = [a] := by
  apply Lib.compact_all
  intro j hj
  exact Lib.keeps_lt_one _ j (by simpa using hj)
theorem compact2 (a b : Int) : Lib.compact [a, b] = bif a == b then [a] else [a, b] := by
  by_cases h : a = b
  · subst h
    simp [Lib.compact, Lib.compactUpTo, List.range_succ, Lib.keeps]
  · have : (a == b) = false := by simpa using h
    rw [this]
    have h' : ¬ b = a := fun e => h e.symm
    simp [Lib.compact, Lib.compactUpTo, List.range_succ, Lib.keeps, h']
theorem run_sort (k : Nat) (xs : List Int) (h : xs.length < 4611686018427387904) : slices_Sort_int k xs = some ((), xs.mergeSort fun x y => decide (x ≤ y)) := by rw [slices_Sort_int_e, iteB_pos h]
theorem run_compact (k : Nat) (xs : List Int) (h : xs.length ≤ 9223372036854775807) : slices_Compact_int k xs = some ((Lib.compact xs).length, Lib.compact xs ++ List.replicate (xs.length - (Lib.compact xs).length) 0) := by rw [slices_Compact_int_e, iteB_pos h]
theorem cut_compact (xs : List Int) (n : Nat) : List.take (Lib.compact xs).length (List.drop 0 (Lib.compact xs ++ List.replicate n 0)) = Lib.compact xs := by simp
/-- A sort, its runs made one, cut. -/
theorem run_uniq (k : Nat) (xs : List Int) (h : xs.length ≤ 1048576) : (bindO (slices_Sort_int k xs) fun r1 => bindO (slices_Compact_int k r1.2) fun r2 => some (List.take r2.1 (List.drop 0 r2.2))) = some (Lib.compact (xs.mergeSort fun x y => decide (x ≤ y))) := by
  rw [run_sort k xs (by omega), bindO_some, run_compact k _ (by rw [List.length_mergeSort]; omega), bindO_some]
  simp only [cut_compact]
/-! The places that may come behind a place. -/
def nextV (l : List TT) (i : Int) : List Int :=
  bif (l.getD i.toNat dT).1 == 12 then [] else bif (l.getD i.toNat dT).1 == 28 then [] else bif (l.getD i.toNat dT).1 == 9 then [firstOf (isLab (l.getD i.toNat dT).2.2.2.2.1) l 0] else
  bif (l.getD i.toNat dT).1 == 10 then (bif decide (firstOf (isLab (l.getD i.toNat dT).2.2.2.2.1) l 0 < i + 1) then [firstOf (isLab (l.getD i.toNat dT).2.2.2.2.1) l 0, i + 1] else bif decide (firstOf (isLab (l.getD i.toNat dT).2.2.2.2.1) l 0 > i + 1) then [i + 1, firstOf (isLab (l.getD i.toNat dT).2.2.2.2.1) l 0] else [i + 1]) else [i + 1]
theorem nextV_len (l : List TT) (i : Int) : (nextV l i).length ≤ 2 := by
  unfold nextV
  cases (l.getD i.toNat dT).1 == 12 <;> cases (l.getD i.toNat dT).1 == 28 <;> cases (l.getD i.toNat dT).1 == 9 <;> cases (l.getD i.toNat dT).1 == 10 <;>
    cases decide (firstOf (isLab (l.getD i.toNat dT).2.2.2.2.1) l 0 < i + 1) <;> cases decide (firstOf (isLab (l.getD i.toNat dT).2.2.2.2.1) l 0 > i + 1) <;> simp
theorem spec_l16 (u : TU) (hl : u.2.2.2.1.length ≤ 1048576) (i : Int) (h0 : 0 ≤ i) (h1 : i < (u.2.2.2.1.length : Int)) : Ev fun k => spec_l16Next k u i = some (nextV u.2.2.2.1 i) := by
  refine (spec_label u.2.2.2.1 (u.2.2.2.1.getD i.toNat dT).2.2.2.2.1 hl).mono fun k hk => ?_
  rw [spec_l16Next_e, iteB_pos h0, iteB_pos h1]
  have hw : IntKind.wrap .i64 (i + 1) = i + 1 := wrap_id (by omega) (by omega)
  show bindO (spec_l10Label k u.2.2.2.1 (u.2.2.2.1.getD i.toNat dT).2.2.2.2.1) _ = _
  rw [hk, bindO_some, hw]
  simp only [iteB_ss]
  rfl
theorem impl_nxt (l : List TT) (hl : l.length ≤ 1048576) (i : Int) (h0 : 0 ≤ i) (h1 : i < (l.length : Int)) : Ev fun k => impl_next k l i = some (nextV l i) := by
  refine (impl_label l (l.getD i.toNat dT).2.2.2.2.1 hl).mono fun k hk => ?_
  have hw : IntKind.wrap .i64 (i + 1) = i + 1 := wrap_id (by omega) (by omega)
  have hk' : impl_labelAt k l (List.getD l (Int.toNat i) (Ty.dflt (.pair (.int .i64) (.pair (.int .i64) (.pair (.int .i64) (.pair (.int .i64) (.pair (.int .i64) (.pair .str (.pair (.row (.int .i64)) .unit))))))))).2.2.2.2.1 = some (firstOf (isLab (l.getD i.toNat dT).2.2.2.2.1) l 0) := hk
  rw [impl_next_e, iteB_pos h0, iteB_pos h1]
  simp only [hk', bindO_some, hw, List.nil_append]
  rw [run_uniq k [] (by simp), run_uniq k [firstOf (isLab (l.getD i.toNat dT).2.2.2.2.1) l 0] (by simp), run_uniq k [i + 1, firstOf (isLab (l.getD i.toNat dT).2.2.2.2.1) l 0] (by simp), run_uniq k [i + 1] (by simp)]
  rw [iteB_pos (show List.length [firstOf (isLab (l.getD i.toNat dT).2.2.2.2.1) l 0] * 8 ≤ lim by unfold lim; simp), iteB_pos (show List.length [i + 1, firstOf (isLab (l.getD i.toNat dT).2.2.2.2.1) l 0] * 8 ≤ lim by unfold lim; simp), iteB_pos (show List.length [i + 1] * 8 ≤ lim by unfold lim; simp)]
  simp only [iteB_ss, List.mergeSort_nil, List.mergeSort_singleton, sort2, compact1]
  have c0 : Lib.compact ([] : List Int) = [] := rfl
  have e : Lib.compact (bif decide (i + 1 ≤ firstOf (isLab (l.getD i.toNat dT).2.2.2.2.1) l 0) then [i + 1, firstOf (isLab (l.getD i.toNat dT).2.2.2.2.1) l 0] else [firstOf (isLab (l.getD i.toNat dT).2.2.2.2.1) l 0, i + 1]) =
      (bif decide (firstOf (isLab (l.getD i.toNat dT).2.2.2.2.1) l 0 < i + 1) then [firstOf (isLab (l.getD i.toNat dT).2.2.2.2.1) l 0, i + 1] else bif decide (firstOf (isLab (l.getD i.toNat dT).2.2.2.2.1) l 0 > i + 1) then [i + 1, firstOf (isLab (l.getD i.toNat dT).2.2.2.2.1) l 0] else [i + 1]) := by
    generalize firstOf (isLab (l.getD i.toNat dT).2.2.2.2.1) l 0 = a
    rcases Int.lt_trichotomy a (i + 1) with h | h | h
    · rw [decide_eq_false (show ¬ i + 1 ≤ a by omega), decide_eq_true h]
      have : (a == i + 1) = false := by simp; omega
      simp only [cond_false, cond_true, compact2, this]
    · subst h
      simp only [Int.le_refl, decide_true, cond_true, compact2, BEq.rfl]
      rw [decide_eq_false (show ¬ i + 1 < i + 1 by omega)]
      rfl
    · rw [decide_eq_true (show i + 1 ≤ a by omega), decide_eq_false (show ¬ a < i + 1 by omega), decide_eq_true (show a > i + 1 by omega)]
      have : (i + 1 == a) = false := by simp; omega
      simp only [cond_false, cond_true, compact2, this]
  rw [c0, e]
  rfl
def NextV (u : TU) (i : Int) : List Int := bif unitV u then (bif decide (0 ≤ i ∧ i ≤ IntKind.wrap .i64 ((u.2.2.2.1.length : Int) - 1)) then nextV u.2.2.2.1 i else []) else []
theorem NextV_len (u : TU) (i : Int) : (NextV u i).length ≤ 2 := by
  unfold NextV
  have := nextV_len u.2.2.2.1 i
  cases unitV u <;> cases decide (0 ≤ i ∧ i ≤ IntKind.wrap .i64 ((u.2.2.2.1.length : Int) - 1)) <;> simp only [cond_true, cond_false, List.length_nil] <;> omega
theorem spec_Nxt (u : TU) (h2 : u.2.2.2.1.length ≤ 1048576) (hx : ∀ t ∈ u.2.2.2.1, (TT.args t).length ≤ 1048576) (i : Int) : Ev fun k => spec_Next k u i = some (NextV u i) := by
  by_cases hi : 0 ≤ i ∧ i ≤ IntKind.wrap .i64 ((u.2.2.2.1.length : Int) - 1)
  · have hw : IntKind.wrap .i64 ((u.2.2.2.1.length : Int) - 1) = (u.2.2.2.1.length : Int) - 1 := wrap_id (by omega) (by omega)
    rw [hw] at hi
    refine (spec_unit u h2 hx).two (spec_l16 u h2 i hi.1 (by omega)) fun k a1 a2 => ?_
    rw [spec_Next_e, a1, bindO_some, spec_in, bindO_some, a2, bindO_some]
    unfold NextV
    rw [hw, decide_eq_true hi]
    cases unitV u <;> rfl
  · refine (spec_unit u h2 hx).mono fun k a1 => ?_
    rw [spec_Next_e, a1, bindO_some, spec_in, bindO_some, decide_eq_false hi]
    unfold NextV
    rw [decide_eq_false hi]
    cases unitV u <;> rfl
theorem impl_Nxt (u : TU) (h2 : u.2.2.2.1.length ≤ 1048576) (hx : ∀ t ∈ u.2.2.2.1, (TT.args t).length ≤ 1048576) (i : Int) : Ev fun k => impl_Next k u i = some (NextV u i) := by
  by_cases hi : 0 ≤ i ∧ i ≤ IntKind.wrap .i64 ((u.2.2.2.1.length : Int) - 1)
  · have hw : IntKind.wrap .i64 ((u.2.2.2.1.length : Int) - 1) = (u.2.2.2.1.length : Int) - 1 := wrap_id (by omega) (by omega)
    rw [hw] at hi
    refine (impl_unit u h2 hx).two (impl_nxt u.2.2.2.1 h2 i hi.1 (by omega)) fun k a1 a2 => ?_
    rw [impl_Next_e, a1, bindO_some, impl_in, bindO_some, a2, bindO_some]
    unfold NextV
    rw [hw, decide_eq_true hi]
    cases unitV u <;> rfl
  · refine (impl_unit u h2 hx).mono fun k a1 => ?_
    rw [impl_Next_e, a1, bindO_some, impl_in, bindO_some, decide_eq_false hi]
    unfold NextV
    rw [decide_eq_false hi]
    cases unitV u <;> rfl

theorem FnExactNext : ∀ (x0 : TU) (x1 : Int), WfT (.pair .str (.pair (.int .i64) (.pair (.int .i64) (.pair (.row (.pair (.int .i64) (.pair (.int .i64) (.pair (.int .i64) (.pair (.int .i64) (.pair (.int .i64) (.pair .str (.pair (.row (.int .i64)) .unit)))))))) .unit)))) x0 → WfT (.int .i64) x1 → ∃ k, laws_FnExactNext k x0 x1 = some true := by
  intro x i hx hi
  refine Ev.get ?_
  obtain ⟨r, ev, le, fit⟩ := szUnit_ok x hx 1048576 (by omega) (by omega)
  by_cases c : r < 0
  · exact ev.mono fun k h => by
      replace h : laws_szUnit k x 1048576 = some r := h
      rw [laws_FnExactNext_e, h, bindO_some, iteB_pos c]
  · have hf := fit (by omega)
    have h2 : x.2.2.2.1.length ≤ 1048576 := hf.2.2.2.1.1
    have h3 : ∀ t ∈ x.2.2.2.1, (TT.args t).length ≤ 1048576 := fun t m => (hf.2.2.2.1.2 t m).2.2.2.2.2.2.1.1
    generalize ho : NextV x i = o
    have hol : o.length ≤ 1048576 := by rw [← ho]; have := NextV_len x i; omega
    have hofit : FitT (.row (.int .i64)) o := ⟨hol, fun _ _ => trivial⟩
    refine ((ev.and (toUnit_ok x hf)).and ((spec_Nxt x h2 h3 i).and (impl_Nxt x h2 h3 i))).two ((((eqIntS_ok o hofit).and (eqUnit_ok x hf)).and ((mark_ints o hol).and (held_ints o.length hol))).and ((markTacS_ok x.2.2.2.1 hf.2.2.2.1).and (Ev.gt 0))) fun k h1 h2 => ?_
    obtain ⟨⟨a1, a2⟩, a3, a4⟩ := h1
    obtain ⟨⟨⟨a5, a6⟩, a7, a8⟩, b1, b5⟩ := h2
    rw [ho] at a3 a4
    replace a1 : laws_szUnit k x 1048576 = some r := a1
    replace a2 : laws_toUnit k x = some x := a2
    replace a3 : spec_Next k (x.1, x.2.1, x.2.2.1, x.2.2.2.1, ()) i = some o := a3
    replace a4 : impl_Next k (x.1, x.2.1, x.2.2.1, x.2.2.2.1, ()) i = some o := a4
    replace a5 : laws_eqIntS k o o = some true := a5
    replace a6 : laws_eqUnit k (x.1, x.2.1, x.2.2.1, x.2.2.2.1, ()) (x.1, x.2.1, x.2.2.1, x.2.2.2.1, ()) = some true := a6
    obtain ⟨r1, (z1 : List TT), e1, g1, u1⟩ := b1 1 (by omega) (by omega)
    replace e1 : laws_markTacS k x.2.2.2.1 1 = some (r1, z1) := e1
    have n1 : decide (r1 < 0) = false := decide_eq_false (by omega)
    have n2 : decide (1 + (o.length : Int) < 0) = false := decide_eq_false (by omega)
    have n3 : ((1 + (o.length : Int)) != (1 + (o.length : Int))) = false := by simp
    have j : laws_FnExactNext.j16 k i x o o = some true := by
      rw [laws_FnExactNext.j16_e]
      simp only [a7, a8, a2, a4, a5, bindO_some, n2, n3, iteB_false, Bool.not_true]
    rw [laws_FnExactNext_e]
    simp only [a1, bindO_some, iteB_neg c, a2, a3, a4, a5, a6, e1, n1, Bool.not_true, Bool.not_false, iteB_false, iteB_true, gate_pos b5, j]

end Go.Proofs.Ytampamlgkfhliaa.Pure
