/- What the functions that FnExactMachineOk runs come to, and that the law's own run comes to true. -/
import Derived.Test.YtapijpjgfpjahaaAC
import Derived.Test.YtapijpjgfpjahaaAMFnExactMachineOk0
import Derived.Test.YtapijpjgfpjahaaAMFnExactMachineOk1
import Derived.Test.YtapijpjgfpjahaaAMFnExactMachineOk2
import Derived.Test.YtapijpjgfpjahaaAMFnExactMachineOk3
import Derived.Test.YtapijpjgfpjahaaAMFnExactMachineOk4
import Derived.Test.YtapijpjgfpjahaaAMFnExactMachineOk5
namespace Go.Proofs.Ytapijpjgfpjahaa.Pure
open Go Go.AM Go.AMx Go.Proofs.Ytapijpjgfpjahaa.XFnExactMachineOk
set_option linter.unusedVariables false
set_option linter.unusedSimpArgs false
theorem szInsS_ok : SzOk (.row (.pair (.int .i64) (.pair (.int .i64) (.pair (.int .i64) (.pair (.int .i64) (.pair (.int .i64) (.pair (.int .i64) .unit))))))) laws_szInsS := sz_flat (e := (.pair (.int .i64) (.pair (.int .i64) (.pair (.int .i64) (.pair (.int .i64) (.pair (.int .i64) (.pair (.int .i64) .unit))))))) (fun _ => ⟨trivial, trivial, trivial, trivial, trivial, trivial, trivial⟩) laws_szInsS_e
theorem szIntS_ok : SzOk (.row (.int .i64)) laws_szIntS := sz_flat (e := (.int .i64)) (fun _ => trivial) laws_szIntS_e
theorem szCore_ok : SzOk (.pair (.int .i64) (.pair (.int .i64) (.pair (.row (.int .i64)) .unit))) laws_szCore := fun (a1 : Int × Int × (List Int) × Unit) (hx : WfT (.pair (.int .i64) (.pair (.int .i64) (.pair (.row (.int .i64)) .unit))) a1) a2 h0 h1 => ((SzE.call h0 (szIntS_ok a1.2.2.1 hx.2.2.1 _ h0 h1) fun r1 p0_ q0_ => SzE.done (Int.le_refl _)).to fun h => ⟨trivial, trivial, h.1, trivial⟩).eq fun k => laws_szCore_e k a1 a2
theorem szCoreS_ok : SzOk (.row (.pair (.int .i64) (.pair (.int .i64) (.pair (.row (.int .i64)) .unit)))) laws_szCoreS := sz_row (α := (Int × Int × (List Int) × Unit)) (W := WfT (.pair (.int .i64) (.pair (.int .i64) (.pair (.row (.int .i64)) .unit)))) (F := FitT (.pair (.int .i64) (.pair (.int .i64) (.pair (.row (.int .i64)) .unit)))) (d := (Ty.dflt (.pair (.int .i64) (.pair (.int .i64) (.pair (.row (.int .i64)) .unit))))) (S := laws_szCoreS) (L := laws_szCoreS.l5) (f := laws_szCore) szCore_ok laws_szCoreS.l5_s laws_szCoreS_e
theorem szNoteS_ok : SzOk (.row (.pair (.int .i64) (.pair (.int .i64) .unit))) laws_szNoteS := sz_flat (e := (.pair (.int .i64) (.pair (.int .i64) .unit))) (fun _ => ⟨trivial, trivial, trivial⟩) laws_szNoteS_e
theorem szMachine_ok : SzOk (.pair (.row (.pair (.int .i64) (.pair (.int .i64) (.pair (.int .i64) (.pair (.int .i64) (.pair (.int .i64) (.pair (.int .i64) .unit))))))) (.pair (.row (.int .i64)) (.pair (.row (.pair (.int .i64) (.pair (.int .i64) (.pair (.row (.int .i64)) .unit)))) (.pair (.row (.int .i64)) (.pair (.row (.pair (.int .i64) (.pair (.int .i64) .unit))) (.pair .bool (.pair (.int .i64) .unit))))))) laws_szMachine := fun (a1 : (List (Int × Int × Int × Int × Int × Int × Unit)) × (List Int) × (List (Int × Int × (List Int) × Unit)) × (List Int) × (List (Int × Int × Unit)) × Bool × Int × Unit) (hx : WfT (.pair (.row (.pair (.int .i64) (.pair (.int .i64) (.pair (.int .i64) (.pair (.int .i64) (.pair (.int .i64) (.pair (.int .i64) .unit))))))) (.pair (.row (.int .i64)) (.pair (.row (.pair (.int .i64) (.pair (.int .i64) (.pair (.row (.int .i64)) .unit)))) (.pair (.row (.int .i64)) (.pair (.row (.pair (.int .i64) (.pair (.int .i64) .unit))) (.pair .bool (.pair (.int .i64) .unit))))))) a1) a2 h0 h1 => ((SzE.call h0 (szInsS_ok a1.1 hx.1 _ h0 h1) fun r1 p0_ q0_ => SzE.call p0_ (szIntS_ok a1.2.1 hx.2.1 _ p0_ (by omega)) fun r2 p1_ q1_ => SzE.call p1_ (szCoreS_ok a1.2.2.1 hx.2.2.1 _ p1_ (by omega)) fun r3 p2_ q2_ => SzE.call p2_ (szIntS_ok a1.2.2.2.1 hx.2.2.2.1 _ p2_ (by omega)) fun r4 p3_ q3_ => SzE.call p3_ (szNoteS_ok a1.2.2.2.2.1 hx.2.2.2.2.1 _ p3_ (by omega)) fun r5 p4_ q4_ => SzE.done (Int.le_refl _)).to fun h => ⟨h.1, h.2.1, h.2.2.1, h.2.2.2.1, h.2.2.2.2.1, trivial, trivial, trivial⟩).eq fun k => laws_szMachine_e k a1 a2
theorem toIns_ok : ToOk (.pair (.int .i64) (.pair (.int .i64) (.pair (.int .i64) (.pair (.int .i64) (.pair (.int .i64) (.pair (.int .i64) .unit)))))) laws_toIns := fun (a1 : Int × Int × Int × Int × Int × Int × Unit) (hx : FitT (.pair (.int .i64) (.pair (.int .i64) (.pair (.int .i64) (.pair (.int .i64) (.pair (.int .i64) (.pair (.int .i64) .unit)))))) a1) => (show Ev fun k => (some (a1.1, a1.2.1, a1.2.2.1, a1.2.2.2.1, a1.2.2.2.2.1, a1.2.2.2.2.2.1, ())) = some a1 from Ev.of fun _ => rfl).mono fun k h => (laws_toIns_e k a1).trans h
theorem toInsS_ok : ToOk (.row (.pair (.int .i64) (.pair (.int .i64) (.pair (.int .i64) (.pair (.int .i64) (.pair (.int .i64) (.pair (.int .i64) .unit))))))) laws_toInsS := to_row (α := (Int × Int × Int × Int × Int × Int × Unit)) (c := 48) (F := FitT (.pair (.int .i64) (.pair (.int .i64) (.pair (.int .i64) (.pair (.int .i64) (.pair (.int .i64) (.pair (.int .i64) .unit))))))) (d := (Ty.dflt (.pair (.int .i64) (.pair (.int .i64) (.pair (.int .i64) (.pair (.int .i64) (.pair (.int .i64) (.pair (.int .i64) .unit)))))))) (d' := (Ty.dflt (.pair (.int .i64) (.pair (.int .i64) (.pair (.int .i64) (.pair (.int .i64) (.pair (.int .i64) (.pair (.int .i64) .unit)))))))) (S := laws_toInsS) (L := laws_toInsS.l3) (f := laws_toIns) toIns_ok laws_toInsS.l3_s laws_toInsS_e (by decide)
theorem toIntS_ok : ToOk (.row (.int .i64)) laws_toIntS := to_words (α := Int) (c := 8) (F := FitT (.int .i64)) (d := 0) (d' := 0) (S := laws_toIntS) (L := laws_toIntS.l3) laws_toIntS.l3_s laws_toIntS_e (by decide)
theorem toCore_ok : ToOk (.pair (.int .i64) (.pair (.int .i64) (.pair (.row (.int .i64)) .unit))) laws_toCore := fun (a1 : Int × Int × (List Int) × Unit) (hx : FitT (.pair (.int .i64) (.pair (.int .i64) (.pair (.row (.int .i64)) .unit))) a1) => (show Ev fun k => (bindO (laws_toIntS k a1.2.2.1) fun r1 => (some (a1.1, a1.2.1, r1, ()))) = some a1 from To.call (toIntS_ok a1.2.2.1 hx.2.2.1) (Ev.of fun _ => rfl)).mono fun k h => (laws_toCore_e k a1).trans h
theorem toCoreS_ok : ToOk (.row (.pair (.int .i64) (.pair (.int .i64) (.pair (.row (.int .i64)) .unit)))) laws_toCoreS := to_row (α := (Int × Int × (List Int) × Unit)) (c := 40) (F := FitT (.pair (.int .i64) (.pair (.int .i64) (.pair (.row (.int .i64)) .unit)))) (d := (Ty.dflt (.pair (.int .i64) (.pair (.int .i64) (.pair (.row (.int .i64)) .unit))))) (d' := (Ty.dflt (.pair (.int .i64) (.pair (.int .i64) (.pair (.row (.int .i64)) .unit))))) (S := laws_toCoreS) (L := laws_toCoreS.l3) (f := laws_toCore) toCore_ok laws_toCoreS.l3_s laws_toCoreS_e (by decide)
theorem toNote_ok : ToOk (.pair (.int .i64) (.pair (.int .i64) .unit)) laws_toNote := fun (a1 : Int × Int × Unit) (hx : FitT (.pair (.int .i64) (.pair (.int .i64) .unit)) a1) => (show Ev fun k => (some (a1.1, a1.2.1, ())) = some a1 from Ev.of fun _ => rfl).mono fun k h => (laws_toNote_e k a1).trans h
theorem toNoteS_ok : ToOk (.row (.pair (.int .i64) (.pair (.int .i64) .unit))) laws_toNoteS := to_row (α := (Int × Int × Unit)) (c := 16) (F := FitT (.pair (.int .i64) (.pair (.int .i64) .unit))) (d := (Ty.dflt (.pair (.int .i64) (.pair (.int .i64) .unit)))) (d' := (Ty.dflt (.pair (.int .i64) (.pair (.int .i64) .unit)))) (S := laws_toNoteS) (L := laws_toNoteS.l3) (f := laws_toNote) toNote_ok laws_toNoteS.l3_s laws_toNoteS_e (by decide)
theorem toMachine_ok : ToOk (.pair (.row (.pair (.int .i64) (.pair (.int .i64) (.pair (.int .i64) (.pair (.int .i64) (.pair (.int .i64) (.pair (.int .i64) .unit))))))) (.pair (.row (.int .i64)) (.pair (.row (.pair (.int .i64) (.pair (.int .i64) (.pair (.row (.int .i64)) .unit)))) (.pair (.row (.int .i64)) (.pair (.row (.pair (.int .i64) (.pair (.int .i64) .unit))) (.pair .bool (.pair (.int .i64) .unit))))))) laws_toMachine := fun (a1 : (List (Int × Int × Int × Int × Int × Int × Unit)) × (List Int) × (List (Int × Int × (List Int) × Unit)) × (List Int) × (List (Int × Int × Unit)) × Bool × Int × Unit) (hx : FitT (.pair (.row (.pair (.int .i64) (.pair (.int .i64) (.pair (.int .i64) (.pair (.int .i64) (.pair (.int .i64) (.pair (.int .i64) .unit))))))) (.pair (.row (.int .i64)) (.pair (.row (.pair (.int .i64) (.pair (.int .i64) (.pair (.row (.int .i64)) .unit)))) (.pair (.row (.int .i64)) (.pair (.row (.pair (.int .i64) (.pair (.int .i64) .unit))) (.pair .bool (.pair (.int .i64) .unit))))))) a1) => (show Ev fun k => (bindO (laws_toInsS k a1.1) fun r1 => (bindO (laws_toIntS k a1.2.1) fun r2 => (bindO (laws_toCoreS k a1.2.2.1) fun r3 => (bindO (laws_toIntS k a1.2.2.2.1) fun r4 => (bindO (laws_toNoteS k a1.2.2.2.2.1) fun r5 => (some (r1, r2, r3, r4, r5, a1.2.2.2.2.2.1, a1.2.2.2.2.2.2.1, ()))))))) = some a1 from To.call (toInsS_ok a1.1 hx.1) (To.call (toIntS_ok a1.2.1 hx.2.1) (To.call (toCoreS_ok a1.2.2.1 hx.2.2.1) (To.call (toIntS_ok a1.2.2.2.1 hx.2.2.2.1) (To.call (toNoteS_ok a1.2.2.2.2.1 hx.2.2.2.2.1) (Ev.of fun _ => rfl)))))).mono fun k h => (laws_toMachine_e k a1).trans h
theorem eqIns_ok : EqOk (.pair (.int .i64) (.pair (.int .i64) (.pair (.int .i64) (.pair (.int .i64) (.pair (.int .i64) (.pair (.int .i64) .unit)))))) laws_eqIns := fun (a1 : Int × Int × Int × Int × Int × Int × Unit) (hx : FitT (.pair (.int .i64) (.pair (.int .i64) (.pair (.int .i64) (.pair (.int .i64) (.pair (.int .i64) (.pair (.int .i64) .unit)))))) a1) => EqE.eq (fun k => laws_eqIns_e k a1 a1) (EqE.word (by simp) (EqE.word (by simp) (EqE.word (by simp) (EqE.word (by simp) (EqE.word (by simp) (EqE.word (by simp) (EqE.done)))))))
theorem eqInsS_ok : EqOk (.row (.pair (.int .i64) (.pair (.int .i64) (.pair (.int .i64) (.pair (.int .i64) (.pair (.int .i64) (.pair (.int .i64) .unit))))))) laws_eqInsS := eq_row (α := (Int × Int × Int × Int × Int × Int × Unit)) (F := FitT (.pair (.int .i64) (.pair (.int .i64) (.pair (.int .i64) (.pair (.int .i64) (.pair (.int .i64) (.pair (.int .i64) .unit))))))) (d := (Ty.dflt (.pair (.int .i64) (.pair (.int .i64) (.pair (.int .i64) (.pair (.int .i64) (.pair (.int .i64) (.pair (.int .i64) .unit)))))))) (S := laws_eqInsS) (L := laws_eqInsS.l4) (f := laws_eqIns) eqIns_ok laws_eqInsS.l4_s laws_eqInsS_e
theorem eqIntS_ok : EqOk (.row (.int .i64)) laws_eqIntS := eq_words (α := Int) (F := FitT (.int .i64)) (d := 0) (S := laws_eqIntS) (L := laws_eqIntS.l4) (p := (fun x y => x != y)) (fun x => by simp) laws_eqIntS.l4_s laws_eqIntS_e
theorem eqCore_ok : EqOk (.pair (.int .i64) (.pair (.int .i64) (.pair (.row (.int .i64)) .unit))) laws_eqCore := fun (a1 : Int × Int × (List Int) × Unit) (hx : FitT (.pair (.int .i64) (.pair (.int .i64) (.pair (.row (.int .i64)) .unit))) a1) => EqE.eq (fun k => laws_eqCore_e k a1 a1) (EqE.word (by simp) (EqE.word (by simp) (EqE.call (eqIntS_ok a1.2.2.1 hx.2.2.1) (EqE.done))))
theorem eqCoreS_ok : EqOk (.row (.pair (.int .i64) (.pair (.int .i64) (.pair (.row (.int .i64)) .unit)))) laws_eqCoreS := eq_row (α := (Int × Int × (List Int) × Unit)) (F := FitT (.pair (.int .i64) (.pair (.int .i64) (.pair (.row (.int .i64)) .unit)))) (d := (Ty.dflt (.pair (.int .i64) (.pair (.int .i64) (.pair (.row (.int .i64)) .unit))))) (S := laws_eqCoreS) (L := laws_eqCoreS.l4) (f := laws_eqCore) eqCore_ok laws_eqCoreS.l4_s laws_eqCoreS_e
theorem eqNote_ok : EqOk (.pair (.int .i64) (.pair (.int .i64) .unit)) laws_eqNote := fun (a1 : Int × Int × Unit) (hx : FitT (.pair (.int .i64) (.pair (.int .i64) .unit)) a1) => EqE.eq (fun k => laws_eqNote_e k a1 a1) (EqE.word (by simp) (EqE.word (by simp) (EqE.done)))
theorem eqNoteS_ok : EqOk (.row (.pair (.int .i64) (.pair (.int .i64) .unit))) laws_eqNoteS := eq_row (α := (Int × Int × Unit)) (F := FitT (.pair (.int .i64) (.pair (.int .i64) .unit))) (d := (Ty.dflt (.pair (.int .i64) (.pair (.int .i64) .unit)))) (S := laws_eqNoteS) (L := laws_eqNoteS.l4) (f := laws_eqNote) eqNote_ok laws_eqNoteS.l4_s laws_eqNoteS_e
theorem eqMachine_ok : EqOk (.pair (.row (.pair (.int .i64) (.pair (.int .i64) (.pair (.int .i64) (.pair (.int .i64) (.pair (.int .i64) (.pair (.int .i64) .unit))))))) (.pair (.row (.int .i64)) (.pair (.row (.pair (.int .i64) (.pair (.int .i64) (.pair (.row (.int .i64)) .unit)))) (.pair (.row (.int .i64)) (.pair (.row (.pair (.int .i64) (.pair (.int .i64) .unit))) (.pair .bool (.pair (.int .i64) .unit))))))) laws_eqMachine := fun (a1 : (List (Int × Int × Int × Int × Int × Int × Unit)) × (List Int) × (List (Int × Int × (List Int) × Unit)) × (List Int) × (List (Int × Int × Unit)) × Bool × Int × Unit) (hx : FitT (.pair (.row (.pair (.int .i64) (.pair (.int .i64) (.pair (.int .i64) (.pair (.int .i64) (.pair (.int .i64) (.pair (.int .i64) .unit))))))) (.pair (.row (.int .i64)) (.pair (.row (.pair (.int .i64) (.pair (.int .i64) (.pair (.row (.int .i64)) .unit)))) (.pair (.row (.int .i64)) (.pair (.row (.pair (.int .i64) (.pair (.int .i64) .unit))) (.pair .bool (.pair (.int .i64) .unit))))))) a1) => EqE.eq (fun k => laws_eqMachine_e k a1 a1) (EqE.call (eqInsS_ok a1.1 hx.1) (EqE.call (eqIntS_ok a1.2.1 hx.2.1) (EqE.call (eqCoreS_ok a1.2.2.1 hx.2.2.1) (EqE.call (eqIntS_ok a1.2.2.2.1 hx.2.2.2.1) (EqE.call (eqNoteS_ok a1.2.2.2.2.1 hx.2.2.2.2.1) (EqE.word (by simp) (EqE.word (by simp) (EqE.done))))))))

/-! Words. -/
def wok (x : Int) : Bool := decide (-2147483648 ≤ x ∧ x ≤ 2147483647)
theorem spec_in (k : Nat) (x lo hi : Int) : spec_l1In k x lo hi = some (decide (lo ≤ x ∧ x ≤ hi)) := by rw [spec_l1In_e, in_ge]
theorem impl_in (k : Nat) (x lo hi : Int) : impl_within k x lo hi = some (decide (lo ≤ x ∧ x ≤ hi)) := by rw [impl_within_e, in_ge]
theorem spec_wok (k : Nat) (x : Int) : spec_WordOk k x = some (wok x) := by rw [spec_WordOk_e, spec_in, bindO_some]; rfl
theorem impl_wok (k : Nat) (x : Int) : impl_WordOk k x = some (wok x) := by rw [impl_WordOk_e, impl_in, bindO_some]; rfl
theorem spec_words (l : List Int) (hl : l.length ≤ 1048576) : Ev fun k => spec_l3Words k l = some (l.all wok) := by
  refine (all_rounds l 0 (f := spec_WordOk) (p := wok) (L := fun k n i => spec_l3Words.l2 k n l i) (e := fun _ => some true) (fun x _ => Ev.of fun k => spec_wok k x) (Ev.of fun _ => rfl) (fun k n i h0 h1 => ?_) (fun k n i h => ?_)).mono fun k h => ?_
  · show spec_l3Words.l2 k (n + 1) l i = _
    rw [spec_l3Words.l2_s, iteB_pos h1, iteB_pos h0, iteB_pos h1, next_i h0 h1 (by omega)]
  · show spec_l3Words.l2 k (n + 1) l i = _
    rw [spec_l3Words.l2_s, iteB_neg (by omega)]
  · rw [spec_l3Words_e]; simpa using h

/-! Places of an image. -/
theorem fsz_0 : ((ByteArray.size (⟨#[82, 78]⟩ : ByteArray) : Nat) : Int) = 2 := rfl
theorem fby_0_0 : byteAt (⟨#[82, 78]⟩ : ByteArray) 0 = 82 := rfl
theorem fby_0_1 : byteAt (⟨#[82, 78]⟩ : ByteArray) 1 = 78 := rfl
theorem fnil_0 : (!(ByteArray.toList (⟨#[82, 78]⟩ : ByteArray) == ByteArray.toList (⟨#[]⟩ : ByteArray))) = true := by kernel_rfl
theorem fsz_1 : ((ByteArray.size (⟨#[82, 65]⟩ : ByteArray) : Nat) : Int) = 2 := rfl
theorem fby_1_0 : byteAt (⟨#[82, 65]⟩ : ByteArray) 0 = 82 := rfl
theorem fby_1_1 : byteAt (⟨#[82, 65]⟩ : ByteArray) 1 = 65 := rfl
theorem fnil_1 : (!(ByteArray.toList (⟨#[82, 65]⟩ : ByteArray) == ByteArray.toList (⟨#[]⟩ : ByteArray))) = true := by kernel_rfl
theorem fsz_2 : ((ByteArray.size (⟨#[82, 65, 66]⟩ : ByteArray) : Nat) : Int) = 3 := rfl
theorem fby_2_0 : byteAt (⟨#[82, 65, 66]⟩ : ByteArray) 0 = 82 := rfl
theorem fby_2_1 : byteAt (⟨#[82, 65, 66]⟩ : ByteArray) 1 = 65 := rfl
theorem fby_2_2 : byteAt (⟨#[82, 65, 66]⟩ : ByteArray) 2 = 66 := rfl
theorem fnil_2 : (!(ByteArray.toList (⟨#[82, 65, 66]⟩ : ByteArray) == ByteArray.toList (⟨#[]⟩ : ByteArray))) = true := by kernel_rfl
theorem fsz_3 : ((ByteArray.size (⟨#[82, 65, 78]⟩ : ByteArray) : Nat) : Int) = 3 := rfl
theorem fby_3_0 : byteAt (⟨#[82, 65, 78]⟩ : ByteArray) 0 = 82 := rfl
theorem fby_3_1 : byteAt (⟨#[82, 65, 78]⟩ : ByteArray) 1 = 65 := rfl
theorem fby_3_2 : byteAt (⟨#[82, 65, 78]⟩ : ByteArray) 2 = 78 := rfl
theorem fnil_3 : (!(ByteArray.toList (⟨#[82, 65, 78]⟩ : ByteArray) == ByteArray.toList (⟨#[]⟩ : ByteArray))) = true := by kernel_rfl
theorem fsz_4 : ((ByteArray.size (⟨#[65, 66, 78]⟩ : ByteArray) : Nat) : Int) = 3 := rfl
theorem fby_4_0 : byteAt (⟨#[65, 66, 78]⟩ : ByteArray) 0 = 65 := rfl
theorem fby_4_1 : byteAt (⟨#[65, 66, 78]⟩ : ByteArray) 1 = 66 := rfl
theorem fby_4_2 : byteAt (⟨#[65, 66, 78]⟩ : ByteArray) 2 = 78 := rfl
theorem fnil_4 : (!(ByteArray.toList (⟨#[65, 66, 78]⟩ : ByteArray) == ByteArray.toList (⟨#[]⟩ : ByteArray))) = true := by kernel_rfl
theorem fsz_5 : ((ByteArray.size (⟨#[78]⟩ : ByteArray) : Nat) : Int) = 1 := rfl
theorem fby_5_0 : byteAt (⟨#[78]⟩ : ByteArray) 0 = 78 := rfl
theorem fnil_5 : (!(ByteArray.toList (⟨#[78]⟩ : ByteArray) == ByteArray.toList (⟨#[]⟩ : ByteArray))) = true := by kernel_rfl
theorem fsz_6 : ((ByteArray.size (⟨#[65, 78]⟩ : ByteArray) : Nat) : Int) = 2 := rfl
theorem fby_6_0 : byteAt (⟨#[65, 78]⟩ : ByteArray) 0 = 65 := rfl
theorem fby_6_1 : byteAt (⟨#[65, 78]⟩ : ByteArray) 1 = 78 := rfl
theorem fnil_6 : (!(ByteArray.toList (⟨#[65, 78]⟩ : ByteArray) == ByteArray.toList (⟨#[]⟩ : ByteArray))) = true := by kernel_rfl
theorem fsz_7 : ((ByteArray.size (⟨#[78, 77]⟩ : ByteArray) : Nat) : Int) = 2 := rfl
theorem fby_7_0 : byteAt (⟨#[78, 77]⟩ : ByteArray) 0 = 78 := rfl
theorem fby_7_1 : byteAt (⟨#[78, 77]⟩ : ByteArray) 1 = 77 := rfl
theorem fnil_7 : (!(ByteArray.toList (⟨#[78, 77]⟩ : ByteArray) == ByteArray.toList (⟨#[]⟩ : ByteArray))) = true := by kernel_rfl
theorem fsz_8 : ((ByteArray.size (⟨#[45]⟩ : ByteArray) : Nat) : Int) = 1 := rfl
theorem fby_8_0 : byteAt (⟨#[45]⟩ : ByteArray) 0 = 45 := rfl
theorem fnil_8 : (!(ByteArray.toList (⟨#[45]⟩ : ByteArray) == ByteArray.toList (⟨#[]⟩ : ByteArray))) = true := by kernel_rfl
theorem fsz_9 : ((ByteArray.size (⟨#[65]⟩ : ByteArray) : Nat) : Int) = 1 := rfl
theorem fby_9_0 : byteAt (⟨#[65]⟩ : ByteArray) 0 = 65 := rfl
theorem fnil_9 : (!(ByteArray.toList (⟨#[65]⟩ : ByteArray) == ByteArray.toList (⟨#[]⟩ : ByteArray))) = true := by kernel_rfl
theorem fsz_10 : ((ByteArray.size (⟨#[65, 66]⟩ : ByteArray) : Nat) : Int) = 2 := rfl
theorem fby_10_0 : byteAt (⟨#[65, 66]⟩ : ByteArray) 0 = 65 := rfl
theorem fby_10_1 : byteAt (⟨#[65, 66]⟩ : ByteArray) 1 = 66 := rfl
theorem fnil_10 : (!(ByteArray.toList (⟨#[65, 66]⟩ : ByteArray) == ByteArray.toList (⟨#[]⟩ : ByteArray))) = true := by kernel_rfl
theorem fsz_11 : ((ByteArray.size (⟨#[82]⟩ : ByteArray) : Nat) : Int) = 1 := rfl
theorem fby_11_0 : byteAt (⟨#[82]⟩ : ByteArray) 0 = 82 := rfl
theorem fnil_11 : (!(ByteArray.toList (⟨#[82]⟩ : ByteArray) == ByteArray.toList (⟨#[]⟩ : ByteArray))) = true := by kernel_rfl
theorem fsz_12 : ((ByteArray.size (⟨#[]⟩ : ByteArray) : Nat) : Int) = 0 := rfl
theorem fnil_12 : (!(ByteArray.toList (⟨#[]⟩ : ByteArray) == ByteArray.toList (⟨#[]⟩ : ByteArray))) = false := by kernel_rfl
theorem wr_1 : IntKind.wrap .i64 1 = 1 := rfl
theorem wr_2 : IntKind.wrap .i64 2 = 2 := rfl
theorem wr_3 : IntKind.wrap .i64 3 = 3 := rfl
theorem wr_4 : IntKind.wrap .i64 4 = 4 := rfl
def bit (h b : Int) : Bool := (IntKind.wrap .i64 ((BitVec.ofInt (IntKind.bits .i64) h &&& BitVec.ofInt (IntKind.bits .i64) b).toNat : Int)) != 0
theorem bit_0_1 : bit 0 1 = false := by kernel_rfl
theorem bit_0_2 : bit 0 2 = false := by kernel_rfl
theorem bit_0_4 : bit 0 4 = false := by kernel_rfl
theorem bit_0_8 : bit 0 8 = false := by kernel_rfl
theorem bit_0_16 : bit 0 16 = false := by kernel_rfl
theorem bit_1_1 : bit 1 1 = true := by kernel_rfl
theorem bit_1_2 : bit 1 2 = false := by kernel_rfl
theorem bit_1_4 : bit 1 4 = false := by kernel_rfl
theorem bit_1_8 : bit 1 8 = false := by kernel_rfl
theorem bit_1_16 : bit 1 16 = false := by kernel_rfl
theorem bit_2_1 : bit 2 1 = false := by kernel_rfl
theorem bit_2_2 : bit 2 2 = true := by kernel_rfl
theorem bit_2_4 : bit 2 4 = false := by kernel_rfl
theorem bit_2_8 : bit 2 8 = false := by kernel_rfl
theorem bit_2_16 : bit 2 16 = false := by kernel_rfl
theorem bit_3_1 : bit 3 1 = true := by kernel_rfl
theorem bit_3_2 : bit 3 2 = true := by kernel_rfl
theorem bit_3_4 : bit 3 4 = false := by kernel_rfl
theorem bit_3_8 : bit 3 8 = false := by kernel_rfl
theorem bit_3_16 : bit 3 16 = false := by kernel_rfl
theorem bit_6_1 : bit 6 1 = false := by kernel_rfl
theorem bit_6_2 : bit 6 2 = true := by kernel_rfl
theorem bit_6_4 : bit 6 4 = true := by kernel_rfl
theorem bit_6_8 : bit 6 8 = false := by kernel_rfl
theorem bit_6_16 : bit 6 16 = false := by kernel_rfl
theorem bit_7_1 : bit 7 1 = true := by kernel_rfl
theorem bit_7_2 : bit 7 2 = true := by kernel_rfl
theorem bit_7_4 : bit 7 4 = true := by kernel_rfl
theorem bit_7_8 : bit 7 8 = false := by kernel_rfl
theorem bit_7_16 : bit 7 16 = false := by kernel_rfl
theorem bit_8_1 : bit 8 1 = false := by kernel_rfl
theorem bit_8_2 : bit 8 2 = false := by kernel_rfl
theorem bit_8_4 : bit 8 4 = false := by kernel_rfl
theorem bit_8_8 : bit 8 8 = true := by kernel_rfl
theorem bit_8_16 : bit 8 16 = false := by kernel_rfl
theorem bit_9_1 : bit 9 1 = true := by kernel_rfl
theorem bit_9_2 : bit 9 2 = false := by kernel_rfl
theorem bit_9_4 : bit 9 4 = false := by kernel_rfl
theorem bit_9_8 : bit 9 8 = true := by kernel_rfl
theorem bit_9_16 : bit 9 16 = false := by kernel_rfl
theorem bit_10_1 : bit 10 1 = false := by kernel_rfl
theorem bit_10_2 : bit 10 2 = true := by kernel_rfl
theorem bit_10_4 : bit 10 4 = false := by kernel_rfl
theorem bit_10_8 : bit 10 8 = true := by kernel_rfl
theorem bit_10_16 : bit 10 16 = false := by kernel_rfl
theorem bit_11_1 : bit 11 1 = true := by kernel_rfl
theorem bit_11_2 : bit 11 2 = true := by kernel_rfl
theorem bit_11_4 : bit 11 4 = false := by kernel_rfl
theorem bit_11_8 : bit 11 8 = true := by kernel_rfl
theorem bit_11_16 : bit 11 16 = false := by kernel_rfl
theorem bit_14_1 : bit 14 1 = false := by kernel_rfl
theorem bit_14_2 : bit 14 2 = true := by kernel_rfl
theorem bit_14_4 : bit 14 4 = true := by kernel_rfl
theorem bit_14_8 : bit 14 8 = true := by kernel_rfl
theorem bit_14_16 : bit 14 16 = false := by kernel_rfl
theorem bit_24_1 : bit 24 1 = false := by kernel_rfl
theorem bit_24_2 : bit 24 2 = false := by kernel_rfl
theorem bit_24_4 : bit 24 4 = false := by kernel_rfl
theorem bit_24_8 : bit 24 8 = true := by kernel_rfl
theorem bit_24_16 : bit 24 16 = true := by kernel_rfl
def fld (x hi : Int) (has : Bool) : Bool := bif decide (0 ≤ x ∧ x ≤ hi) then (bif !has then x == 0 else true) else false
theorem spec_fld (k : Nat) (x hi : Int) (b : Bool) : spec_l2Field k x hi b = some (fld x hi b) := by
  rw [spec_l2Field_e, spec_in, bindO_some, iteB_ss, iteB_ss]; rfl
def hasN (op : Int) : Int := if 1 ≤ op ∧ op ≤ 19 then List.getD [0, 9, 3, 7, 7, 7, 7, 7, 11, 14, 7, 8, 10, 24, 0, 2, 6, 6, 1, 2] op.toNat 0 else 0
theorem spec_has (k : Nat) (op : Int) : spec_l2Has k op = some (hasN op) := by
  rw [spec_l2Has_e, spec_in, bindO_some]
  unfold hasN
  by_cases h : 1 ≤ op ∧ op ≤ 19
  · rw [decide_eq_true h, Bool.not_true, iteB_false, iteB_pos (by omega), iteB_pos (by simp; omega), if_pos h]
  · rw [decide_eq_false h, Bool.not_false, iteB_true, if_neg h]
abbrev TI : Type := Int × Int × Int × Int × Int × Int × Unit
def insV (h most : Int) (x : TI) : Bool :=
  bif decide (1 ≤ x.1 ∧ x.1 ≤ 19) then (bif fld x.2.1 5 (bit h 1) then (bif fld x.2.2.1 most (bit h 2) then (bif fld x.2.2.2.1 5 (bit h 4) then (bif wok x.2.2.2.2.1 then (bif !(bit h 8) then (bif x.2.2.2.2.1 == 0 then fld x.2.2.2.2.2.1 60 (bit h 16) else false) else fld x.2.2.2.2.2.1 60 (bit h 16)) else false) else false) else false) else false) else false
theorem spec_insj (k : Nat) (h most : Int) (x : TI) : spec_InsOk.j5 k h most x = some (insV h most x) := by
  rw [spec_InsOk.j5_e]
  simp only [spec_in, spec_fld, spec_wok, bindO_some, iteB_ss]
  rfl
def insP (x : TI) : Bool := insV (hasN x.1) (if x.1 = 8 ∨ x.1 = 9 then 6 else 5) x
theorem spec_ins (x : TI) : Ev fun k => spec_InsOk k x = some (insP x) := by
  refine (Ev.gt 0).mono fun k hk => ?_
  rw [spec_InsOk_e, spec_has, bindO_some, gate_pos hk, gate_pos hk, spec_insj, spec_insj, iteB_ss, iteB_ss]
  unfold insP
  by_cases h8 : x.1 = 8
  · have : (!(x.1 == 8)) = false := by simp [h8]
    rw [this, if_pos (.inl h8)]; rfl
  · by_cases h9 : x.1 = 9
    · have a : (!(x.1 == 8)) = true := by simp [h8]
      have b : (x.1 == 9) = true := by simp [h9]
      rw [a, b, if_pos (.inr h9)]; rfl
    · have a : (!(x.1 == 8)) = true := by simp [h8]
      have b : (x.1 == 9) = false := by simp [h9]
      rw [a, b, if_neg (by omega)]; rfl
theorem impl_reg (k : Nat) (x : Int) : impl_isReg k x = some (decide (0 ≤ x ∧ x ≤ 5)) := by rw [impl_isReg_e, impl_in, bindO_some]
theorem op_cases (op : Int) : op = 1 ∨ op = 2 ∨ op = 3 ∨ op = 4 ∨ op = 5 ∨ op = 6 ∨ op = 7 ∨ op = 8 ∨ op = 9 ∨ op = 10 ∨ op = 11 ∨ op = 12 ∨ op = 13 ∨ op = 14 ∨ op = 15 ∨ op = 16 ∨ op = 17 ∨ op = 18 ∨ op = 19 ∨ (op < 1 ∨ 19 < op) := by omega
set_option maxRecDepth 100000 in
theorem impl_ins_1 (r a b n m : Int) (q : Nat) : impl_InsOk (q + 5) (1, r, a, b, n, m, ()) = some (insP (1, r, a, b, n, m, ())) := by
  have e : insP (1, r, a, b, n, m, ()) = insV 9 5 (1, r, a, b, n, m, ()) := rfl
  have hh : impl_has (q + 5) 1 = some (⟨#[82, 78]⟩ : ByteArray) := by rw [impl_has_e]; rfl
  rw [e, impl_InsOk_e, hh, bindO_some, fnil_0, fsz_0]
  simp only [impl_InsOk.l6_s, fsz_0, fby_0_0, fby_0_1, wr_1, wr_2, wr_3, wr_4, Int.toNat_zero, Int.reduceAdd, Int.reduceToNat, Int.reduceLT, Int.reduceLE, Int.reduceBEq, decide_true, decide_false, iteB_true, iteB_false, impl_reg, impl_wok, impl_in, bindO_some, iteB_ss, bit_9_1, bit_9_2, bit_9_4, bit_9_8, bit_9_16]
  congr 1
  simp only [insV, fld, bit_9_1, bit_9_2, bit_9_4, bit_9_8, bit_9_16, Bool.not_true, Bool.not_false, cond_true, cond_false]
  rw [Bool.eq_iff_iff]
  simp [wok]
  all_goals (intros; first | omega | (split <;> omega))
set_option maxRecDepth 100000 in
theorem impl_ins_2 (r a b n m : Int) (q : Nat) : impl_InsOk (q + 5) (2, r, a, b, n, m, ()) = some (insP (2, r, a, b, n, m, ())) := by
  have e : insP (2, r, a, b, n, m, ()) = insV 3 5 (2, r, a, b, n, m, ()) := rfl
  have hh : impl_has (q + 5) 2 = some (⟨#[82, 65]⟩ : ByteArray) := by rw [impl_has_e]; rfl
  rw [e, impl_InsOk_e, hh, bindO_some, fnil_1, fsz_1]
  simp only [impl_InsOk.l6_s, fsz_1, fby_1_0, fby_1_1, wr_1, wr_2, wr_3, wr_4, Int.toNat_zero, Int.reduceAdd, Int.reduceToNat, Int.reduceLT, Int.reduceLE, Int.reduceBEq, decide_true, decide_false, iteB_true, iteB_false, impl_reg, impl_wok, impl_in, bindO_some, iteB_ss, bit_3_1, bit_3_2, bit_3_4, bit_3_8, bit_3_16]
  congr 1
  simp only [insV, fld, bit_3_1, bit_3_2, bit_3_4, bit_3_8, bit_3_16, Bool.not_true, Bool.not_false, cond_true, cond_false]
  rw [Bool.eq_iff_iff]
  simp [wok]
  all_goals (intros; first | omega | (split <;> omega))
set_option maxRecDepth 100000 in
theorem impl_ins_3 (r a b n m : Int) (q : Nat) : impl_InsOk (q + 5) (3, r, a, b, n, m, ()) = some (insP (3, r, a, b, n, m, ())) := by
  have e : insP (3, r, a, b, n, m, ()) = insV 7 5 (3, r, a, b, n, m, ()) := rfl
  have hh : impl_has (q + 5) 3 = some (⟨#[82, 65, 66]⟩ : ByteArray) := by rw [impl_has_e]; rfl
  rw [e, impl_InsOk_e, hh, bindO_some, fnil_2, fsz_2]
  simp only [impl_InsOk.l6_s, fsz_2, fby_2_0, fby_2_1, fby_2_2, wr_1, wr_2, wr_3, wr_4, Int.toNat_zero, Int.reduceAdd, Int.reduceToNat, Int.reduceLT, Int.reduceLE, Int.reduceBEq, decide_true, decide_false, iteB_true, iteB_false, impl_reg, impl_wok, impl_in, bindO_some, iteB_ss, bit_7_1, bit_7_2, bit_7_4, bit_7_8, bit_7_16]
  congr 1
  simp only [insV, fld, bit_7_1, bit_7_2, bit_7_4, bit_7_8, bit_7_16, Bool.not_true, Bool.not_false, cond_true, cond_false]
  rw [Bool.eq_iff_iff]
  simp [wok]
  all_goals (intros; first | omega | (split <;> omega))
set_option maxRecDepth 100000 in
theorem impl_ins_4 (r a b n m : Int) (q : Nat) : impl_InsOk (q + 5) (4, r, a, b, n, m, ()) = some (insP (4, r, a, b, n, m, ())) := by
  have e : insP (4, r, a, b, n, m, ()) = insV 7 5 (4, r, a, b, n, m, ()) := rfl
  have hh : impl_has (q + 5) 4 = some (⟨#[82, 65, 66]⟩ : ByteArray) := by rw [impl_has_e]; rfl
  rw [e, impl_InsOk_e, hh, bindO_some, fnil_2, fsz_2]
  simp only [impl_InsOk.l6_s, fsz_2, fby_2_0, fby_2_1, fby_2_2, wr_1, wr_2, wr_3, wr_4, Int.toNat_zero, Int.reduceAdd, Int.reduceToNat, Int.reduceLT, Int.reduceLE, Int.reduceBEq, decide_true, decide_false, iteB_true, iteB_false, impl_reg, impl_wok, impl_in, bindO_some, iteB_ss, bit_7_1, bit_7_2, bit_7_4, bit_7_8, bit_7_16]
  congr 1
  simp only [insV, fld, bit_7_1, bit_7_2, bit_7_4, bit_7_8, bit_7_16, Bool.not_true, Bool.not_false, cond_true, cond_false]
  rw [Bool.eq_iff_iff]
  simp [wok]
  all_goals (intros; first | omega | (split <;> omega))
set_option maxRecDepth 100000 in
theorem impl_ins_5 (r a b n m : Int) (q : Nat) : impl_InsOk (q + 5) (5, r, a, b, n, m, ()) = some (insP (5, r, a, b, n, m, ())) := by
  have e : insP (5, r, a, b, n, m, ()) = insV 7 5 (5, r, a, b, n, m, ()) := rfl
  have hh : impl_has (q + 5) 5 = some (⟨#[82, 65, 66]⟩ : ByteArray) := by rw [impl_has_e]; rfl
  rw [e, impl_InsOk_e, hh, bindO_some, fnil_2, fsz_2]
  simp only [impl_InsOk.l6_s, fsz_2, fby_2_0, fby_2_1, fby_2_2, wr_1, wr_2, wr_3, wr_4, Int.toNat_zero, Int.reduceAdd, Int.reduceToNat, Int.reduceLT, Int.reduceLE, Int.reduceBEq, decide_true, decide_false, iteB_true, iteB_false, impl_reg, impl_wok, impl_in, bindO_some, iteB_ss, bit_7_1, bit_7_2, bit_7_4, bit_7_8, bit_7_16]
  congr 1
  simp only [insV, fld, bit_7_1, bit_7_2, bit_7_4, bit_7_8, bit_7_16, Bool.not_true, Bool.not_false, cond_true, cond_false]
  rw [Bool.eq_iff_iff]
  simp [wok]
  all_goals (intros; first | omega | (split <;> omega))
set_option maxRecDepth 100000 in
theorem impl_ins_6 (r a b n m : Int) (q : Nat) : impl_InsOk (q + 5) (6, r, a, b, n, m, ()) = some (insP (6, r, a, b, n, m, ())) := by
  have e : insP (6, r, a, b, n, m, ()) = insV 7 5 (6, r, a, b, n, m, ()) := rfl
  have hh : impl_has (q + 5) 6 = some (⟨#[82, 65, 66]⟩ : ByteArray) := by rw [impl_has_e]; rfl
  rw [e, impl_InsOk_e, hh, bindO_some, fnil_2, fsz_2]
  simp only [impl_InsOk.l6_s, fsz_2, fby_2_0, fby_2_1, fby_2_2, wr_1, wr_2, wr_3, wr_4, Int.toNat_zero, Int.reduceAdd, Int.reduceToNat, Int.reduceLT, Int.reduceLE, Int.reduceBEq, decide_true, decide_false, iteB_true, iteB_false, impl_reg, impl_wok, impl_in, bindO_some, iteB_ss, bit_7_1, bit_7_2, bit_7_4, bit_7_8, bit_7_16]
  congr 1
  simp only [insV, fld, bit_7_1, bit_7_2, bit_7_4, bit_7_8, bit_7_16, Bool.not_true, Bool.not_false, cond_true, cond_false]
  rw [Bool.eq_iff_iff]
  simp [wok]
  all_goals (intros; first | omega | (split <;> omega))
set_option maxRecDepth 100000 in
theorem impl_ins_7 (r a b n m : Int) (q : Nat) : impl_InsOk (q + 5) (7, r, a, b, n, m, ()) = some (insP (7, r, a, b, n, m, ())) := by
  have e : insP (7, r, a, b, n, m, ()) = insV 7 5 (7, r, a, b, n, m, ()) := rfl
  have hh : impl_has (q + 5) 7 = some (⟨#[82, 65, 66]⟩ : ByteArray) := by rw [impl_has_e]; rfl
  rw [e, impl_InsOk_e, hh, bindO_some, fnil_2, fsz_2]
  simp only [impl_InsOk.l6_s, fsz_2, fby_2_0, fby_2_1, fby_2_2, wr_1, wr_2, wr_3, wr_4, Int.toNat_zero, Int.reduceAdd, Int.reduceToNat, Int.reduceLT, Int.reduceLE, Int.reduceBEq, decide_true, decide_false, iteB_true, iteB_false, impl_reg, impl_wok, impl_in, bindO_some, iteB_ss, bit_7_1, bit_7_2, bit_7_4, bit_7_8, bit_7_16]
  congr 1
  simp only [insV, fld, bit_7_1, bit_7_2, bit_7_4, bit_7_8, bit_7_16, Bool.not_true, Bool.not_false, cond_true, cond_false]
  rw [Bool.eq_iff_iff]
  simp [wok]
  all_goals (intros; first | omega | (split <;> omega))
set_option maxRecDepth 100000 in
theorem impl_ins_8 (r a b n m : Int) (q : Nat) : impl_InsOk (q + 5) (8, r, a, b, n, m, ()) = some (insP (8, r, a, b, n, m, ())) := by
  have e : insP (8, r, a, b, n, m, ()) = insV 11 6 (8, r, a, b, n, m, ()) := rfl
  have hh : impl_has (q + 5) 8 = some (⟨#[82, 65, 78]⟩ : ByteArray) := by rw [impl_has_e]; rfl
  rw [e, impl_InsOk_e, hh, bindO_some, fnil_3, fsz_3]
  simp only [impl_InsOk.l6_s, fsz_3, fby_3_0, fby_3_1, fby_3_2, wr_1, wr_2, wr_3, wr_4, Int.toNat_zero, Int.reduceAdd, Int.reduceToNat, Int.reduceLT, Int.reduceLE, Int.reduceBEq, decide_true, decide_false, iteB_true, iteB_false, impl_reg, impl_wok, impl_in, bindO_some, iteB_ss, bit_11_1, bit_11_2, bit_11_4, bit_11_8, bit_11_16]
  congr 1
  simp only [insV, fld, bit_11_1, bit_11_2, bit_11_4, bit_11_8, bit_11_16, Bool.not_true, Bool.not_false, cond_true, cond_false]
  rw [Bool.eq_iff_iff]
  simp [wok]
  all_goals (intros; first | omega | (split <;> omega))
set_option maxRecDepth 100000 in
theorem impl_ins_9 (r a b n m : Int) (q : Nat) : impl_InsOk (q + 5) (9, r, a, b, n, m, ()) = some (insP (9, r, a, b, n, m, ())) := by
  have e : insP (9, r, a, b, n, m, ()) = insV 14 6 (9, r, a, b, n, m, ()) := rfl
  have hh : impl_has (q + 5) 9 = some (⟨#[65, 66, 78]⟩ : ByteArray) := by rw [impl_has_e]; rfl
  rw [e, impl_InsOk_e, hh, bindO_some, fnil_4, fsz_4]
  simp only [impl_InsOk.l6_s, fsz_4, fby_4_0, fby_4_1, fby_4_2, wr_1, wr_2, wr_3, wr_4, Int.toNat_zero, Int.reduceAdd, Int.reduceToNat, Int.reduceLT, Int.reduceLE, Int.reduceBEq, decide_true, decide_false, iteB_true, iteB_false, impl_reg, impl_wok, impl_in, bindO_some, iteB_ss, bit_14_1, bit_14_2, bit_14_4, bit_14_8, bit_14_16]
  congr 1
  simp only [insV, fld, bit_14_1, bit_14_2, bit_14_4, bit_14_8, bit_14_16, Bool.not_true, Bool.not_false, cond_true, cond_false]
  rw [Bool.eq_iff_iff]
  simp [wok]
  all_goals (intros; first | omega | (split <;> omega))
set_option maxRecDepth 100000 in
theorem impl_ins_10 (r a b n m : Int) (q : Nat) : impl_InsOk (q + 5) (10, r, a, b, n, m, ()) = some (insP (10, r, a, b, n, m, ())) := by
  have e : insP (10, r, a, b, n, m, ()) = insV 7 5 (10, r, a, b, n, m, ()) := rfl
  have hh : impl_has (q + 5) 10 = some (⟨#[82, 65, 66]⟩ : ByteArray) := by rw [impl_has_e]; rfl
  rw [e, impl_InsOk_e, hh, bindO_some, fnil_2, fsz_2]
  simp only [impl_InsOk.l6_s, fsz_2, fby_2_0, fby_2_1, fby_2_2, wr_1, wr_2, wr_3, wr_4, Int.toNat_zero, Int.reduceAdd, Int.reduceToNat, Int.reduceLT, Int.reduceLE, Int.reduceBEq, decide_true, decide_false, iteB_true, iteB_false, impl_reg, impl_wok, impl_in, bindO_some, iteB_ss, bit_7_1, bit_7_2, bit_7_4, bit_7_8, bit_7_16]
  congr 1
  simp only [insV, fld, bit_7_1, bit_7_2, bit_7_4, bit_7_8, bit_7_16, Bool.not_true, Bool.not_false, cond_true, cond_false]
  rw [Bool.eq_iff_iff]
  simp [wok]
  all_goals (intros; first | omega | (split <;> omega))
set_option maxRecDepth 100000 in
theorem impl_ins_11 (r a b n m : Int) (q : Nat) : impl_InsOk (q + 5) (11, r, a, b, n, m, ()) = some (insP (11, r, a, b, n, m, ())) := by
  have e : insP (11, r, a, b, n, m, ()) = insV 8 5 (11, r, a, b, n, m, ()) := rfl
  have hh : impl_has (q + 5) 11 = some (⟨#[78]⟩ : ByteArray) := by rw [impl_has_e]; rfl
  rw [e, impl_InsOk_e, hh, bindO_some, fnil_5, fsz_5]
  simp only [impl_InsOk.l6_s, fsz_5, fby_5_0, wr_1, wr_2, wr_3, wr_4, Int.toNat_zero, Int.reduceAdd, Int.reduceToNat, Int.reduceLT, Int.reduceLE, Int.reduceBEq, decide_true, decide_false, iteB_true, iteB_false, impl_reg, impl_wok, impl_in, bindO_some, iteB_ss, bit_8_1, bit_8_2, bit_8_4, bit_8_8, bit_8_16]
  congr 1
  simp only [insV, fld, bit_8_1, bit_8_2, bit_8_4, bit_8_8, bit_8_16, Bool.not_true, Bool.not_false, cond_true, cond_false]
  rw [Bool.eq_iff_iff]
  simp [wok]
  all_goals (intros; first | omega | (split <;> omega))
set_option maxRecDepth 100000 in
theorem impl_ins_12 (r a b n m : Int) (q : Nat) : impl_InsOk (q + 5) (12, r, a, b, n, m, ()) = some (insP (12, r, a, b, n, m, ())) := by
  have e : insP (12, r, a, b, n, m, ()) = insV 10 5 (12, r, a, b, n, m, ()) := rfl
  have hh : impl_has (q + 5) 12 = some (⟨#[65, 78]⟩ : ByteArray) := by rw [impl_has_e]; rfl
  rw [e, impl_InsOk_e, hh, bindO_some, fnil_6, fsz_6]
  simp only [impl_InsOk.l6_s, fsz_6, fby_6_0, fby_6_1, wr_1, wr_2, wr_3, wr_4, Int.toNat_zero, Int.reduceAdd, Int.reduceToNat, Int.reduceLT, Int.reduceLE, Int.reduceBEq, decide_true, decide_false, iteB_true, iteB_false, impl_reg, impl_wok, impl_in, bindO_some, iteB_ss, bit_10_1, bit_10_2, bit_10_4, bit_10_8, bit_10_16]
  congr 1
  simp only [insV, fld, bit_10_1, bit_10_2, bit_10_4, bit_10_8, bit_10_16, Bool.not_true, Bool.not_false, cond_true, cond_false]
  rw [Bool.eq_iff_iff]
  simp [wok]
  all_goals (intros; first | omega | (split <;> omega))
set_option maxRecDepth 100000 in
theorem impl_ins_13 (r a b n m : Int) (q : Nat) : impl_InsOk (q + 5) (13, r, a, b, n, m, ()) = some (insP (13, r, a, b, n, m, ())) := by
  have e : insP (13, r, a, b, n, m, ()) = insV 24 5 (13, r, a, b, n, m, ()) := rfl
  have hh : impl_has (q + 5) 13 = some (⟨#[78, 77]⟩ : ByteArray) := by rw [impl_has_e]; rfl
  rw [e, impl_InsOk_e, hh, bindO_some, fnil_7, fsz_7]
  simp only [impl_InsOk.l6_s, fsz_7, fby_7_0, fby_7_1, wr_1, wr_2, wr_3, wr_4, Int.toNat_zero, Int.reduceAdd, Int.reduceToNat, Int.reduceLT, Int.reduceLE, Int.reduceBEq, decide_true, decide_false, iteB_true, iteB_false, impl_reg, impl_wok, impl_in, bindO_some, iteB_ss, bit_24_1, bit_24_2, bit_24_4, bit_24_8, bit_24_16]
  congr 1
  simp only [insV, fld, bit_24_1, bit_24_2, bit_24_4, bit_24_8, bit_24_16, Bool.not_true, Bool.not_false, cond_true, cond_false]
  rw [Bool.eq_iff_iff]
  simp [wok]
  all_goals (intros; first | omega | (split <;> omega))
set_option maxRecDepth 100000 in
theorem impl_ins_14 (r a b n m : Int) (q : Nat) : impl_InsOk (q + 5) (14, r, a, b, n, m, ()) = some (insP (14, r, a, b, n, m, ())) := by
  have e : insP (14, r, a, b, n, m, ()) = insV 0 5 (14, r, a, b, n, m, ()) := rfl
  have hh : impl_has (q + 5) 14 = some (⟨#[45]⟩ : ByteArray) := by rw [impl_has_e]; rfl
  rw [e, impl_InsOk_e, hh, bindO_some, fnil_8, fsz_8]
  simp only [impl_InsOk.l6_s, fsz_8, fby_8_0, wr_1, wr_2, wr_3, wr_4, Int.toNat_zero, Int.reduceAdd, Int.reduceToNat, Int.reduceLT, Int.reduceLE, Int.reduceBEq, decide_true, decide_false, iteB_true, iteB_false, impl_reg, impl_wok, impl_in, bindO_some, iteB_ss, bit_0_1, bit_0_2, bit_0_4, bit_0_8, bit_0_16]
  congr 1
  simp only [insV, fld, bit_0_1, bit_0_2, bit_0_4, bit_0_8, bit_0_16, Bool.not_true, Bool.not_false, cond_true, cond_false]
  rw [Bool.eq_iff_iff]
  simp [wok]
  all_goals (intros; first | omega | (split <;> omega))
set_option maxRecDepth 100000 in
theorem impl_ins_15 (r a b n m : Int) (q : Nat) : impl_InsOk (q + 5) (15, r, a, b, n, m, ()) = some (insP (15, r, a, b, n, m, ())) := by
  have e : insP (15, r, a, b, n, m, ()) = insV 2 5 (15, r, a, b, n, m, ()) := rfl
  have hh : impl_has (q + 5) 15 = some (⟨#[65]⟩ : ByteArray) := by rw [impl_has_e]; rfl
  rw [e, impl_InsOk_e, hh, bindO_some, fnil_9, fsz_9]
  simp only [impl_InsOk.l6_s, fsz_9, fby_9_0, wr_1, wr_2, wr_3, wr_4, Int.toNat_zero, Int.reduceAdd, Int.reduceToNat, Int.reduceLT, Int.reduceLE, Int.reduceBEq, decide_true, decide_false, iteB_true, iteB_false, impl_reg, impl_wok, impl_in, bindO_some, iteB_ss, bit_2_1, bit_2_2, bit_2_4, bit_2_8, bit_2_16]
  congr 1
  simp only [insV, fld, bit_2_1, bit_2_2, bit_2_4, bit_2_8, bit_2_16, Bool.not_true, Bool.not_false, cond_true, cond_false]
  rw [Bool.eq_iff_iff]
  simp [wok]
  all_goals (intros; first | omega | (split <;> omega))
set_option maxRecDepth 100000 in
theorem impl_ins_16 (r a b n m : Int) (q : Nat) : impl_InsOk (q + 5) (16, r, a, b, n, m, ()) = some (insP (16, r, a, b, n, m, ())) := by
  have e : insP (16, r, a, b, n, m, ()) = insV 6 5 (16, r, a, b, n, m, ()) := rfl
  have hh : impl_has (q + 5) 16 = some (⟨#[65, 66]⟩ : ByteArray) := by rw [impl_has_e]; rfl
  rw [e, impl_InsOk_e, hh, bindO_some, fnil_10, fsz_10]
  simp only [impl_InsOk.l6_s, fsz_10, fby_10_0, fby_10_1, wr_1, wr_2, wr_3, wr_4, Int.toNat_zero, Int.reduceAdd, Int.reduceToNat, Int.reduceLT, Int.reduceLE, Int.reduceBEq, decide_true, decide_false, iteB_true, iteB_false, impl_reg, impl_wok, impl_in, bindO_some, iteB_ss, bit_6_1, bit_6_2, bit_6_4, bit_6_8, bit_6_16]
  congr 1
  simp only [insV, fld, bit_6_1, bit_6_2, bit_6_4, bit_6_8, bit_6_16, Bool.not_true, Bool.not_false, cond_true, cond_false]
  rw [Bool.eq_iff_iff]
  simp [wok]
  all_goals (intros; first | omega | (split <;> omega))
set_option maxRecDepth 100000 in
theorem impl_ins_17 (r a b n m : Int) (q : Nat) : impl_InsOk (q + 5) (17, r, a, b, n, m, ()) = some (insP (17, r, a, b, n, m, ())) := by
  have e : insP (17, r, a, b, n, m, ()) = insV 6 5 (17, r, a, b, n, m, ()) := rfl
  have hh : impl_has (q + 5) 17 = some (⟨#[65, 66]⟩ : ByteArray) := by rw [impl_has_e]; rfl
  rw [e, impl_InsOk_e, hh, bindO_some, fnil_10, fsz_10]
  simp only [impl_InsOk.l6_s, fsz_10, fby_10_0, fby_10_1, wr_1, wr_2, wr_3, wr_4, Int.toNat_zero, Int.reduceAdd, Int.reduceToNat, Int.reduceLT, Int.reduceLE, Int.reduceBEq, decide_true, decide_false, iteB_true, iteB_false, impl_reg, impl_wok, impl_in, bindO_some, iteB_ss, bit_6_1, bit_6_2, bit_6_4, bit_6_8, bit_6_16]
  congr 1
  simp only [insV, fld, bit_6_1, bit_6_2, bit_6_4, bit_6_8, bit_6_16, Bool.not_true, Bool.not_false, cond_true, cond_false]
  rw [Bool.eq_iff_iff]
  simp [wok]
  all_goals (intros; first | omega | (split <;> omega))
set_option maxRecDepth 100000 in
theorem impl_ins_18 (r a b n m : Int) (q : Nat) : impl_InsOk (q + 5) (18, r, a, b, n, m, ()) = some (insP (18, r, a, b, n, m, ())) := by
  have e : insP (18, r, a, b, n, m, ()) = insV 1 5 (18, r, a, b, n, m, ()) := rfl
  have hh : impl_has (q + 5) 18 = some (⟨#[82]⟩ : ByteArray) := by rw [impl_has_e]; rfl
  rw [e, impl_InsOk_e, hh, bindO_some, fnil_11, fsz_11]
  simp only [impl_InsOk.l6_s, fsz_11, fby_11_0, wr_1, wr_2, wr_3, wr_4, Int.toNat_zero, Int.reduceAdd, Int.reduceToNat, Int.reduceLT, Int.reduceLE, Int.reduceBEq, decide_true, decide_false, iteB_true, iteB_false, impl_reg, impl_wok, impl_in, bindO_some, iteB_ss, bit_1_1, bit_1_2, bit_1_4, bit_1_8, bit_1_16]
  congr 1
  simp only [insV, fld, bit_1_1, bit_1_2, bit_1_4, bit_1_8, bit_1_16, Bool.not_true, Bool.not_false, cond_true, cond_false]
  rw [Bool.eq_iff_iff]
  simp [wok]
  all_goals (intros; first | omega | (split <;> omega))
set_option maxRecDepth 100000 in
theorem impl_ins_19 (r a b n m : Int) (q : Nat) : impl_InsOk (q + 5) (19, r, a, b, n, m, ()) = some (insP (19, r, a, b, n, m, ())) := by
  have e : insP (19, r, a, b, n, m, ()) = insV 2 5 (19, r, a, b, n, m, ()) := rfl
  have hh : impl_has (q + 5) 19 = some (⟨#[65]⟩ : ByteArray) := by rw [impl_has_e]; rfl
  rw [e, impl_InsOk_e, hh, bindO_some, fnil_9, fsz_9]
  simp only [impl_InsOk.l6_s, fsz_9, fby_9_0, wr_1, wr_2, wr_3, wr_4, Int.toNat_zero, Int.reduceAdd, Int.reduceToNat, Int.reduceLT, Int.reduceLE, Int.reduceBEq, decide_true, decide_false, iteB_true, iteB_false, impl_reg, impl_wok, impl_in, bindO_some, iteB_ss, bit_2_1, bit_2_2, bit_2_4, bit_2_8, bit_2_16]
  congr 1
  simp only [insV, fld, bit_2_1, bit_2_2, bit_2_4, bit_2_8, bit_2_16, Bool.not_true, Bool.not_false, cond_true, cond_false]
  rw [Bool.eq_iff_iff]
  simp [wok]
  all_goals (intros; first | omega | (split <;> omega))

theorem impl_ins_no (op r a b n m : Int) (h : op < 1 ∨ 19 < op) (q : Nat) : impl_InsOk (q + 5) (op, r, a, b, n, m, ()) = some (insP (op, r, a, b, n, m, ())) := by
  have e : insP (op, r, a, b, n, m, ()) = false := by
    unfold insP insV
    have : decide (1 ≤ op ∧ op ≤ 19) = false := decide_eq_false (by omega)
    show (bif decide (1 ≤ op ∧ op ≤ 19) then _ else false) = false
    rw [this]; rfl
  have ne : ∀ c : Int, 1 ≤ c → c ≤ 19 → (op == c) = false := fun c h1 h2 => by simp; omega
  have hh : impl_has (q + 5) op = some (⟨#[]⟩ : ByteArray) := by
    rw [impl_has_e]
    simp only [ne 1 (by omega) (by omega), ne 2 (by omega) (by omega), ne 3 (by omega) (by omega), ne 4 (by omega) (by omega), ne 5 (by omega) (by omega), ne 6 (by omega) (by omega), ne 7 (by omega) (by omega), ne 8 (by omega) (by omega), ne 9 (by omega) (by omega), ne 10 (by omega) (by omega), ne 11 (by omega) (by omega), ne 12 (by omega) (by omega), ne 13 (by omega) (by omega), ne 14 (by omega) (by omega), ne 15 (by omega) (by omega), ne 16 (by omega) (by omega), ne 17 (by omega) (by omega), ne 18 (by omega) (by omega), ne 19 (by omega) (by omega), iteB_false]
  rw [e, impl_InsOk_e, hh, bindO_some, fnil_12, fsz_12, impl_InsOk.l6_s, iteB_neg (by omega), iteB_false]
theorem impl_ins (x : TI) : Ev fun k => impl_InsOk k x = some (insP x) := by
  refine ⟨5, fun k hk => ?_⟩
  obtain ⟨q, rfl⟩ : ∃ q, k = q + 5 := ⟨k - 5, by omega⟩
  obtain ⟨op, r, a, b, n, m, u⟩ := x
  rcases op_cases op with h | h | h | h | h | h | h | h | h | h | h | h | h | h | h | h | h | h | h | h
  case inr.inr.inr.inr.inr.inr.inr.inr.inr.inr.inr.inr.inr.inr.inr.inr.inr.inr.inr => exact impl_ins_no op r a b n m h q
  all_goals subst h
  · exact impl_ins_1 r a b n m q
  · exact impl_ins_2 r a b n m q
  · exact impl_ins_3 r a b n m q
  · exact impl_ins_4 r a b n m q
  · exact impl_ins_5 r a b n m q
  · exact impl_ins_6 r a b n m q
  · exact impl_ins_7 r a b n m q
  · exact impl_ins_8 r a b n m q
  · exact impl_ins_9 r a b n m q
  · exact impl_ins_10 r a b n m q
  · exact impl_ins_11 r a b n m q
  · exact impl_ins_12 r a b n m q
  · exact impl_ins_13 r a b n m q
  · exact impl_ins_14 r a b n m q
  · exact impl_ins_15 r a b n m q
  · exact impl_ins_16 r a b n m q
  · exact impl_ins_17 r a b n m q
  · exact impl_ins_18 r a b n m q
  · exact impl_ins_19 r a b n m q

/-! Cores, notes, machines. -/
abbrev TCo : Type := Int × Int × (List Int) × Unit
abbrev TNo : Type := Int × Int × Unit
abbrev TMa : Type := (List TI) × (List Int) × (List TCo) × (List Int) × (List TNo) × Bool × Int × Unit
def coreV (x : TCo) : Bool := bif wok x.1 then (bif wok x.2.1 then (bif ((x.2.2.1.length : Int) == 6) then x.2.2.1.all wok else false) else false) else false
def noteV (x : TNo) : Bool := bif wok x.1 then wok x.2.1 else false
theorem spec_core (x : TCo) (h : x.2.2.1.length ≤ 1048576) : Ev fun k => spec_CoreOk k x = some (coreV x) := by
  refine (spec_words x.2.2.1 h).mono fun k hk => ?_
  rw [spec_CoreOk_e]
  simp only [spec_wok, hk, bindO_some, iteB_ss]
  rfl
theorem impl_cw (k : Nat) (x : Int) : impl_CoreOk_1 k x = some (!wok x) := by rw [impl_CoreOk_1_e, impl_wok, bindO_some]
theorem impl_ww (k : Nat) (x : Int) : impl_wordsOk_1 k x = some (!wok x) := by rw [impl_wordsOk_1_e, impl_wok, bindO_some]
theorem impl_core (x : TCo) (h : x.2.2.1.length ≤ 1048576) : Ev fun k => impl_CoreOk k x = some (coreV x) := by
  refine (contains_of slices_IndexFunc_int__impl_CoreOk_1.l2_s slices_IndexFunc_int__impl_CoreOk_1_e slices_ContainsFunc_int__impl_CoreOk_1_e x.2.2.1 h (p := fun x => !wok x) (fun y _ => Ev.of fun k => impl_cw k y)).mono fun k hk => ?_
  rw [impl_CoreOk_e]
  simp only [impl_wok, hk, bindO_some, iteB_ss, any_not, Bool.not_not]
  rfl
theorem impl_words (l : List Int) (h : l.length ≤ 1048576) (most : Int) : Ev fun k => impl_wordsOk k l most = some (bif decide ((l.length : Int) ≤ most) then l.all wok else false) := by
  refine (contains_of slices_IndexFunc_int__impl_wordsOk_1.l2_s slices_IndexFunc_int__impl_wordsOk_1_e slices_ContainsFunc_int__impl_wordsOk_1_e l h (p := fun x => !wok x) (fun y _ => Ev.of fun k => impl_ww k y)).mono fun k hk => ?_
  rw [impl_wordsOk_e, hk, bindO_some, iteB_ss, any_not, Bool.not_not]
def machV (x : TMa) : Bool :=
  decide (1 ≤ (x.1.length : Int) ∧ (x.1.length : Int) ≤ 3000) && decide ((x.2.1.length : Int) ≤ 4000) && decide (1 ≤ (x.2.2.1.length : Int) ∧ (x.2.2.1.length : Int) ≤ 8) && decide ((x.2.2.2.1.length : Int) ≤ 3000) && decide ((x.2.2.2.2.1.length : Int) ≤ 3000) &&
    x.2.1.all wok && x.2.2.2.1.all wok && wok x.2.2.2.2.2.2.1 && (x.1.all insP && (x.2.2.1.all coreV && (x.2.2.2.2.1.all noteV && true)))
structure Small (x : TMa) : Prop where
  a : x.1.length ≤ 1048576
  b : x.2.1.length ≤ 1048576
  c : x.2.2.1.length ≤ 1048576
  d : x.2.2.2.1.length ≤ 1048576
  e : x.2.2.2.2.1.length ≤ 1048576
  f : ∀ y ∈ x.2.2.1, y.2.2.1.length ≤ 1048576
theorem spec_rows (x : TMa) (h : Small x) : Ev fun k => spec_MachineOk.l4 k k 0 x = some (x.1.all insP && (x.2.2.1.all coreV && (x.2.2.2.2.1.all noteV && true))) := by
  refine all_rounds x.1 (Ty.dflt (.pair (.int .i64) (.pair (.int .i64) (.pair (.int .i64) (.pair (.int .i64) (.pair (.int .i64) (.pair (.int .i64) .unit))))))) (f := spec_InsOk) (L := fun k n i => spec_MachineOk.l4 k n i x) (e := fun k => spec_MachineOk.l9 k k 0 x) (fun y _ => spec_ins y) ?_ (fun k n i h0 h1 => ?_) (fun k n i hi => ?_)
  · refine all_rounds x.2.2.1 (Ty.dflt (.pair (.int .i64) (.pair (.int .i64) (.pair (.row (.int .i64)) .unit)))) (f := spec_CoreOk) (L := fun k n i => spec_MachineOk.l9 k n i x) (e := fun k => spec_MachineOk.l14 k k 0 x) (fun y m => spec_core y (h.f y m)) ?_ (fun k n i h0 h1 => ?_) (fun k n i hi => ?_)
    · refine all_rounds x.2.2.2.2.1 (Ty.dflt (.pair (.int .i64) (.pair (.int .i64) .unit))) (f := fun _ y => some (noteV y)) (L := fun k n i => spec_MachineOk.l14 k n i x) (e := fun k => some true) (fun y m => Ev.of fun _ => rfl) (Ev.of fun _ => rfl) (fun k n i h0 h1 => ?_) (fun k n i hi => ?_)
      · show spec_MachineOk.l14 k (n + 1) i x = _
        have := h.e
        rw [spec_MachineOk.l14_s, iteB_pos h1, iteB_pos h0, iteB_pos h1, iteB_pos h0, iteB_pos h1, next_i h0 h1 (by omega), spec_wok, bindO_some, spec_wok, bindO_some, bindO_some]
        unfold noteV
        cases wok (List.getD x.2.2.2.2.1 i.toNat (Ty.dflt (.pair (.int .i64) (.pair (.int .i64) .unit)))).1 <;> rfl
      · show spec_MachineOk.l14 k (n + 1) i x = _
        rw [spec_MachineOk.l14_s, iteB_neg (by omega)]
    · show spec_MachineOk.l9 k (n + 1) i x = _
      have := h.c
      rw [spec_MachineOk.l9_s, iteB_pos h1, iteB_pos h0, iteB_pos h1, next_i h0 h1 (by omega)]
    · show spec_MachineOk.l9 k (n + 1) i x = _
      rw [spec_MachineOk.l9_s, iteB_neg (by omega)]
  · show spec_MachineOk.l4 k (n + 1) i x = _
    have := h.a
    rw [spec_MachineOk.l4_s, iteB_pos h1, iteB_pos h0, iteB_pos h1, next_i h0 h1 (by omega)]
  · show spec_MachineOk.l4 k (n + 1) i x = _
    rw [spec_MachineOk.l4_s, iteB_neg (by omega)]
theorem spec_mach (x : TMa) (h : Small x) : Ev fun k => spec_MachineOk k x = some (machV x) := by
  refine (((spec_rows x h).and (Ev.gt 0)).and ((spec_words x.2.1 h.b).and (spec_words x.2.2.2.1 h.d))).mono fun k hk => ?_
  obtain ⟨⟨h1, h2⟩, h3, h4⟩ := hk
  rw [spec_MachineOk_e, gate_pos h2, spec_MachineOk.j3_e, h1]
  simp only [spec_in, spec_wok, h3, h4, bindO_some, iteB_ss, ngt, Bool.not_not]
  unfold machV
  congr 1
  generalize (x.1.all insP && (x.2.2.1.all coreV && (x.2.2.2.2.1.all noteV && true))) = R
  generalize decide (1 ≤ (x.1.length : Int) ∧ (x.1.length : Int) ≤ 3000) = d1
  generalize decide ((x.2.1.length : Int) ≤ 4000) = d2
  generalize decide (1 ≤ (x.2.2.1.length : Int) ∧ (x.2.2.1.length : Int) ≤ 8) = d3
  generalize decide ((x.2.2.2.1.length : Int) ≤ 3000) = d4
  generalize decide ((x.2.2.2.2.1.length : Int) ≤ 3000) = d5
  generalize x.2.1.all wok = d6
  generalize x.2.2.2.1.all wok = d7
  generalize wok x.2.2.2.2.2.2.1 = d8
  cases d1 <;> cases d2 <;> cases d3 <;> cases d4 <;> cases d5 <;> cases d6 <;> cases d7 <;> cases d8 <;> cases R <;> rfl
theorem impl_mi (x : TI) : Ev fun k => impl_MachineOk_1 k x = some (!insP x) := (impl_ins x).mono fun k h => by rw [impl_MachineOk_1_e, h, bindO_some]
theorem impl_mc (x : TCo) (h : x.2.2.1.length ≤ 1048576) : Ev fun k => impl_MachineOk_2 k x = some (!coreV x) := (impl_core x h).mono fun k h => by rw [impl_MachineOk_2_e, h, bindO_some]
theorem impl_mn (k : Nat) (x : TNo) : impl_MachineOk_3 k x = some (!noteV x) := by
  rw [impl_MachineOk_3_e]
  simp only [impl_wok, bindO_some, iteB_ss, Bool.not_not]
  unfold noteV
  cases wok x.1 <;> rfl
theorem impl_mach (x : TMa) (h : Small x) : Ev fun k => impl_MachineOk k x = some (machV x) := by
  have e1 := contains_of slices_IndexFunc_impl_Ins__impl_MachineOk_1.l2_s slices_IndexFunc_impl_Ins__impl_MachineOk_1_e slices_ContainsFunc_impl_Ins__impl_MachineOk_1_e x.1 h.a (p := fun y => !insP y) (fun y _ => impl_mi y)
  have e2 := contains_of slices_IndexFunc_impl_Core__impl_MachineOk_2.l2_s slices_IndexFunc_impl_Core__impl_MachineOk_2_e slices_ContainsFunc_impl_Core__impl_MachineOk_2_e x.2.2.1 h.c (p := fun y => !coreV y) (fun y m => impl_mc y (h.f y m))
  have e3 := contains_of slices_IndexFunc_impl_Note__impl_MachineOk_3.l2_s slices_IndexFunc_impl_Note__impl_MachineOk_3_e slices_ContainsFunc_impl_Note__impl_MachineOk_3_e x.2.2.2.2.1 h.e (p := fun y => !noteV y) (fun y _ => Ev.of fun k => impl_mn k y)
  refine (((e1.and e2).and (e3.and (Ev.gt 0))).and ((impl_words x.2.1 h.b 4000).and (impl_words x.2.2.2.1 h.d 3000))).mono fun k hk => ?_
  obtain ⟨⟨⟨h1, h2⟩, h3, h0⟩, h4, h5⟩ := hk
  rw [impl_MachineOk_e, gate_pos h0, impl_MachineOk.j3_e, gate_pos h0, impl_MachineOk.j5_e]
  simp only [impl_in, impl_wok, h1, h2, h3, h4, h5, bindO_some, iteB_ss, any_not, Bool.not_not]
  unfold machV
  congr 1
  generalize x.1.all insP = R1
  generalize x.2.2.1.all coreV = R2
  generalize x.2.2.2.2.1.all noteV = R3
  generalize decide (1 ≤ (x.1.length : Int) ∧ (x.1.length : Int) ≤ 3000) = d1
  generalize decide ((x.2.1.length : Int) ≤ 4000) = d2
  generalize decide (1 ≤ (x.2.2.1.length : Int) ∧ (x.2.2.1.length : Int) ≤ 8) = d3
  generalize decide ((x.2.2.2.1.length : Int) ≤ 3000) = d4
  generalize decide ((x.2.2.2.2.1.length : Int) ≤ 3000) = d5
  generalize x.2.1.all wok = d6
  generalize x.2.2.2.1.all wok = d7
  generalize wok x.2.2.2.2.2.2.1 = d8
  cases d1 <;> cases d2 <;> cases d3 <;> cases d4 <;> cases d5 <;> cases d6 <;> cases d7 <;> cases d8 <;> cases R1 <;> cases R2 <;> cases R3 <;> rfl
theorem FnExactMachineOk : ∀ (x0 : TMa), WfT (.pair (.row (.pair (.int .i64) (.pair (.int .i64) (.pair (.int .i64) (.pair (.int .i64) (.pair (.int .i64) (.pair (.int .i64) .unit))))))) (.pair (.row (.int .i64)) (.pair (.row (.pair (.int .i64) (.pair (.int .i64) (.pair (.row (.int .i64)) .unit)))) (.pair (.row (.int .i64)) (.pair (.row (.pair (.int .i64) (.pair (.int .i64) .unit))) (.pair .bool (.pair (.int .i64) .unit))))))) x0 → ∃ k, laws_FnExactMachineOk k x0 = some true := by
  intro x hx
  refine Ev.get ?_
  obtain ⟨r, ev, le, fit⟩ := szMachine_ok x hx 1048576 (by omega) (by omega)
  by_cases c : r < 0
  · exact ev.mono fun k h => by
      replace h : laws_szMachine k x 1048576 = some r := h
      rw [laws_FnExactMachineOk_e, h, bindO_some, iteB_pos c]
  · have hf := fit (by omega)
    have hs : Small x := ⟨hf.1.1, hf.2.1.1, hf.2.2.1.1, hf.2.2.2.1.1, hf.2.2.2.2.1.1, fun y m => (hf.2.2.1.2 y m).2.2.1.1⟩
    refine (ev.and (toMachine_ok x hf)).two (((spec_mach x hs).and (impl_mach x hs)).and (eqMachine_ok x hf)) fun k h1 h2 => ?_
    obtain ⟨a1, a2⟩ := h1
    obtain ⟨⟨a3, a4⟩, a5⟩ := h2
    have a6 : (!(machV x == machV x)) = false := by simp
    replace a1 : laws_szMachine k x 1048576 = some r := a1
    replace a2 : laws_toMachine k x = some x := a2
    replace a5 : laws_eqMachine k x x = some true := a5
    rw [laws_FnExactMachineOk_e, a1, bindO_some, iteB_neg c, a2, bindO_some, a3, bindO_some, bindO_some, a4, bindO_some, a6, iteB_false, bindO_some, a5]
    rfl

end Go.Proofs.Ytapijpjgfpjahaa.Pure
