/- What the functions that FnExactStuck runs come to, and that the law's own run comes to true. -/
import Derived.Test.YtcjpjgfjagfjjaaGreatAC
import Derived.Test.YtcjpjgfjagfjjaaGreatAMFnExactStuck0
import Derived.Test.YtcjpjgfjagfjjaaGreatAMFnExactStuck1
import Derived.Test.YtcjpjgfjagfjjaaGreatAMFnExactStuck2
import Derived.Test.YtcjpjgfjagfjjaaGreatAMFnExactStuck3
import Derived.Test.YtcjpjgfjagfjjaaGreatAMFnExactStuck4
import Derived.Test.YtcjpjgfjagfjjaaGreatAMFnExactStuck5
import Derived.Test.YtcjpjgfjagfjjaaGreatAMFnExactStuck6
namespace Go.Proofs.YtcjpjgfjagfjjaaGreat.Pure
open Go Go.AM Go.AMx Go.Proofs.YtcjpjgfjagfjjaaGreat.XFnExactStuck
set_option linter.unusedVariables false
set_option linter.unusedSimpArgs false
theorem szIntS_ok : SzOk (.row (.int .i64)) laws_szIntS := sz_flat (e := (.int .i64)) (fun _ => trivial) laws_szIntS_e
theorem szTac_ok : SzOk (.pair (.int .i64) (.pair (.int .i64) (.pair (.int .i64) (.pair (.int .i64) (.pair (.int .i64) (.pair .str (.pair (.row (.int .i64)) .unit))))))) laws_szTac := fun (a1 : Int × Int × Int × Int × Int × ByteArray × (List Int) × Unit) (hx : WfT (.pair (.int .i64) (.pair (.int .i64) (.pair (.int .i64) (.pair (.int .i64) (.pair (.int .i64) (.pair .str (.pair (.row (.int .i64)) .unit))))))) a1) a2 h0 h1 => ((SzE.sub (n := ByteArray.size a1.2.2.2.2.2.1) (G := fun k r => bindO (laws_szIntS k a1.2.2.2.2.2.2.1 (r)) fun r1 => (iteB (decide (r1 < 0)) (some (-1)) (some r1))) h0 h1 hx.2.2.2.2.2.1 fun r0_ p0_ q0_ => SzE.call p0_ (szIntS_ok a1.2.2.2.2.2.2.1 hx.2.2.2.2.2.2.1 _ p0_ (by omega)) fun r1 p1_ q1_ => SzE.done (Int.le_refl _)).to fun h => ⟨trivial, trivial, trivial, trivial, trivial, h.1, h.2.1, trivial⟩).eq fun k => laws_szTac_e k a1 a2
theorem szTacS_ok : SzOk (.row (.pair (.int .i64) (.pair (.int .i64) (.pair (.int .i64) (.pair (.int .i64) (.pair (.int .i64) (.pair .str (.pair (.row (.int .i64)) .unit)))))))) laws_szTacS := sz_row (α := (Int × Int × Int × Int × Int × ByteArray × (List Int) × Unit)) (W := WfT (.pair (.int .i64) (.pair (.int .i64) (.pair (.int .i64) (.pair (.int .i64) (.pair (.int .i64) (.pair .str (.pair (.row (.int .i64)) .unit)))))))) (F := FitT (.pair (.int .i64) (.pair (.int .i64) (.pair (.int .i64) (.pair (.int .i64) (.pair (.int .i64) (.pair .str (.pair (.row (.int .i64)) .unit)))))))) (d := (Ty.dflt (.pair (.int .i64) (.pair (.int .i64) (.pair (.int .i64) (.pair (.int .i64) (.pair (.int .i64) (.pair .str (.pair (.row (.int .i64)) .unit))))))))) (S := laws_szTacS) (L := laws_szTacS.l5) (f := laws_szTac) szTac_ok laws_szTacS.l5_s laws_szTacS_e
theorem szUnit_ok : SzOk (.pair .str (.pair (.int .i64) (.pair (.int .i64) (.pair (.row (.pair (.int .i64) (.pair (.int .i64) (.pair (.int .i64) (.pair (.int .i64) (.pair (.int .i64) (.pair .str (.pair (.row (.int .i64)) .unit)))))))) .unit)))) laws_szUnit := fun (a1 : ByteArray × Int × Int × (List (Int × Int × Int × Int × Int × ByteArray × (List Int) × Unit)) × Unit) (hx : WfT (.pair .str (.pair (.int .i64) (.pair (.int .i64) (.pair (.row (.pair (.int .i64) (.pair (.int .i64) (.pair (.int .i64) (.pair (.int .i64) (.pair (.int .i64) (.pair .str (.pair (.row (.int .i64)) .unit)))))))) .unit)))) a1) a2 h0 h1 => ((SzE.sub (n := ByteArray.size a1.1) (G := fun k r => bindO (laws_szTacS k a1.2.2.2.1 (r)) fun r1 => (iteB (decide (r1 < 0)) (some (-1)) (some r1))) h0 h1 hx.1 fun r0_ p0_ q0_ => SzE.call p0_ (szTacS_ok a1.2.2.2.1 hx.2.2.2.1 _ p0_ (by omega)) fun r1 p1_ q1_ => SzE.done (Int.le_refl _)).to fun h => ⟨h.1, trivial, trivial, h.2.1, trivial⟩).eq fun k => laws_szUnit_e k a1 a2
theorem szUnitS_ok : SzOk (.row (.pair .str (.pair (.int .i64) (.pair (.int .i64) (.pair (.row (.pair (.int .i64) (.pair (.int .i64) (.pair (.int .i64) (.pair (.int .i64) (.pair (.int .i64) (.pair .str (.pair (.row (.int .i64)) .unit)))))))) .unit))))) laws_szUnitS := sz_row (α := (ByteArray × Int × Int × (List (Int × Int × Int × Int × Int × ByteArray × (List Int) × Unit)) × Unit)) (W := WfT (.pair .str (.pair (.int .i64) (.pair (.int .i64) (.pair (.row (.pair (.int .i64) (.pair (.int .i64) (.pair (.int .i64) (.pair (.int .i64) (.pair (.int .i64) (.pair .str (.pair (.row (.int .i64)) .unit)))))))) .unit))))) (F := FitT (.pair .str (.pair (.int .i64) (.pair (.int .i64) (.pair (.row (.pair (.int .i64) (.pair (.int .i64) (.pair (.int .i64) (.pair (.int .i64) (.pair (.int .i64) (.pair .str (.pair (.row (.int .i64)) .unit)))))))) .unit))))) (d := (Ty.dflt (.pair .str (.pair (.int .i64) (.pair (.int .i64) (.pair (.row (.pair (.int .i64) (.pair (.int .i64) (.pair (.int .i64) (.pair (.int .i64) (.pair (.int .i64) (.pair .str (.pair (.row (.int .i64)) .unit)))))))) .unit)))))) (S := laws_szUnitS) (L := laws_szUnitS.l5) (f := laws_szUnit) szUnit_ok laws_szUnitS.l5_s laws_szUnitS_e
theorem szFrame_ok : SzOk (.pair (.int .i64) (.pair (.int .i64) (.pair (.row (.int .i64)) (.pair (.int .i64) .unit)))) laws_szFrame := fun (a1 : Int × Int × (List Int) × Int × Unit) (hx : WfT (.pair (.int .i64) (.pair (.int .i64) (.pair (.row (.int .i64)) (.pair (.int .i64) .unit)))) a1) a2 h0 h1 => ((SzE.call h0 (szIntS_ok a1.2.2.1 hx.2.2.1 _ h0 h1) fun r1 p0_ q0_ => SzE.done (Int.le_refl _)).to fun h => ⟨trivial, trivial, h.1, trivial, trivial⟩).eq fun k => laws_szFrame_e k a1 a2
theorem szFrameS_ok : SzOk (.row (.pair (.int .i64) (.pair (.int .i64) (.pair (.row (.int .i64)) (.pair (.int .i64) .unit))))) laws_szFrameS := sz_row (α := (Int × Int × (List Int) × Int × Unit)) (W := WfT (.pair (.int .i64) (.pair (.int .i64) (.pair (.row (.int .i64)) (.pair (.int .i64) .unit))))) (F := FitT (.pair (.int .i64) (.pair (.int .i64) (.pair (.row (.int .i64)) (.pair (.int .i64) .unit))))) (d := (Ty.dflt (.pair (.int .i64) (.pair (.int .i64) (.pair (.row (.int .i64)) (.pair (.int .i64) .unit)))))) (S := laws_szFrameS) (L := laws_szFrameS.l5) (f := laws_szFrame) szFrame_ok laws_szFrameS.l5_s laws_szFrameS_e
theorem szBody_ok : SzOk (.pair (.row (.pair (.int .i64) (.pair (.int .i64) (.pair (.row (.int .i64)) (.pair (.int .i64) .unit))))) (.pair .bool (.pair .bool (.pair (.int .i64) (.pair (.int .i64) (.pair (.int .i64) (.pair (.int .i64) (.pair (.int .i64) .unit)))))))) laws_szBody := fun (a1 : (List (Int × Int × (List Int) × Int × Unit)) × Bool × Bool × Int × Int × Int × Int × Int × Unit) (hx : WfT (.pair (.row (.pair (.int .i64) (.pair (.int .i64) (.pair (.row (.int .i64)) (.pair (.int .i64) .unit))))) (.pair .bool (.pair .bool (.pair (.int .i64) (.pair (.int .i64) (.pair (.int .i64) (.pair (.int .i64) (.pair (.int .i64) .unit)))))))) a1) a2 h0 h1 => ((SzE.call h0 (szFrameS_ok a1.1 hx.1 _ h0 h1) fun r1 p0_ q0_ => SzE.done (Int.le_refl _)).to fun h => ⟨h.1, trivial, trivial, trivial, trivial, trivial, trivial, trivial, trivial⟩).eq fun k => laws_szBody_e k a1 a2
theorem szBodyS_ok : SzOk (.row (.pair (.row (.pair (.int .i64) (.pair (.int .i64) (.pair (.row (.int .i64)) (.pair (.int .i64) .unit))))) (.pair .bool (.pair .bool (.pair (.int .i64) (.pair (.int .i64) (.pair (.int .i64) (.pair (.int .i64) (.pair (.int .i64) .unit))))))))) laws_szBodyS := sz_row (α := ((List (Int × Int × (List Int) × Int × Unit)) × Bool × Bool × Int × Int × Int × Int × Int × Unit)) (W := WfT (.pair (.row (.pair (.int .i64) (.pair (.int .i64) (.pair (.row (.int .i64)) (.pair (.int .i64) .unit))))) (.pair .bool (.pair .bool (.pair (.int .i64) (.pair (.int .i64) (.pair (.int .i64) (.pair (.int .i64) (.pair (.int .i64) .unit))))))))) (F := FitT (.pair (.row (.pair (.int .i64) (.pair (.int .i64) (.pair (.row (.int .i64)) (.pair (.int .i64) .unit))))) (.pair .bool (.pair .bool (.pair (.int .i64) (.pair (.int .i64) (.pair (.int .i64) (.pair (.int .i64) (.pair (.int .i64) .unit))))))))) (d := (Ty.dflt (.pair (.row (.pair (.int .i64) (.pair (.int .i64) (.pair (.row (.int .i64)) (.pair (.int .i64) .unit))))) (.pair .bool (.pair .bool (.pair (.int .i64) (.pair (.int .i64) (.pair (.int .i64) (.pair (.int .i64) (.pair (.int .i64) .unit)))))))))) (S := laws_szBodyS) (L := laws_szBodyS.l5) (f := laws_szBody) szBody_ok laws_szBodyS.l5_s laws_szBodyS_e
theorem szWaitS_ok : SzOk (.row (.pair (.int .i64) (.pair (.int .i64) (.pair (.int .i64) (.pair (.int .i64) .unit))))) laws_szWaitS := sz_flat (e := (.pair (.int .i64) (.pair (.int .i64) (.pair (.int .i64) (.pair (.int .i64) .unit))))) (fun _ => ⟨trivial, trivial, trivial, trivial, trivial⟩) laws_szWaitS_e
theorem szChan_ok : SzOk (.pair (.int .i64) (.pair .bool (.pair (.row (.int .i64)) (.pair (.row (.pair (.int .i64) (.pair (.int .i64) (.pair (.int .i64) (.pair (.int .i64) .unit))))) (.pair (.row (.pair (.int .i64) (.pair (.int .i64) (.pair (.int .i64) (.pair (.int .i64) .unit))))) .unit))))) laws_szChan := fun (a1 : Int × Bool × (List Int) × (List (Int × Int × Int × Int × Unit)) × (List (Int × Int × Int × Int × Unit)) × Unit) (hx : WfT (.pair (.int .i64) (.pair .bool (.pair (.row (.int .i64)) (.pair (.row (.pair (.int .i64) (.pair (.int .i64) (.pair (.int .i64) (.pair (.int .i64) .unit))))) (.pair (.row (.pair (.int .i64) (.pair (.int .i64) (.pair (.int .i64) (.pair (.int .i64) .unit))))) .unit))))) a1) a2 h0 h1 => ((SzE.call h0 (szIntS_ok a1.2.2.1 hx.2.2.1 _ h0 h1) fun r1 p0_ q0_ => SzE.call p0_ (szWaitS_ok a1.2.2.2.1 hx.2.2.2.1 _ p0_ (by omega)) fun r2 p1_ q1_ => SzE.call p1_ (szWaitS_ok a1.2.2.2.2.1 hx.2.2.2.2.1 _ p1_ (by omega)) fun r3 p2_ q2_ => SzE.done (Int.le_refl _)).to fun h => ⟨trivial, trivial, h.1, h.2.1, h.2.2.1, trivial⟩).eq fun k => laws_szChan_e k a1 a2
theorem szChanS_ok : SzOk (.row (.pair (.int .i64) (.pair .bool (.pair (.row (.int .i64)) (.pair (.row (.pair (.int .i64) (.pair (.int .i64) (.pair (.int .i64) (.pair (.int .i64) .unit))))) (.pair (.row (.pair (.int .i64) (.pair (.int .i64) (.pair (.int .i64) (.pair (.int .i64) .unit))))) .unit)))))) laws_szChanS := sz_row (α := (Int × Bool × (List Int) × (List (Int × Int × Int × Int × Unit)) × (List (Int × Int × Int × Int × Unit)) × Unit)) (W := WfT (.pair (.int .i64) (.pair .bool (.pair (.row (.int .i64)) (.pair (.row (.pair (.int .i64) (.pair (.int .i64) (.pair (.int .i64) (.pair (.int .i64) .unit))))) (.pair (.row (.pair (.int .i64) (.pair (.int .i64) (.pair (.int .i64) (.pair (.int .i64) .unit))))) .unit)))))) (F := FitT (.pair (.int .i64) (.pair .bool (.pair (.row (.int .i64)) (.pair (.row (.pair (.int .i64) (.pair (.int .i64) (.pair (.int .i64) (.pair (.int .i64) .unit))))) (.pair (.row (.pair (.int .i64) (.pair (.int .i64) (.pair (.int .i64) (.pair (.int .i64) .unit))))) .unit)))))) (d := (Ty.dflt (.pair (.int .i64) (.pair .bool (.pair (.row (.int .i64)) (.pair (.row (.pair (.int .i64) (.pair (.int .i64) (.pair (.int .i64) (.pair (.int .i64) .unit))))) (.pair (.row (.pair (.int .i64) (.pair (.int .i64) (.pair (.int .i64) (.pair (.int .i64) .unit))))) .unit))))))) (S := laws_szChanS) (L := laws_szChanS.l5) (f := laws_szChan) szChan_ok laws_szChanS.l5_s laws_szChanS_e
theorem szWorld_ok : SzOk (.pair (.row (.pair .str (.pair (.int .i64) (.pair (.int .i64) (.pair (.row (.pair (.int .i64) (.pair (.int .i64) (.pair (.int .i64) (.pair (.int .i64) (.pair (.int .i64) (.pair .str (.pair (.row (.int .i64)) .unit)))))))) .unit))))) (.pair (.row (.pair (.row (.pair (.int .i64) (.pair (.int .i64) (.pair (.row (.int .i64)) (.pair (.int .i64) .unit))))) (.pair .bool (.pair .bool (.pair (.int .i64) (.pair (.int .i64) (.pair (.int .i64) (.pair (.int .i64) (.pair (.int .i64) .unit))))))))) (.pair (.row (.pair (.int .i64) (.pair .bool (.pair (.row (.int .i64)) (.pair (.row (.pair (.int .i64) (.pair (.int .i64) (.pair (.int .i64) (.pair (.int .i64) .unit))))) (.pair (.row (.pair (.int .i64) (.pair (.int .i64) (.pair (.int .i64) (.pair (.int .i64) .unit))))) .unit)))))) (.pair (.row (.int .i64)) (.pair .bool (.pair (.int .i64) .unit)))))) laws_szWorld := fun (a1 : (List (ByteArray × Int × Int × (List (Int × Int × Int × Int × Int × ByteArray × (List Int) × Unit)) × Unit)) × (List ((List (Int × Int × (List Int) × Int × Unit)) × Bool × Bool × Int × Int × Int × Int × Int × Unit)) × (List (Int × Bool × (List Int) × (List (Int × Int × Int × Int × Unit)) × (List (Int × Int × Int × Int × Unit)) × Unit)) × (List Int) × Bool × Int × Unit) (hx : WfT (.pair (.row (.pair .str (.pair (.int .i64) (.pair (.int .i64) (.pair (.row (.pair (.int .i64) (.pair (.int .i64) (.pair (.int .i64) (.pair (.int .i64) (.pair (.int .i64) (.pair .str (.pair (.row (.int .i64)) .unit)))))))) .unit))))) (.pair (.row (.pair (.row (.pair (.int .i64) (.pair (.int .i64) (.pair (.row (.int .i64)) (.pair (.int .i64) .unit))))) (.pair .bool (.pair .bool (.pair (.int .i64) (.pair (.int .i64) (.pair (.int .i64) (.pair (.int .i64) (.pair (.int .i64) .unit))))))))) (.pair (.row (.pair (.int .i64) (.pair .bool (.pair (.row (.int .i64)) (.pair (.row (.pair (.int .i64) (.pair (.int .i64) (.pair (.int .i64) (.pair (.int .i64) .unit))))) (.pair (.row (.pair (.int .i64) (.pair (.int .i64) (.pair (.int .i64) (.pair (.int .i64) .unit))))) .unit)))))) (.pair (.row (.int .i64)) (.pair .bool (.pair (.int .i64) .unit)))))) a1) a2 h0 h1 => ((SzE.call h0 (szUnitS_ok a1.1 hx.1 _ h0 h1) fun r1 p0_ q0_ => SzE.call p0_ (szBodyS_ok a1.2.1 hx.2.1 _ p0_ (by omega)) fun r2 p1_ q1_ => SzE.call p1_ (szChanS_ok a1.2.2.1 hx.2.2.1 _ p1_ (by omega)) fun r3 p2_ q2_ => SzE.call p2_ (szIntS_ok a1.2.2.2.1 hx.2.2.2.1 _ p2_ (by omega)) fun r4 p3_ q3_ => SzE.done (Int.le_refl _)).to fun h => ⟨h.1, h.2.1, h.2.2.1, h.2.2.2.1, trivial, trivial, trivial⟩).eq fun k => laws_szWorld_e k a1 a2
theorem toIntS_ok : ToOk (.row (.int .i64)) laws_toIntS := to_words (α := Int) (c := 8) (F := FitT (.int .i64)) (d := 0) (d' := 0) (S := laws_toIntS) (L := laws_toIntS.l3) laws_toIntS.l3_s laws_toIntS_e (by decide)
theorem toTac_ok : ToOk (.pair (.int .i64) (.pair (.int .i64) (.pair (.int .i64) (.pair (.int .i64) (.pair (.int .i64) (.pair .str (.pair (.row (.int .i64)) .unit))))))) laws_toTac := fun (a1 : Int × Int × Int × Int × Int × ByteArray × (List Int) × Unit) (hx : FitT (.pair (.int .i64) (.pair (.int .i64) (.pair (.int .i64) (.pair (.int .i64) (.pair (.int .i64) (.pair .str (.pair (.row (.int .i64)) .unit))))))) a1) => (show Ev fun k => (bindO (laws_toIntS k a1.2.2.2.2.2.2.1) fun r1 => (some (a1.1, a1.2.1, a1.2.2.1, a1.2.2.2.1, a1.2.2.2.2.1, a1.2.2.2.2.2.1, r1, ()))) = some a1 from To.call (toIntS_ok a1.2.2.2.2.2.2.1 hx.2.2.2.2.2.2.1) (Ev.of fun _ => rfl)).mono fun k h => (laws_toTac_e k a1).trans h
theorem toTacS_ok : ToOk (.row (.pair (.int .i64) (.pair (.int .i64) (.pair (.int .i64) (.pair (.int .i64) (.pair (.int .i64) (.pair .str (.pair (.row (.int .i64)) .unit)))))))) laws_toTacS := to_row (α := (Int × Int × Int × Int × Int × ByteArray × (List Int) × Unit)) (c := 80) (F := FitT (.pair (.int .i64) (.pair (.int .i64) (.pair (.int .i64) (.pair (.int .i64) (.pair (.int .i64) (.pair .str (.pair (.row (.int .i64)) .unit)))))))) (d := (Ty.dflt (.pair (.int .i64) (.pair (.int .i64) (.pair (.int .i64) (.pair (.int .i64) (.pair (.int .i64) (.pair .str (.pair (.row (.int .i64)) .unit))))))))) (d' := (Ty.dflt (.pair (.int .i64) (.pair (.int .i64) (.pair (.int .i64) (.pair (.int .i64) (.pair (.int .i64) (.pair .str (.pair (.row (.int .i64)) .unit))))))))) (S := laws_toTacS) (L := laws_toTacS.l3) (f := laws_toTac) toTac_ok laws_toTacS.l3_s laws_toTacS_e (by decide)
theorem toUnit_ok : ToOk (.pair .str (.pair (.int .i64) (.pair (.int .i64) (.pair (.row (.pair (.int .i64) (.pair (.int .i64) (.pair (.int .i64) (.pair (.int .i64) (.pair (.int .i64) (.pair .str (.pair (.row (.int .i64)) .unit)))))))) .unit)))) laws_toUnit := fun (a1 : ByteArray × Int × Int × (List (Int × Int × Int × Int × Int × ByteArray × (List Int) × Unit)) × Unit) (hx : FitT (.pair .str (.pair (.int .i64) (.pair (.int .i64) (.pair (.row (.pair (.int .i64) (.pair (.int .i64) (.pair (.int .i64) (.pair (.int .i64) (.pair (.int .i64) (.pair .str (.pair (.row (.int .i64)) .unit)))))))) .unit)))) a1) => (show Ev fun k => (bindO (laws_toTacS k a1.2.2.2.1) fun r1 => (some (a1.1, a1.2.1, a1.2.2.1, r1, ()))) = some a1 from To.call (toTacS_ok a1.2.2.2.1 hx.2.2.2.1) (Ev.of fun _ => rfl)).mono fun k h => (laws_toUnit_e k a1).trans h
theorem toUnitS_ok : ToOk (.row (.pair .str (.pair (.int .i64) (.pair (.int .i64) (.pair (.row (.pair (.int .i64) (.pair (.int .i64) (.pair (.int .i64) (.pair (.int .i64) (.pair (.int .i64) (.pair .str (.pair (.row (.int .i64)) .unit)))))))) .unit))))) laws_toUnitS := to_row (α := (ByteArray × Int × Int × (List (Int × Int × Int × Int × Int × ByteArray × (List Int) × Unit)) × Unit)) (c := 56) (F := FitT (.pair .str (.pair (.int .i64) (.pair (.int .i64) (.pair (.row (.pair (.int .i64) (.pair (.int .i64) (.pair (.int .i64) (.pair (.int .i64) (.pair (.int .i64) (.pair .str (.pair (.row (.int .i64)) .unit)))))))) .unit))))) (d := (Ty.dflt (.pair .str (.pair (.int .i64) (.pair (.int .i64) (.pair (.row (.pair (.int .i64) (.pair (.int .i64) (.pair (.int .i64) (.pair (.int .i64) (.pair (.int .i64) (.pair .str (.pair (.row (.int .i64)) .unit)))))))) .unit)))))) (d' := (Ty.dflt (.pair .str (.pair (.int .i64) (.pair (.int .i64) (.pair (.row (.pair (.int .i64) (.pair (.int .i64) (.pair (.int .i64) (.pair (.int .i64) (.pair (.int .i64) (.pair .str (.pair (.row (.int .i64)) .unit)))))))) .unit)))))) (S := laws_toUnitS) (L := laws_toUnitS.l3) (f := laws_toUnit) toUnit_ok laws_toUnitS.l3_s laws_toUnitS_e (by decide)
theorem toFrame_ok : ToOk (.pair (.int .i64) (.pair (.int .i64) (.pair (.row (.int .i64)) (.pair (.int .i64) .unit)))) laws_toFrame := fun (a1 : Int × Int × (List Int) × Int × Unit) (hx : FitT (.pair (.int .i64) (.pair (.int .i64) (.pair (.row (.int .i64)) (.pair (.int .i64) .unit)))) a1) => (show Ev fun k => (bindO (laws_toIntS k a1.2.2.1) fun r1 => (some (a1.1, a1.2.1, r1, a1.2.2.2.1, ()))) = some a1 from To.call (toIntS_ok a1.2.2.1 hx.2.2.1) (Ev.of fun _ => rfl)).mono fun k h => (laws_toFrame_e k a1).trans h
theorem toFrameS_ok : ToOk (.row (.pair (.int .i64) (.pair (.int .i64) (.pair (.row (.int .i64)) (.pair (.int .i64) .unit))))) laws_toFrameS := to_row (α := (Int × Int × (List Int) × Int × Unit)) (c := 48) (F := FitT (.pair (.int .i64) (.pair (.int .i64) (.pair (.row (.int .i64)) (.pair (.int .i64) .unit))))) (d := (Ty.dflt (.pair (.int .i64) (.pair (.int .i64) (.pair (.row (.int .i64)) (.pair (.int .i64) .unit)))))) (d' := (Ty.dflt (.pair (.int .i64) (.pair (.int .i64) (.pair (.row (.int .i64)) (.pair (.int .i64) .unit)))))) (S := laws_toFrameS) (L := laws_toFrameS.l3) (f := laws_toFrame) toFrame_ok laws_toFrameS.l3_s laws_toFrameS_e (by decide)
theorem toBody_ok : ToOk (.pair (.row (.pair (.int .i64) (.pair (.int .i64) (.pair (.row (.int .i64)) (.pair (.int .i64) .unit))))) (.pair .bool (.pair .bool (.pair (.int .i64) (.pair (.int .i64) (.pair (.int .i64) (.pair (.int .i64) (.pair (.int .i64) .unit)))))))) laws_toBody := fun (a1 : (List (Int × Int × (List Int) × Int × Unit)) × Bool × Bool × Int × Int × Int × Int × Int × Unit) (hx : FitT (.pair (.row (.pair (.int .i64) (.pair (.int .i64) (.pair (.row (.int .i64)) (.pair (.int .i64) .unit))))) (.pair .bool (.pair .bool (.pair (.int .i64) (.pair (.int .i64) (.pair (.int .i64) (.pair (.int .i64) (.pair (.int .i64) .unit)))))))) a1) => (show Ev fun k => (bindO (laws_toFrameS k a1.1) fun r1 => (some (r1, a1.2.1, a1.2.2.1, a1.2.2.2.1, a1.2.2.2.2.1, a1.2.2.2.2.2.1, a1.2.2.2.2.2.2.1, a1.2.2.2.2.2.2.2.1, ()))) = some a1 from To.call (toFrameS_ok a1.1 hx.1) (Ev.of fun _ => rfl)).mono fun k h => (laws_toBody_e k a1).trans h
theorem toBodyS_ok : ToOk (.row (.pair (.row (.pair (.int .i64) (.pair (.int .i64) (.pair (.row (.int .i64)) (.pair (.int .i64) .unit))))) (.pair .bool (.pair .bool (.pair (.int .i64) (.pair (.int .i64) (.pair (.int .i64) (.pair (.int .i64) (.pair (.int .i64) .unit))))))))) laws_toBodyS := to_row (α := ((List (Int × Int × (List Int) × Int × Unit)) × Bool × Bool × Int × Int × Int × Int × Int × Unit)) (c := 72) (F := FitT (.pair (.row (.pair (.int .i64) (.pair (.int .i64) (.pair (.row (.int .i64)) (.pair (.int .i64) .unit))))) (.pair .bool (.pair .bool (.pair (.int .i64) (.pair (.int .i64) (.pair (.int .i64) (.pair (.int .i64) (.pair (.int .i64) .unit))))))))) (d := (Ty.dflt (.pair (.row (.pair (.int .i64) (.pair (.int .i64) (.pair (.row (.int .i64)) (.pair (.int .i64) .unit))))) (.pair .bool (.pair .bool (.pair (.int .i64) (.pair (.int .i64) (.pair (.int .i64) (.pair (.int .i64) (.pair (.int .i64) .unit)))))))))) (d' := (Ty.dflt (.pair (.row (.pair (.int .i64) (.pair (.int .i64) (.pair (.row (.int .i64)) (.pair (.int .i64) .unit))))) (.pair .bool (.pair .bool (.pair (.int .i64) (.pair (.int .i64) (.pair (.int .i64) (.pair (.int .i64) (.pair (.int .i64) .unit)))))))))) (S := laws_toBodyS) (L := laws_toBodyS.l3) (f := laws_toBody) toBody_ok laws_toBodyS.l3_s laws_toBodyS_e (by decide)
theorem toWait_ok : ToOk (.pair (.int .i64) (.pair (.int .i64) (.pair (.int .i64) (.pair (.int .i64) .unit)))) laws_toWait := fun (a1 : Int × Int × Int × Int × Unit) (hx : FitT (.pair (.int .i64) (.pair (.int .i64) (.pair (.int .i64) (.pair (.int .i64) .unit)))) a1) => (show Ev fun k => (some (a1.1, a1.2.1, a1.2.2.1, a1.2.2.2.1, ())) = some a1 from Ev.of fun _ => rfl).mono fun k h => (laws_toWait_e k a1).trans h
theorem toWaitS_ok : ToOk (.row (.pair (.int .i64) (.pair (.int .i64) (.pair (.int .i64) (.pair (.int .i64) .unit))))) laws_toWaitS := to_row (α := (Int × Int × Int × Int × Unit)) (c := 32) (F := FitT (.pair (.int .i64) (.pair (.int .i64) (.pair (.int .i64) (.pair (.int .i64) .unit))))) (d := (Ty.dflt (.pair (.int .i64) (.pair (.int .i64) (.pair (.int .i64) (.pair (.int .i64) .unit)))))) (d' := (Ty.dflt (.pair (.int .i64) (.pair (.int .i64) (.pair (.int .i64) (.pair (.int .i64) .unit)))))) (S := laws_toWaitS) (L := laws_toWaitS.l3) (f := laws_toWait) toWait_ok laws_toWaitS.l3_s laws_toWaitS_e (by decide)
theorem toChan_ok : ToOk (.pair (.int .i64) (.pair .bool (.pair (.row (.int .i64)) (.pair (.row (.pair (.int .i64) (.pair (.int .i64) (.pair (.int .i64) (.pair (.int .i64) .unit))))) (.pair (.row (.pair (.int .i64) (.pair (.int .i64) (.pair (.int .i64) (.pair (.int .i64) .unit))))) .unit))))) laws_toChan := fun (a1 : Int × Bool × (List Int) × (List (Int × Int × Int × Int × Unit)) × (List (Int × Int × Int × Int × Unit)) × Unit) (hx : FitT (.pair (.int .i64) (.pair .bool (.pair (.row (.int .i64)) (.pair (.row (.pair (.int .i64) (.pair (.int .i64) (.pair (.int .i64) (.pair (.int .i64) .unit))))) (.pair (.row (.pair (.int .i64) (.pair (.int .i64) (.pair (.int .i64) (.pair (.int .i64) .unit))))) .unit))))) a1) => (show Ev fun k => (bindO (laws_toIntS k a1.2.2.1) fun r1 => (bindO (laws_toWaitS k a1.2.2.2.1) fun r2 => (bindO (laws_toWaitS k a1.2.2.2.2.1) fun r3 => (some (a1.1, a1.2.1, r1, r2, r3, ()))))) = some a1 from To.call (toIntS_ok a1.2.2.1 hx.2.2.1) (To.call (toWaitS_ok a1.2.2.2.1 hx.2.2.2.1) (To.call (toWaitS_ok a1.2.2.2.2.1 hx.2.2.2.2.1) (Ev.of fun _ => rfl)))).mono fun k h => (laws_toChan_e k a1).trans h
theorem toChanS_ok : ToOk (.row (.pair (.int .i64) (.pair .bool (.pair (.row (.int .i64)) (.pair (.row (.pair (.int .i64) (.pair (.int .i64) (.pair (.int .i64) (.pair (.int .i64) .unit))))) (.pair (.row (.pair (.int .i64) (.pair (.int .i64) (.pair (.int .i64) (.pair (.int .i64) .unit))))) .unit)))))) laws_toChanS := to_row (α := (Int × Bool × (List Int) × (List (Int × Int × Int × Int × Unit)) × (List (Int × Int × Int × Int × Unit)) × Unit)) (c := 88) (F := FitT (.pair (.int .i64) (.pair .bool (.pair (.row (.int .i64)) (.pair (.row (.pair (.int .i64) (.pair (.int .i64) (.pair (.int .i64) (.pair (.int .i64) .unit))))) (.pair (.row (.pair (.int .i64) (.pair (.int .i64) (.pair (.int .i64) (.pair (.int .i64) .unit))))) .unit)))))) (d := (Ty.dflt (.pair (.int .i64) (.pair .bool (.pair (.row (.int .i64)) (.pair (.row (.pair (.int .i64) (.pair (.int .i64) (.pair (.int .i64) (.pair (.int .i64) .unit))))) (.pair (.row (.pair (.int .i64) (.pair (.int .i64) (.pair (.int .i64) (.pair (.int .i64) .unit))))) .unit))))))) (d' := (Ty.dflt (.pair (.int .i64) (.pair .bool (.pair (.row (.int .i64)) (.pair (.row (.pair (.int .i64) (.pair (.int .i64) (.pair (.int .i64) (.pair (.int .i64) .unit))))) (.pair (.row (.pair (.int .i64) (.pair (.int .i64) (.pair (.int .i64) (.pair (.int .i64) .unit))))) .unit))))))) (S := laws_toChanS) (L := laws_toChanS.l3) (f := laws_toChan) toChan_ok laws_toChanS.l3_s laws_toChanS_e (by decide)
theorem toWorld_ok : ToOk (.pair (.row (.pair .str (.pair (.int .i64) (.pair (.int .i64) (.pair (.row (.pair (.int .i64) (.pair (.int .i64) (.pair (.int .i64) (.pair (.int .i64) (.pair (.int .i64) (.pair .str (.pair (.row (.int .i64)) .unit)))))))) .unit))))) (.pair (.row (.pair (.row (.pair (.int .i64) (.pair (.int .i64) (.pair (.row (.int .i64)) (.pair (.int .i64) .unit))))) (.pair .bool (.pair .bool (.pair (.int .i64) (.pair (.int .i64) (.pair (.int .i64) (.pair (.int .i64) (.pair (.int .i64) .unit))))))))) (.pair (.row (.pair (.int .i64) (.pair .bool (.pair (.row (.int .i64)) (.pair (.row (.pair (.int .i64) (.pair (.int .i64) (.pair (.int .i64) (.pair (.int .i64) .unit))))) (.pair (.row (.pair (.int .i64) (.pair (.int .i64) (.pair (.int .i64) (.pair (.int .i64) .unit))))) .unit)))))) (.pair (.row (.int .i64)) (.pair .bool (.pair (.int .i64) .unit)))))) laws_toWorld := fun (a1 : (List (ByteArray × Int × Int × (List (Int × Int × Int × Int × Int × ByteArray × (List Int) × Unit)) × Unit)) × (List ((List (Int × Int × (List Int) × Int × Unit)) × Bool × Bool × Int × Int × Int × Int × Int × Unit)) × (List (Int × Bool × (List Int) × (List (Int × Int × Int × Int × Unit)) × (List (Int × Int × Int × Int × Unit)) × Unit)) × (List Int) × Bool × Int × Unit) (hx : FitT (.pair (.row (.pair .str (.pair (.int .i64) (.pair (.int .i64) (.pair (.row (.pair (.int .i64) (.pair (.int .i64) (.pair (.int .i64) (.pair (.int .i64) (.pair (.int .i64) (.pair .str (.pair (.row (.int .i64)) .unit)))))))) .unit))))) (.pair (.row (.pair (.row (.pair (.int .i64) (.pair (.int .i64) (.pair (.row (.int .i64)) (.pair (.int .i64) .unit))))) (.pair .bool (.pair .bool (.pair (.int .i64) (.pair (.int .i64) (.pair (.int .i64) (.pair (.int .i64) (.pair (.int .i64) .unit))))))))) (.pair (.row (.pair (.int .i64) (.pair .bool (.pair (.row (.int .i64)) (.pair (.row (.pair (.int .i64) (.pair (.int .i64) (.pair (.int .i64) (.pair (.int .i64) .unit))))) (.pair (.row (.pair (.int .i64) (.pair (.int .i64) (.pair (.int .i64) (.pair (.int .i64) .unit))))) .unit)))))) (.pair (.row (.int .i64)) (.pair .bool (.pair (.int .i64) .unit)))))) a1) => (show Ev fun k => (bindO (laws_toUnitS k a1.1) fun r1 => (bindO (laws_toBodyS k a1.2.1) fun r2 => (bindO (laws_toChanS k a1.2.2.1) fun r3 => (bindO (laws_toIntS k a1.2.2.2.1) fun r4 => (some (r1, r2, r3, r4, a1.2.2.2.2.1, a1.2.2.2.2.2.1, ())))))) = some a1 from To.call (toUnitS_ok a1.1 hx.1) (To.call (toBodyS_ok a1.2.1 hx.2.1) (To.call (toChanS_ok a1.2.2.1 hx.2.2.1) (To.call (toIntS_ok a1.2.2.2.1 hx.2.2.2.1) (Ev.of fun _ => rfl))))).mono fun k h => (laws_toWorld_e k a1).trans h
theorem eqIntS_ok : EqOk (.row (.int .i64)) laws_eqIntS := eq_words (α := Int) (F := FitT (.int .i64)) (d := 0) (S := laws_eqIntS) (L := laws_eqIntS.l4) (p := (fun x y => x != y)) (fun x => by simp) laws_eqIntS.l4_s laws_eqIntS_e
theorem eqTac_ok : EqOk (.pair (.int .i64) (.pair (.int .i64) (.pair (.int .i64) (.pair (.int .i64) (.pair (.int .i64) (.pair .str (.pair (.row (.int .i64)) .unit))))))) laws_eqTac := fun (a1 : Int × Int × Int × Int × Int × ByteArray × (List Int) × Unit) (hx : FitT (.pair (.int .i64) (.pair (.int .i64) (.pair (.int .i64) (.pair (.int .i64) (.pair (.int .i64) (.pair .str (.pair (.row (.int .i64)) .unit))))))) a1) => EqE.eq (fun k => laws_eqTac_e k a1 a1) (EqE.word (by simp) (EqE.word (by simp) (EqE.word (by simp) (EqE.word (by simp) (EqE.word (by simp) (EqE.word (by simp) (EqE.call (eqIntS_ok a1.2.2.2.2.2.2.1 hx.2.2.2.2.2.2.1) (EqE.done))))))))
theorem eqTacS_ok : EqOk (.row (.pair (.int .i64) (.pair (.int .i64) (.pair (.int .i64) (.pair (.int .i64) (.pair (.int .i64) (.pair .str (.pair (.row (.int .i64)) .unit)))))))) laws_eqTacS := eq_row (α := (Int × Int × Int × Int × Int × ByteArray × (List Int) × Unit)) (F := FitT (.pair (.int .i64) (.pair (.int .i64) (.pair (.int .i64) (.pair (.int .i64) (.pair (.int .i64) (.pair .str (.pair (.row (.int .i64)) .unit)))))))) (d := (Ty.dflt (.pair (.int .i64) (.pair (.int .i64) (.pair (.int .i64) (.pair (.int .i64) (.pair (.int .i64) (.pair .str (.pair (.row (.int .i64)) .unit))))))))) (S := laws_eqTacS) (L := laws_eqTacS.l4) (f := laws_eqTac) eqTac_ok laws_eqTacS.l4_s laws_eqTacS_e
theorem eqUnit_ok : EqOk (.pair .str (.pair (.int .i64) (.pair (.int .i64) (.pair (.row (.pair (.int .i64) (.pair (.int .i64) (.pair (.int .i64) (.pair (.int .i64) (.pair (.int .i64) (.pair .str (.pair (.row (.int .i64)) .unit)))))))) .unit)))) laws_eqUnit := fun (a1 : ByteArray × Int × Int × (List (Int × Int × Int × Int × Int × ByteArray × (List Int) × Unit)) × Unit) (hx : FitT (.pair .str (.pair (.int .i64) (.pair (.int .i64) (.pair (.row (.pair (.int .i64) (.pair (.int .i64) (.pair (.int .i64) (.pair (.int .i64) (.pair (.int .i64) (.pair .str (.pair (.row (.int .i64)) .unit)))))))) .unit)))) a1) => EqE.eq (fun k => laws_eqUnit_e k a1 a1) (EqE.word (by simp) (EqE.word (by simp) (EqE.word (by simp) (EqE.call (eqTacS_ok a1.2.2.2.1 hx.2.2.2.1) (EqE.done)))))
theorem eqUnitS_ok : EqOk (.row (.pair .str (.pair (.int .i64) (.pair (.int .i64) (.pair (.row (.pair (.int .i64) (.pair (.int .i64) (.pair (.int .i64) (.pair (.int .i64) (.pair (.int .i64) (.pair .str (.pair (.row (.int .i64)) .unit)))))))) .unit))))) laws_eqUnitS := eq_row (α := (ByteArray × Int × Int × (List (Int × Int × Int × Int × Int × ByteArray × (List Int) × Unit)) × Unit)) (F := FitT (.pair .str (.pair (.int .i64) (.pair (.int .i64) (.pair (.row (.pair (.int .i64) (.pair (.int .i64) (.pair (.int .i64) (.pair (.int .i64) (.pair (.int .i64) (.pair .str (.pair (.row (.int .i64)) .unit)))))))) .unit))))) (d := (Ty.dflt (.pair .str (.pair (.int .i64) (.pair (.int .i64) (.pair (.row (.pair (.int .i64) (.pair (.int .i64) (.pair (.int .i64) (.pair (.int .i64) (.pair (.int .i64) (.pair .str (.pair (.row (.int .i64)) .unit)))))))) .unit)))))) (S := laws_eqUnitS) (L := laws_eqUnitS.l4) (f := laws_eqUnit) eqUnit_ok laws_eqUnitS.l4_s laws_eqUnitS_e
theorem eqFrame_ok : EqOk (.pair (.int .i64) (.pair (.int .i64) (.pair (.row (.int .i64)) (.pair (.int .i64) .unit)))) laws_eqFrame := fun (a1 : Int × Int × (List Int) × Int × Unit) (hx : FitT (.pair (.int .i64) (.pair (.int .i64) (.pair (.row (.int .i64)) (.pair (.int .i64) .unit)))) a1) => EqE.eq (fun k => laws_eqFrame_e k a1 a1) (EqE.word (by simp) (EqE.word (by simp) (EqE.call (eqIntS_ok a1.2.2.1 hx.2.2.1) (EqE.word (by simp) (EqE.done)))))
theorem eqFrameS_ok : EqOk (.row (.pair (.int .i64) (.pair (.int .i64) (.pair (.row (.int .i64)) (.pair (.int .i64) .unit))))) laws_eqFrameS := eq_row (α := (Int × Int × (List Int) × Int × Unit)) (F := FitT (.pair (.int .i64) (.pair (.int .i64) (.pair (.row (.int .i64)) (.pair (.int .i64) .unit))))) (d := (Ty.dflt (.pair (.int .i64) (.pair (.int .i64) (.pair (.row (.int .i64)) (.pair (.int .i64) .unit)))))) (S := laws_eqFrameS) (L := laws_eqFrameS.l4) (f := laws_eqFrame) eqFrame_ok laws_eqFrameS.l4_s laws_eqFrameS_e
theorem eqBody_ok : EqOk (.pair (.row (.pair (.int .i64) (.pair (.int .i64) (.pair (.row (.int .i64)) (.pair (.int .i64) .unit))))) (.pair .bool (.pair .bool (.pair (.int .i64) (.pair (.int .i64) (.pair (.int .i64) (.pair (.int .i64) (.pair (.int .i64) .unit)))))))) laws_eqBody := fun (a1 : (List (Int × Int × (List Int) × Int × Unit)) × Bool × Bool × Int × Int × Int × Int × Int × Unit) (hx : FitT (.pair (.row (.pair (.int .i64) (.pair (.int .i64) (.pair (.row (.int .i64)) (.pair (.int .i64) .unit))))) (.pair .bool (.pair .bool (.pair (.int .i64) (.pair (.int .i64) (.pair (.int .i64) (.pair (.int .i64) (.pair (.int .i64) .unit)))))))) a1) => EqE.eq (fun k => laws_eqBody_e k a1 a1) (EqE.call (eqFrameS_ok a1.1 hx.1) (EqE.word (by simp) (EqE.word (by simp) (EqE.word (by simp) (EqE.word (by simp) (EqE.word (by simp) (EqE.word (by simp) (EqE.word (by simp) (EqE.done)))))))))
theorem eqBodyS_ok : EqOk (.row (.pair (.row (.pair (.int .i64) (.pair (.int .i64) (.pair (.row (.int .i64)) (.pair (.int .i64) .unit))))) (.pair .bool (.pair .bool (.pair (.int .i64) (.pair (.int .i64) (.pair (.int .i64) (.pair (.int .i64) (.pair (.int .i64) .unit))))))))) laws_eqBodyS := eq_row (α := ((List (Int × Int × (List Int) × Int × Unit)) × Bool × Bool × Int × Int × Int × Int × Int × Unit)) (F := FitT (.pair (.row (.pair (.int .i64) (.pair (.int .i64) (.pair (.row (.int .i64)) (.pair (.int .i64) .unit))))) (.pair .bool (.pair .bool (.pair (.int .i64) (.pair (.int .i64) (.pair (.int .i64) (.pair (.int .i64) (.pair (.int .i64) .unit))))))))) (d := (Ty.dflt (.pair (.row (.pair (.int .i64) (.pair (.int .i64) (.pair (.row (.int .i64)) (.pair (.int .i64) .unit))))) (.pair .bool (.pair .bool (.pair (.int .i64) (.pair (.int .i64) (.pair (.int .i64) (.pair (.int .i64) (.pair (.int .i64) .unit)))))))))) (S := laws_eqBodyS) (L := laws_eqBodyS.l4) (f := laws_eqBody) eqBody_ok laws_eqBodyS.l4_s laws_eqBodyS_e
theorem eqWait_ok : EqOk (.pair (.int .i64) (.pair (.int .i64) (.pair (.int .i64) (.pair (.int .i64) .unit)))) laws_eqWait := fun (a1 : Int × Int × Int × Int × Unit) (hx : FitT (.pair (.int .i64) (.pair (.int .i64) (.pair (.int .i64) (.pair (.int .i64) .unit)))) a1) => EqE.eq (fun k => laws_eqWait_e k a1 a1) (EqE.word (by simp) (EqE.word (by simp) (EqE.word (by simp) (EqE.word (by simp) (EqE.done)))))
theorem eqWaitS_ok : EqOk (.row (.pair (.int .i64) (.pair (.int .i64) (.pair (.int .i64) (.pair (.int .i64) .unit))))) laws_eqWaitS := eq_row (α := (Int × Int × Int × Int × Unit)) (F := FitT (.pair (.int .i64) (.pair (.int .i64) (.pair (.int .i64) (.pair (.int .i64) .unit))))) (d := (Ty.dflt (.pair (.int .i64) (.pair (.int .i64) (.pair (.int .i64) (.pair (.int .i64) .unit)))))) (S := laws_eqWaitS) (L := laws_eqWaitS.l4) (f := laws_eqWait) eqWait_ok laws_eqWaitS.l4_s laws_eqWaitS_e
theorem eqChan_ok : EqOk (.pair (.int .i64) (.pair .bool (.pair (.row (.int .i64)) (.pair (.row (.pair (.int .i64) (.pair (.int .i64) (.pair (.int .i64) (.pair (.int .i64) .unit))))) (.pair (.row (.pair (.int .i64) (.pair (.int .i64) (.pair (.int .i64) (.pair (.int .i64) .unit))))) .unit))))) laws_eqChan := fun (a1 : Int × Bool × (List Int) × (List (Int × Int × Int × Int × Unit)) × (List (Int × Int × Int × Int × Unit)) × Unit) (hx : FitT (.pair (.int .i64) (.pair .bool (.pair (.row (.int .i64)) (.pair (.row (.pair (.int .i64) (.pair (.int .i64) (.pair (.int .i64) (.pair (.int .i64) .unit))))) (.pair (.row (.pair (.int .i64) (.pair (.int .i64) (.pair (.int .i64) (.pair (.int .i64) .unit))))) .unit))))) a1) => EqE.eq (fun k => laws_eqChan_e k a1 a1) (EqE.word (by simp) (EqE.word (by simp) (EqE.call (eqIntS_ok a1.2.2.1 hx.2.2.1) (EqE.call (eqWaitS_ok a1.2.2.2.1 hx.2.2.2.1) (EqE.call (eqWaitS_ok a1.2.2.2.2.1 hx.2.2.2.2.1) (EqE.done))))))
theorem eqChanS_ok : EqOk (.row (.pair (.int .i64) (.pair .bool (.pair (.row (.int .i64)) (.pair (.row (.pair (.int .i64) (.pair (.int .i64) (.pair (.int .i64) (.pair (.int .i64) .unit))))) (.pair (.row (.pair (.int .i64) (.pair (.int .i64) (.pair (.int .i64) (.pair (.int .i64) .unit))))) .unit)))))) laws_eqChanS := eq_row (α := (Int × Bool × (List Int) × (List (Int × Int × Int × Int × Unit)) × (List (Int × Int × Int × Int × Unit)) × Unit)) (F := FitT (.pair (.int .i64) (.pair .bool (.pair (.row (.int .i64)) (.pair (.row (.pair (.int .i64) (.pair (.int .i64) (.pair (.int .i64) (.pair (.int .i64) .unit))))) (.pair (.row (.pair (.int .i64) (.pair (.int .i64) (.pair (.int .i64) (.pair (.int .i64) .unit))))) .unit)))))) (d := (Ty.dflt (.pair (.int .i64) (.pair .bool (.pair (.row (.int .i64)) (.pair (.row (.pair (.int .i64) (.pair (.int .i64) (.pair (.int .i64) (.pair (.int .i64) .unit))))) (.pair (.row (.pair (.int .i64) (.pair (.int .i64) (.pair (.int .i64) (.pair (.int .i64) .unit))))) .unit))))))) (S := laws_eqChanS) (L := laws_eqChanS.l4) (f := laws_eqChan) eqChan_ok laws_eqChanS.l4_s laws_eqChanS_e
theorem eqWorld_ok : EqOk (.pair (.row (.pair .str (.pair (.int .i64) (.pair (.int .i64) (.pair (.row (.pair (.int .i64) (.pair (.int .i64) (.pair (.int .i64) (.pair (.int .i64) (.pair (.int .i64) (.pair .str (.pair (.row (.int .i64)) .unit)))))))) .unit))))) (.pair (.row (.pair (.row (.pair (.int .i64) (.pair (.int .i64) (.pair (.row (.int .i64)) (.pair (.int .i64) .unit))))) (.pair .bool (.pair .bool (.pair (.int .i64) (.pair (.int .i64) (.pair (.int .i64) (.pair (.int .i64) (.pair (.int .i64) .unit))))))))) (.pair (.row (.pair (.int .i64) (.pair .bool (.pair (.row (.int .i64)) (.pair (.row (.pair (.int .i64) (.pair (.int .i64) (.pair (.int .i64) (.pair (.int .i64) .unit))))) (.pair (.row (.pair (.int .i64) (.pair (.int .i64) (.pair (.int .i64) (.pair (.int .i64) .unit))))) .unit)))))) (.pair (.row (.int .i64)) (.pair .bool (.pair (.int .i64) .unit)))))) laws_eqWorld := fun (a1 : (List (ByteArray × Int × Int × (List (Int × Int × Int × Int × Int × ByteArray × (List Int) × Unit)) × Unit)) × (List ((List (Int × Int × (List Int) × Int × Unit)) × Bool × Bool × Int × Int × Int × Int × Int × Unit)) × (List (Int × Bool × (List Int) × (List (Int × Int × Int × Int × Unit)) × (List (Int × Int × Int × Int × Unit)) × Unit)) × (List Int) × Bool × Int × Unit) (hx : FitT (.pair (.row (.pair .str (.pair (.int .i64) (.pair (.int .i64) (.pair (.row (.pair (.int .i64) (.pair (.int .i64) (.pair (.int .i64) (.pair (.int .i64) (.pair (.int .i64) (.pair .str (.pair (.row (.int .i64)) .unit)))))))) .unit))))) (.pair (.row (.pair (.row (.pair (.int .i64) (.pair (.int .i64) (.pair (.row (.int .i64)) (.pair (.int .i64) .unit))))) (.pair .bool (.pair .bool (.pair (.int .i64) (.pair (.int .i64) (.pair (.int .i64) (.pair (.int .i64) (.pair (.int .i64) .unit))))))))) (.pair (.row (.pair (.int .i64) (.pair .bool (.pair (.row (.int .i64)) (.pair (.row (.pair (.int .i64) (.pair (.int .i64) (.pair (.int .i64) (.pair (.int .i64) .unit))))) (.pair (.row (.pair (.int .i64) (.pair (.int .i64) (.pair (.int .i64) (.pair (.int .i64) .unit))))) .unit)))))) (.pair (.row (.int .i64)) (.pair .bool (.pair (.int .i64) .unit)))))) a1) => EqE.eq (fun k => laws_eqWorld_e k a1 a1) (EqE.call (eqUnitS_ok a1.1 hx.1) (EqE.call (eqBodyS_ok a1.2.1 hx.2.1) (EqE.call (eqChanS_ok a1.2.2.1 hx.2.2.1) (EqE.call (eqIntS_ok a1.2.2.2.1 hx.2.2.2.1) (EqE.word (by simp) (EqE.word (by simp) (EqE.done)))))))

/-! Ops of places. -/
def wok (x : Int) : Bool := decide (-2147483648 ≤ x ∧ x ≤ 2147483647)
theorem spec_in (k : Nat) (x lo hi : Int) : spec_l1In k x lo hi = some (decide (lo ≤ x ∧ x ≤ hi)) := by rw [spec_l1In_e, in_ge]
theorem impl_in (k : Nat) (x lo hi : Int) : impl_within k x lo hi = some (decide (lo ≤ x ∧ x ≤ hi)) := by rw [impl_within_e, in_ge]
theorem spec_wok (k : Nat) (x : Int) : spec_WordOk k x = some (wok x) := by rw [spec_WordOk_e, spec_in, bindO_some]; rfl
theorem impl_wok (k : Nat) (x : Int) : impl_WordOk k x = some (wok x) := by rw [impl_WordOk_e, impl_in, bindO_some]; rfl
def bit (h b : Int) : Bool := (IntKind.wrap .i64 ((BitVec.ofInt (IntKind.bits .i64) h &&& BitVec.ofInt (IntKind.bits .i64) b).toNat : Int)) != 0
def hasT (op : Int) : Int := if 1 ≤ op ∧ op ≤ 28 then List.getD [0, 9, 3, 7, 7, 7, 7, 7, 8, 8, 10, 49, 2, 2, 48, 3, 6, 3, 2, 45, 3, 6, 39, 1, 17, 2, 6, 6, 2] op.toNat 0 else 0
theorem spec_has (k : Nat) (op : Int) : spec_l10Has k op = some (hasT op) := by
  rw [spec_l10Has_e, spec_in, bindO_some]
  unfold hasT
  by_cases h : 1 ≤ op ∧ op ≤ 28
  · rw [decide_eq_true h, Bool.not_true, iteB_false, iteB_pos (by omega), iteB_pos (by simp; omega), if_pos h]
  · rw [decide_eq_false h, Bool.not_false, iteB_true, if_neg h]
theorem contains_byte (l : List Int) (hl : l.length ≤ 1048576) (c : Int) : Ev fun k => slices_Contains_byte k l c = some (l.any fun y => c == y) := by
  refine contains_of (α := Int) (d := 0) (C := fun _ y => some (c == y)) (I := fun k xs => slices_Index_byte k xs c) (L := fun k n xs m i => slices_Index_byte.l2 k n xs c m i) (S := fun k xs => slices_Contains_byte k xs c) (fun k n xs m i => ?_) (fun k xs => slices_Index_byte_e k xs c) (fun k xs => slices_Contains_byte_e k xs c) l hl fun x _ => Ev.of fun _ => rfl
  exact slices_Index_byte.l2_s k n xs c m i
/-- The letters of an op, and what they say. -/
structure Letters (op : Int) (B : ByteArray) : Prop where
  is : ∀ k, impl_owns k op = some B
  len : (valBytes B).length ≤ 1048576
  d : (valBytes B).any (fun y => 68 == y) = bit (hasT op) 1
  a : (valBytes B).any (fun y => 65 == y) = bit (hasT op) 2
  b : (valBytes B).any (fun y => 66 == y) = bit (hasT op) 4
  n : (valBytes B).any (fun y => 78 == y) = bit (hasT op) 8
  s : (valBytes B).any (fun y => 83 == y) = bit (hasT op) 16
  x : (valBytes B).any (fun y => 88 == y) = bit (hasT op) 32
  some : (!(ByteArray.toList B == ByteArray.toList (⟨#[]⟩ : ByteArray))) = decide (1 ≤ op ∧ op ≤ 28)
theorem letters_1 : Letters 1 (⟨#[68, 78]⟩ : ByteArray) := ⟨fun k => by rw [impl_owns_e]; rfl, by decide, by kernel_rfl, by kernel_rfl, by kernel_rfl, by kernel_rfl, by kernel_rfl, by kernel_rfl, by kernel_rfl⟩
theorem letters_2 : Letters 2 (⟨#[68, 65]⟩ : ByteArray) := ⟨fun k => by rw [impl_owns_e]; rfl, by decide, by kernel_rfl, by kernel_rfl, by kernel_rfl, by kernel_rfl, by kernel_rfl, by kernel_rfl, by kernel_rfl⟩
theorem letters_3 : Letters 3 (⟨#[68, 65, 66]⟩ : ByteArray) := ⟨fun k => by rw [impl_owns_e]; rfl, by decide, by kernel_rfl, by kernel_rfl, by kernel_rfl, by kernel_rfl, by kernel_rfl, by kernel_rfl, by kernel_rfl⟩
theorem letters_4 : Letters 4 (⟨#[68, 65, 66]⟩ : ByteArray) := ⟨fun k => by rw [impl_owns_e]; rfl, by decide, by kernel_rfl, by kernel_rfl, by kernel_rfl, by kernel_rfl, by kernel_rfl, by kernel_rfl, by kernel_rfl⟩
theorem letters_5 : Letters 5 (⟨#[68, 65, 66]⟩ : ByteArray) := ⟨fun k => by rw [impl_owns_e]; rfl, by decide, by kernel_rfl, by kernel_rfl, by kernel_rfl, by kernel_rfl, by kernel_rfl, by kernel_rfl, by kernel_rfl⟩
theorem letters_6 : Letters 6 (⟨#[68, 65, 66]⟩ : ByteArray) := ⟨fun k => by rw [impl_owns_e]; rfl, by decide, by kernel_rfl, by kernel_rfl, by kernel_rfl, by kernel_rfl, by kernel_rfl, by kernel_rfl, by kernel_rfl⟩
theorem letters_7 : Letters 7 (⟨#[68, 65, 66]⟩ : ByteArray) := ⟨fun k => by rw [impl_owns_e]; rfl, by decide, by kernel_rfl, by kernel_rfl, by kernel_rfl, by kernel_rfl, by kernel_rfl, by kernel_rfl, by kernel_rfl⟩
theorem letters_8 : Letters 8 (⟨#[78]⟩ : ByteArray) := ⟨fun k => by rw [impl_owns_e]; rfl, by decide, by kernel_rfl, by kernel_rfl, by kernel_rfl, by kernel_rfl, by kernel_rfl, by kernel_rfl, by kernel_rfl⟩
theorem letters_9 : Letters 9 (⟨#[78]⟩ : ByteArray) := ⟨fun k => by rw [impl_owns_e]; rfl, by decide, by kernel_rfl, by kernel_rfl, by kernel_rfl, by kernel_rfl, by kernel_rfl, by kernel_rfl, by kernel_rfl⟩
theorem letters_10 : Letters 10 (⟨#[65, 78]⟩ : ByteArray) := ⟨fun k => by rw [impl_owns_e]; rfl, by decide, by kernel_rfl, by kernel_rfl, by kernel_rfl, by kernel_rfl, by kernel_rfl, by kernel_rfl, by kernel_rfl⟩
theorem letters_11 : Letters 11 (⟨#[68, 83, 88]⟩ : ByteArray) := ⟨fun k => by rw [impl_owns_e]; rfl, by decide, by kernel_rfl, by kernel_rfl, by kernel_rfl, by kernel_rfl, by kernel_rfl, by kernel_rfl, by kernel_rfl⟩
theorem letters_12 : Letters 12 (⟨#[65]⟩ : ByteArray) := ⟨fun k => by rw [impl_owns_e]; rfl, by decide, by kernel_rfl, by kernel_rfl, by kernel_rfl, by kernel_rfl, by kernel_rfl, by kernel_rfl, by kernel_rfl⟩
theorem letters_13 : Letters 13 (⟨#[65]⟩ : ByteArray) := ⟨fun k => by rw [impl_owns_e]; rfl, by decide, by kernel_rfl, by kernel_rfl, by kernel_rfl, by kernel_rfl, by kernel_rfl, by kernel_rfl, by kernel_rfl⟩
theorem letters_14 : Letters 14 (⟨#[83, 88]⟩ : ByteArray) := ⟨fun k => by rw [impl_owns_e]; rfl, by decide, by kernel_rfl, by kernel_rfl, by kernel_rfl, by kernel_rfl, by kernel_rfl, by kernel_rfl, by kernel_rfl⟩
theorem letters_15 : Letters 15 (⟨#[68, 65]⟩ : ByteArray) := ⟨fun k => by rw [impl_owns_e]; rfl, by decide, by kernel_rfl, by kernel_rfl, by kernel_rfl, by kernel_rfl, by kernel_rfl, by kernel_rfl, by kernel_rfl⟩
theorem letters_16 : Letters 16 (⟨#[65, 66]⟩ : ByteArray) := ⟨fun k => by rw [impl_owns_e]; rfl, by decide, by kernel_rfl, by kernel_rfl, by kernel_rfl, by kernel_rfl, by kernel_rfl, by kernel_rfl, by kernel_rfl⟩
theorem letters_17 : Letters 17 (⟨#[68, 65]⟩ : ByteArray) := ⟨fun k => by rw [impl_owns_e]; rfl, by decide, by kernel_rfl, by kernel_rfl, by kernel_rfl, by kernel_rfl, by kernel_rfl, by kernel_rfl, by kernel_rfl⟩
theorem letters_18 : Letters 18 (⟨#[65]⟩ : ByteArray) := ⟨fun k => by rw [impl_owns_e]; rfl, by decide, by kernel_rfl, by kernel_rfl, by kernel_rfl, by kernel_rfl, by kernel_rfl, by kernel_rfl, by kernel_rfl⟩
theorem letters_19 : Letters 19 (⟨#[68, 66, 78, 88]⟩ : ByteArray) := ⟨fun k => by rw [impl_owns_e]; rfl, by decide, by kernel_rfl, by kernel_rfl, by kernel_rfl, by kernel_rfl, by kernel_rfl, by kernel_rfl, by kernel_rfl⟩
theorem letters_20 : Letters 20 (⟨#[68, 65]⟩ : ByteArray) := ⟨fun k => by rw [impl_owns_e]; rfl, by decide, by kernel_rfl, by kernel_rfl, by kernel_rfl, by kernel_rfl, by kernel_rfl, by kernel_rfl, by kernel_rfl⟩
theorem letters_21 : Letters 21 (⟨#[65, 66]⟩ : ByteArray) := ⟨fun k => by rw [impl_owns_e]; rfl, by decide, by kernel_rfl, by kernel_rfl, by kernel_rfl, by kernel_rfl, by kernel_rfl, by kernel_rfl, by kernel_rfl⟩
theorem letters_22 : Letters 22 (⟨#[68, 65, 66, 88]⟩ : ByteArray) := ⟨fun k => by rw [impl_owns_e]; rfl, by decide, by kernel_rfl, by kernel_rfl, by kernel_rfl, by kernel_rfl, by kernel_rfl, by kernel_rfl, by kernel_rfl⟩
theorem letters_23 : Letters 23 (⟨#[68]⟩ : ByteArray) := ⟨fun k => by rw [impl_owns_e]; rfl, by decide, by kernel_rfl, by kernel_rfl, by kernel_rfl, by kernel_rfl, by kernel_rfl, by kernel_rfl, by kernel_rfl⟩
theorem letters_24 : Letters 24 (⟨#[68, 83]⟩ : ByteArray) := ⟨fun k => by rw [impl_owns_e]; rfl, by decide, by kernel_rfl, by kernel_rfl, by kernel_rfl, by kernel_rfl, by kernel_rfl, by kernel_rfl, by kernel_rfl⟩
theorem letters_25 : Letters 25 (⟨#[65]⟩ : ByteArray) := ⟨fun k => by rw [impl_owns_e]; rfl, by decide, by kernel_rfl, by kernel_rfl, by kernel_rfl, by kernel_rfl, by kernel_rfl, by kernel_rfl, by kernel_rfl⟩
theorem letters_26 : Letters 26 (⟨#[65, 66]⟩ : ByteArray) := ⟨fun k => by rw [impl_owns_e]; rfl, by decide, by kernel_rfl, by kernel_rfl, by kernel_rfl, by kernel_rfl, by kernel_rfl, by kernel_rfl, by kernel_rfl⟩
theorem letters_27 : Letters 27 (⟨#[65, 66]⟩ : ByteArray) := ⟨fun k => by rw [impl_owns_e]; rfl, by decide, by kernel_rfl, by kernel_rfl, by kernel_rfl, by kernel_rfl, by kernel_rfl, by kernel_rfl, by kernel_rfl⟩
theorem letters_28 : Letters 28 (⟨#[65]⟩ : ByteArray) := ⟨fun k => by rw [impl_owns_e]; rfl, by decide, by kernel_rfl, by kernel_rfl, by kernel_rfl, by kernel_rfl, by kernel_rfl, by kernel_rfl, by kernel_rfl⟩
theorem letters_no (op : Int) (h : op < 1 ∨ 28 < op) : Letters op (⟨#[]⟩ : ByteArray) := by
  have ne : ∀ c : Int, 1 ≤ c → c ≤ 28 → (op == c) = false := fun c h1 h2 => by simp; omega
  have h0 : hasT op = 0 := by unfold hasT; rw [if_neg (by omega)]
  refine ⟨fun k => ?_, by decide, ?_, ?_, ?_, ?_, ?_, ?_, ?_⟩
  · rw [impl_owns_e]
    simp only [ne 1 (by omega) (by omega), ne 2 (by omega) (by omega), ne 3 (by omega) (by omega), ne 4 (by omega) (by omega), ne 5 (by omega) (by omega), ne 6 (by omega) (by omega), ne 7 (by omega) (by omega), ne 8 (by omega) (by omega), ne 9 (by omega) (by omega), ne 10 (by omega) (by omega), ne 11 (by omega) (by omega), ne 12 (by omega) (by omega), ne 13 (by omega) (by omega), ne 14 (by omega) (by omega), ne 15 (by omega) (by omega), ne 16 (by omega) (by omega), ne 17 (by omega) (by omega), ne 18 (by omega) (by omega), ne 19 (by omega) (by omega), ne 20 (by omega) (by omega), ne 21 (by omega) (by omega), ne 22 (by omega) (by omega), ne 23 (by omega) (by omega), ne 24 (by omega) (by omega), ne 25 (by omega) (by omega), ne 26 (by omega) (by omega), ne 27 (by omega) (by omega), ne 28 (by omega) (by omega), iteB_false]
  all_goals first | (rw [h0]; kernel_rfl) | skip
  rw [decide_eq_false (by omega)]; kernel_rfl
theorem letters (op : Int) : ∃ B, Letters op B := by
  have h : op = 1 ∨ op = 2 ∨ op = 3 ∨ op = 4 ∨ op = 5 ∨ op = 6 ∨ op = 7 ∨ op = 8 ∨ op = 9 ∨ op = 10 ∨ op = 11 ∨ op = 12 ∨ op = 13 ∨ op = 14 ∨ op = 15 ∨ op = 16 ∨ op = 17 ∨ op = 18 ∨ op = 19 ∨ op = 20 ∨ op = 21 ∨ op = 22 ∨ op = 23 ∨ op = 24 ∨ op = 25 ∨ op = 26 ∨ op = 27 ∨ op = 28 ∨ (op < 1 ∨ 28 < op) := by omega
  rcases h with h | h | h | h | h | h | h | h | h | h | h | h | h | h | h | h | h | h | h | h | h | h | h | h | h | h | h | h | h
  · subst h; exact ⟨_, letters_1⟩
  · subst h; exact ⟨_, letters_2⟩
  · subst h; exact ⟨_, letters_3⟩
  · subst h; exact ⟨_, letters_4⟩
  · subst h; exact ⟨_, letters_5⟩
  · subst h; exact ⟨_, letters_6⟩
  · subst h; exact ⟨_, letters_7⟩
  · subst h; exact ⟨_, letters_8⟩
  · subst h; exact ⟨_, letters_9⟩
  · subst h; exact ⟨_, letters_10⟩
  · subst h; exact ⟨_, letters_11⟩
  · subst h; exact ⟨_, letters_12⟩
  · subst h; exact ⟨_, letters_13⟩
  · subst h; exact ⟨_, letters_14⟩
  · subst h; exact ⟨_, letters_15⟩
  · subst h; exact ⟨_, letters_16⟩
  · subst h; exact ⟨_, letters_17⟩
  · subst h; exact ⟨_, letters_18⟩
  · subst h; exact ⟨_, letters_19⟩
  · subst h; exact ⟨_, letters_20⟩
  · subst h; exact ⟨_, letters_21⟩
  · subst h; exact ⟨_, letters_22⟩
  · subst h; exact ⟨_, letters_23⟩
  · subst h; exact ⟨_, letters_24⟩
  · subst h; exact ⟨_, letters_25⟩
  · subst h; exact ⟨_, letters_26⟩
  · subst h; exact ⟨_, letters_27⟩
  · subst h; exact ⟨_, letters_28⟩
  · exact ⟨_, letters_no op h⟩
theorem owned_of {op : Int} {B : ByteArray} (h : Letters op B) (c : Int) : Ev fun k => impl_owned k op c = some ((valBytes B).any fun y => c == y) :=
  (contains_byte _ h.len c).mono fun k hk => by rw [impl_owned_e, h.is, bindO_some, hk, bindO_some]
theorem own_d (op : Int) : Ev fun k => impl_owned k op 68 = some (bit (hasT op) 1) := by obtain ⟨B, h⟩ := letters op; have := owned_of h 68; rwa [h.d] at this
theorem own_a (op : Int) : Ev fun k => impl_owned k op 65 = some (bit (hasT op) 2) := by obtain ⟨B, h⟩ := letters op; have := owned_of h 65; rwa [h.a] at this
theorem own_b (op : Int) : Ev fun k => impl_owned k op 66 = some (bit (hasT op) 4) := by obtain ⟨B, h⟩ := letters op; have := owned_of h 66; rwa [h.b] at this
theorem own_n (op : Int) : Ev fun k => impl_owned k op 78 = some (bit (hasT op) 8) := by obtain ⟨B, h⟩ := letters op; have := owned_of h 78; rwa [h.n] at this
theorem own_s (op : Int) : Ev fun k => impl_owned k op 83 = some (bit (hasT op) 16) := by obtain ⟨B, h⟩ := letters op; have := owned_of h 83; rwa [h.s] at this
theorem own_x (op : Int) : Ev fun k => impl_owned k op 88 = some (bit (hasT op) 32) := by obtain ⟨B, h⟩ := letters op; have := owned_of h 88; rwa [h.x] at this
theorem bz_1 : bit 0 1 = false := by kernel_rfl
theorem bz_2 : bit 0 2 = false := by kernel_rfl
theorem bz_4 : bit 0 4 = false := by kernel_rfl
theorem bz_8 : bit 0 8 = false := by kernel_rfl
theorem bz_16 : bit 0 16 = false := by kernel_rfl
theorem bz_32 : bit 0 32 = false := by kernel_rfl
theorem xn_1 : bit (hasT 1) 32 = false := by kernel_rfl
theorem xn_2 : bit (hasT 2) 32 = false := by kernel_rfl
theorem xn_3 : bit (hasT 3) 32 = false := by kernel_rfl
theorem xn_4 : bit (hasT 4) 32 = false := by kernel_rfl
theorem xn_5 : bit (hasT 5) 32 = false := by kernel_rfl
theorem xn_6 : bit (hasT 6) 32 = false := by kernel_rfl
theorem xn_7 : bit (hasT 7) 32 = false := by kernel_rfl
theorem xn_8 : bit (hasT 8) 32 = false := by kernel_rfl
theorem xn_9 : bit (hasT 9) 32 = false := by kernel_rfl
theorem xn_10 : bit (hasT 10) 32 = false := by kernel_rfl
theorem xn_12 : bit (hasT 12) 32 = false := by kernel_rfl
theorem xn_13 : bit (hasT 13) 32 = false := by kernel_rfl
theorem xn_15 : bit (hasT 15) 32 = false := by kernel_rfl
theorem xn_16 : bit (hasT 16) 32 = false := by kernel_rfl
theorem xn_17 : bit (hasT 17) 32 = false := by kernel_rfl
theorem xn_18 : bit (hasT 18) 32 = false := by kernel_rfl
theorem xn_20 : bit (hasT 20) 32 = false := by kernel_rfl
theorem xn_21 : bit (hasT 21) 32 = false := by kernel_rfl
theorem xn_23 : bit (hasT 23) 32 = false := by kernel_rfl
theorem xn_24 : bit (hasT 24) 32 = false := by kernel_rfl
theorem xn_25 : bit (hasT 25) 32 = false := by kernel_rfl
theorem xn_26 : bit (hasT 26) 32 = false := by kernel_rfl
theorem xn_27 : bit (hasT 27) 32 = false := by kernel_rfl
theorem xn_28 : bit (hasT 28) 32 = false := by kernel_rfl
/-- What is so of an op that is none, or not a select. -/
theorem bits_no (op : Int) (h : op < 1 ∨ 28 < op) (b : Int) (hb : b = 1 ∨ b = 2 ∨ b = 4 ∨ b = 8 ∨ b = 16 ∨ b = 32) : bit (hasT op) b = false := by
  have h0 : hasT op = 0 := by unfold hasT; rw [if_neg (by omega)]
  rw [h0]
  rcases hb with rfl | rfl | rfl | rfl | rfl | rfl
  · exact bz_1
  · exact bz_2
  · exact bz_4
  · exact bz_8
  · exact bz_16
  · exact bz_32
theorem sel_1 : bit (hasT 19) 1 = true := by kernel_rfl
theorem sel_2 : bit (hasT 19) 2 = false := by kernel_rfl
theorem sel_4 : bit (hasT 19) 4 = true := by kernel_rfl
theorem sel_8 : bit (hasT 19) 8 = true := by kernel_rfl
theorem sel_16 : bit (hasT 19) 16 = false := by kernel_rfl
theorem sel_32 : bit (hasT 19) 32 = true := by kernel_rfl
theorem args_x (op : Int) (h : op ≠ 19) (h2 : op ≠ 22) (h3 : op ≠ 11) (h4 : op ≠ 14) : bit (hasT op) 32 = false := by
  have h : op = 1 ∨ op = 2 ∨ op = 3 ∨ op = 4 ∨ op = 5 ∨ op = 6 ∨ op = 7 ∨ op = 8 ∨ op = 9 ∨ op = 10 ∨ op = 12 ∨ op = 13 ∨ op = 15 ∨ op = 16 ∨ op = 17 ∨ op = 18 ∨ op = 20 ∨ op = 21 ∨ op = 23 ∨ op = 24 ∨ op = 25 ∨ op = 26 ∨ op = 27 ∨ op = 28 ∨ (op < 1 ∨ 28 < op) := by omega
  rcases h with h | h | h | h | h | h | h | h | h | h | h | h | h | h | h | h | h | h | h | h | h | h | h | h | h
  · subst h; exact xn_1
  · subst h; exact xn_2
  · subst h; exact xn_3
  · subst h; exact xn_4
  · subst h; exact xn_5
  · subst h; exact xn_6
  · subst h; exact xn_7
  · subst h; exact xn_8
  · subst h; exact xn_9
  · subst h; exact xn_10
  · subst h; exact xn_12
  · subst h; exact xn_13
  · subst h; exact xn_15
  · subst h; exact xn_16
  · subst h; exact xn_17
  · subst h; exact xn_18
  · subst h; exact xn_20
  · subst h; exact xn_21
  · subst h; exact xn_23
  · subst h; exact xn_24
  · subst h; exact xn_25
  · subst h; exact xn_26
  · subst h; exact xn_27
  · subst h; exact xn_28
  · exact bits_no op h 32 (by simp)
theorem x_22 : bit (hasT 22) 32 = true := by kernel_rfl
theorem x_11 : bit (hasT 11) 32 = true := by kernel_rfl
theorem x_14 : bit (hasT 14) 32 = true := by kernel_rfl

/-! Args. -/
abbrev TT : Type := Int × Int × Int × Int × Int × ByteArray × (List Int) × Unit
abbrev TT.args (x : TT) : List Int := x.2.2.2.2.2.2.1
theorem iteB_same {α : Type} (b : Bool) (x : α) : iteB b x x = x := by cases b <;> rfl
def trip (a c : Int) : Bool := decide (1 ≤ a ∧ a ≤ 2) && !(a == 1 && c != 0)
def selOk : List Int → Bool
  | [a, _, c] => trip a c
  | [a, _, c, d, _, f] => trip a c && trip d f
  | [a, _, c, d, _, f, g, _, i] => trip a c && (trip d f && trip g i)
  | _ => false
theorem selOk_len {l : List Int} (h : l.length ≠ 3) (h2 : l.length ≠ 6) (h3 : l.length ≠ 9) : selOk l = false := by
  unfold selOk
  split <;> simp at h h2 h3 ⊢
theorem len3 {l : List Int} (h : l.length = 3) : ∃ a b c, l = [a, b, c] := by
  match l, h with
  | [a, b, c], _ => exact ⟨a, b, c, rfl⟩
theorem len6 {l : List Int} (h : l.length = 6) : ∃ a b c d e f, l = [a, b, c, d, e, f] := by
  match l, h with
  | [a, b, c, d, e, f], _ => exact ⟨a, b, c, d, e, f, rfl⟩
theorem len9 {l : List Int} (h : l.length = 9) : ∃ a b c d e f g i j, l = [a, b, c, d, e, f, g, i, j] := by
  match l, h with
  | [a, b, c, d, e, f, g, i, j], _ => exact ⟨a, b, c, d, e, f, g, i, j, rfl⟩
/-- One round of the reference's. -/
theorem spec_round (k n : Nat) (x : TT) (i : Int) (h0 : 0 ≤ i) (h1 : i + 2 < (x.args.length : Int)) (hl : x.args.length ≤ 1048576) :
    spec_l10Args.l5 k (n + 1) (x.args.length : Int) i x = iteB (trip (x.args.getD i.toNat 0) (x.args.getD (i + 2).toNat 0)) (spec_l10Args.l5 k n (x.args.length : Int) (i + 3) x) (some false) := by
  have w2 : IntKind.wrap .i64 (i + 2) = i + 2 := wrap_id (by omega) (by omega)
  have w3 : IntKind.wrap .i64 (i + 3) = i + 3 := wrap_id (by omega) (by omega)
  rw [spec_l10Args.l5_s, iteB_pos (show i < (x.args.length : Int) by omega), iteB_pos h0, iteB_pos (show i < (x.args.length : Int) by omega), spec_in, bindO_some, w2, iteB_pos h1, iteB_pos h0, iteB_pos (show i < (x.args.length : Int) by omega), iteB_pos (show 0 ≤ i + 2 by omega), iteB_pos h1, w3, Bool.not_not]
  unfold trip
  generalize decide (1 ≤ List.getD x.2.2.2.2.2.2.1 i.toNat 0 ∧ List.getD x.2.2.2.2.2.2.1 i.toNat 0 ≤ 2) = A
  generalize (List.getD x.2.2.2.2.2.2.1 i.toNat 0 == 1) = B
  generalize (List.getD x.2.2.2.2.2.2.1 (i + 2).toNat 0 != 0) = C
  cases A <;> cases B <;> cases C <;> rfl
theorem impl_round (k n : Nat) (x : TT) (i : Int) (h0 : 0 ≤ i) (h1 : i + 2 < (x.args.length : Int)) (hl : x.args.length ≤ 1048576) :
    impl_argsOk.l3 k (n + 1) i x = iteB (trip (x.args.getD i.toNat 0) (x.args.getD (i + 2).toNat 0)) (impl_argsOk.l3 k n (i + 3) x) (some false) := by
  have w2 : IntKind.wrap .i64 (i + 2) = i + 2 := wrap_id (by omega) (by omega)
  have w3 : IntKind.wrap .i64 (i + 3) = i + 3 := wrap_id (by omega) (by omega)
  rw [impl_argsOk.l3_s, w2, iteB_pos h1, iteB_pos h0, iteB_pos (show i < (x.args.length : Int) by omega), impl_in, bindO_some, iteB_pos h0, iteB_pos (show i < (x.args.length : Int) by omega), iteB_pos (show 0 ≤ i + 2 by omega), iteB_pos h1, w3, Bool.not_not]
  unfold trip
  generalize decide (1 ≤ List.getD x.2.2.2.2.2.2.1 i.toNat 0 ∧ List.getD x.2.2.2.2.2.2.1 i.toNat 0 ≤ 2) = A
  generalize (List.getD x.2.2.2.2.2.2.1 i.toNat 0 == 1) = B
  generalize (List.getD x.2.2.2.2.2.2.1 (i + 2).toNat 0 != 0) = C
  cases A <;> cases B <;> cases C <;> rfl
/-- The reference's end, and what comes of other lengths. -/
theorem spec_end (k n : Nat) (x : TT) (i : Int) (h : (x.args.length : Int) ≤ i) : spec_l10Args.l5 k (n + 1) (x.args.length : Int) i x = some (((x.args.length : Int) == 3) || (((x.args.length : Int) == 6) || ((x.args.length : Int) == 9))) := by
  rw [spec_l10Args.l5_s, iteB_neg (by omega)]
  cases ((x.args.length : Int) == 3) <;> cases ((x.args.length : Int) == 6) <;> rfl
theorem spec_other (x : TT) (hl : x.args.length ≤ 1048576) (h3 : x.args.length ≠ 3) (h6 : x.args.length ≠ 6) (h9 : x.args.length ≠ 9) (k : Nat) : ∀ (m : Nat) (i : Int) (q : Nat), 0 ≤ i → (x.args.length : Int) - i ≤ m → m < q → spec_l10Args.l5 k q (x.args.length : Int) i x = some false := by
  have he : (((x.args.length : Int) == 3) || (((x.args.length : Int) == 6) || ((x.args.length : Int) == 9))) = false := by
    have a : ((x.args.length : Int) == 3) = false := by simp; omega
    have b : ((x.args.length : Int) == 6) = false := by simp; omega
    have c : ((x.args.length : Int) == 9) = false := by simp; omega
    rw [a, b, c]; rfl
  intro m
  induction m with
  | zero =>
    intro i q h0 hm hq
    obtain ⟨q, rfl⟩ : ∃ p, q = p + 1 := ⟨q - 1, by omega⟩
    rw [spec_end k q x i (by omega), he]
  | succ m ih =>
    intro i q h0 hm hq
    obtain ⟨q, rfl⟩ : ∃ p, q = p + 1 := ⟨q - 1, by omega⟩
    by_cases c : (x.args.length : Int) ≤ i
    · rw [spec_end k q x i c, he]
    · by_cases c2 : i + 2 < (x.args.length : Int)
      · rw [spec_round k q x i h0 c2 hl, ih (i + 3) q (by omega) (by omega) (by omega), iteB_same]
      · have w2 : IntKind.wrap .i64 (i + 2) = i + 2 := wrap_id (by omega) (by omega)
        have w3 : IntKind.wrap .i64 (i + 3) = i + 3 := wrap_id (by omega) (by omega)
        rw [spec_l10Args.l5_s, iteB_pos (by omega), iteB_pos h0, iteB_pos (show i < (x.args.length : Int) by omega), spec_in, bindO_some, w2, iteB_neg c2, w3, ih (i + 3) q (by omega) (by omega) (by omega), iteB_same]
theorem spec_sel (x : TT) (hl : x.args.length ≤ 1048576) : Ev fun k => spec_l10Args.l5 k k (x.args.length : Int) 0 x = some (selOk x.args) := by
  by_cases h3 : x.args.length = 3
  · refine ⟨5, fun k hk => ?_⟩
    obtain ⟨q, hq⟩ : ∃ q, k = q + 1 + 1 := ⟨k - 2, by omega⟩
    obtain ⟨a, b, c, e⟩ := len3 h3
    have : ∀ n, spec_l10Args.l5 k (n + 1 + 1) (x.args.length : Int) 0 x = some (selOk x.args) := fun n => by
      rw [spec_round k (n + 1) x 0 (by omega) (by omega) hl, spec_end k n x (0 + 3) (by omega), h3, e]
      show iteB (trip a c) (some true) (some false) = some (trip a c)
      cases trip a c <;> rfl
    have := this q
    rwa [← hq] at this
  · by_cases h6 : x.args.length = 6
    · refine ⟨5, fun k hk => ?_⟩
      obtain ⟨q, hq⟩ : ∃ q, k = q + 1 + 1 + 1 := ⟨k - 3, by omega⟩
      obtain ⟨a, b, c, d, f, g, e⟩ := len6 h6
      have : ∀ n, spec_l10Args.l5 k (n + 1 + 1 + 1) (x.args.length : Int) 0 x = some (selOk x.args) := fun n => by
        rw [spec_round k (n + 1 + 1) x 0 (by omega) (by omega) hl, spec_round k (n + 1) x (0 + 3) (by omega) (by omega) hl, spec_end k n x (0 + 3 + 3) (by omega), h6, e]
        show iteB (trip a c) (iteB (trip d g) (some true) (some false)) (some false) = some (trip a c && trip d g)
        cases trip a c <;> cases trip d g <;> rfl
      have := this q
      rwa [← hq] at this
    · by_cases h9 : x.args.length = 9
      · refine ⟨5, fun k hk => ?_⟩
        obtain ⟨q, hq⟩ : ∃ q, k = q + 1 + 1 + 1 + 1 := ⟨k - 4, by omega⟩
        obtain ⟨a, b, c, d, f, g, i, j, l, e⟩ := len9 h9
        have : ∀ n, spec_l10Args.l5 k (n + 1 + 1 + 1 + 1) (x.args.length : Int) 0 x = some (selOk x.args) := fun n => by
          rw [spec_round k (n + 1 + 1 + 1) x 0 (by omega) (by omega) hl, spec_round k (n + 1 + 1) x (0 + 3) (by omega) (by omega) hl, spec_round k (n + 1) x (0 + 3 + 3) (by omega) (by omega) hl, spec_end k n x (0 + 3 + 3 + 3) (by omega), h9, e]
          show iteB (trip a c) (iteB (trip d g) (iteB (trip i l) (some true) (some false)) (some false)) (some false) = some (trip a c && (trip d g && trip i l))
          cases trip a c <;> cases trip d g <;> cases trip i l <;> rfl
        have := this q
        rwa [← hq] at this
      · rw [selOk_len h3 h6 h9]
        exact (Ev.gt x.args.length).mono fun k hk => spec_other x hl h3 h6 h9 k x.args.length 0 k (by omega) (by omega) hk
/-- The program's: its number's bounds too. -/
theorem impl_end (k n : Nat) (x : TT) (i : Int) (h : (x.args.length : Int) ≤ i + 2) (h0 : 0 ≤ i) (hi : i ≤ 2000000) : impl_argsOk.l3 k (n + 1) i x = some (bif (Int.tmod (x.args.length : Int) 3) == 0 then (bif decide (3 ≤ (x.args.length : Int) ∧ (x.args.length : Int) ≤ 9) then decide (0 ≤ x.2.2.2.2.1 ∧ x.2.2.2.2.1 ≤ 1) else false) else false) := by
  have w2 : IntKind.wrap .i64 (i + 2) = i + 2 := wrap_id (by omega) (by omega)
  rw [impl_argsOk.l3_s, w2, iteB_neg (show ¬ i + 2 < (x.args.length : Int) by omega)]
  simp only [impl_in, bindO_some, iteB_ss]
theorem tmod3 (n : Nat) : (Int.tmod (n : Int) 3 == 0) = decide (n % 3 = 0) := by
  have : Int.tmod (n : Int) 3 = ((n % 3 : Nat) : Int) := by rw [show (3 : Int) = ((3 : Nat) : Int) from rfl, ← Int.ofNat_tmod]
  rw [this]
  by_cases h : n % 3 = 0
  · simp [h]
  · rw [decide_eq_false h]; simp; omega
theorem impl_other (x : TT) (hl : x.args.length ≤ 1048576) (h3 : x.args.length ≠ 3) (h6 : x.args.length ≠ 6) (h9 : x.args.length ≠ 9) (k : Nat) : ∀ (m : Nat) (i : Int) (q : Nat), 0 ≤ i → i ≤ 1100000 → (x.args.length : Int) - i ≤ m → m < q → impl_argsOk.l3 k q i x = some false := by
  have he : (bif (Int.tmod (x.args.length : Int) 3) == 0 then (bif decide (3 ≤ (x.args.length : Int) ∧ (x.args.length : Int) ≤ 9) then decide (0 ≤ x.2.2.2.2.1 ∧ x.2.2.2.2.1 ≤ 1) else false) else false) = false := by
    rw [tmod3]
    by_cases c : x.args.length % 3 = 0
    · rw [decide_eq_true c, decide_eq_false (by omega)]; rfl
    · rw [decide_eq_false c]; rfl
  intro m
  induction m with
  | zero =>
    intro i q h0 h1 hm hq
    obtain ⟨q, rfl⟩ : ∃ p, q = p + 1 := ⟨q - 1, by omega⟩
    rw [impl_end k q x i (by omega) h0 (by omega), he]
  | succ m ih =>
    intro i q h0 h1 hm hq
    obtain ⟨q, rfl⟩ : ∃ p, q = p + 1 := ⟨q - 1, by omega⟩
    by_cases c2 : i + 2 < (x.args.length : Int)
    · rw [impl_round k q x i h0 c2 hl, ih (i + 3) q (by omega) (by omega) (by omega) (by omega), iteB_same]
    · rw [impl_end k q x i (by omega) h0 (by omega), he]
theorem impl_sel (x : TT) (hl : x.args.length ≤ 1048576) : Ev fun k => impl_argsOk.l3 k k 0 x = some (selOk x.args && decide (0 ≤ x.2.2.2.2.1 ∧ x.2.2.2.2.1 ≤ 1)) := by
  by_cases h3 : x.args.length = 3
  · refine ⟨5, fun k hk => ?_⟩
    obtain ⟨q, hq⟩ : ∃ q, k = q + 1 + 1 := ⟨k - 2, by omega⟩
    obtain ⟨a, b, c, e⟩ := len3 h3
    have : ∀ n, impl_argsOk.l3 k (n + 1 + 1) 0 x = some (selOk x.args && decide (0 ≤ x.2.2.2.2.1 ∧ x.2.2.2.2.1 ≤ 1)) := fun n => by
      rw [impl_round k (n + 1) x 0 (by omega) (by omega) hl, impl_end k n x (0 + 3) (by omega) (by omega) (by omega), h3, e]
      generalize decide (0 ≤ x.2.2.2.2.1 ∧ x.2.2.2.2.1 ≤ 1) = Z
      show iteB (trip a c) (some Z) (some false) = some (trip a c && Z)
      cases trip a c <;> rfl
    have := this q
    rwa [← hq] at this
  · by_cases h6 : x.args.length = 6
    · refine ⟨5, fun k hk => ?_⟩
      obtain ⟨q, hq⟩ : ∃ q, k = q + 1 + 1 + 1 := ⟨k - 3, by omega⟩
      obtain ⟨a, b, c, d, f, g, e⟩ := len6 h6
      have : ∀ n, impl_argsOk.l3 k (n + 1 + 1 + 1) 0 x = some (selOk x.args && decide (0 ≤ x.2.2.2.2.1 ∧ x.2.2.2.2.1 ≤ 1)) := fun n => by
        rw [impl_round k (n + 1 + 1) x 0 (by omega) (by omega) hl, impl_round k (n + 1) x (0 + 3) (by omega) (by omega) hl, impl_end k n x (0 + 3 + 3) (by omega) (by omega) (by omega), h6, e]
        generalize decide (0 ≤ x.2.2.2.2.1 ∧ x.2.2.2.2.1 ≤ 1) = Z
        show iteB (trip a c) (iteB (trip d g) (some Z) (some false)) (some false) = some (trip a c && trip d g && Z)
        cases trip a c <;> cases trip d g <;> rfl
      have := this q
      rwa [← hq] at this
    · by_cases h9 : x.args.length = 9
      · refine ⟨5, fun k hk => ?_⟩
        obtain ⟨q, hq⟩ : ∃ q, k = q + 1 + 1 + 1 + 1 := ⟨k - 4, by omega⟩
        obtain ⟨a, b, c, d, f, g, i, j, l, e⟩ := len9 h9
        have : ∀ n, impl_argsOk.l3 k (n + 1 + 1 + 1 + 1) 0 x = some (selOk x.args && decide (0 ≤ x.2.2.2.2.1 ∧ x.2.2.2.2.1 ≤ 1)) := fun n => by
          rw [impl_round k (n + 1 + 1 + 1) x 0 (by omega) (by omega) hl, impl_round k (n + 1 + 1) x (0 + 3) (by omega) (by omega) hl, impl_round k (n + 1) x (0 + 3 + 3) (by omega) (by omega) hl, impl_end k n x (0 + 3 + 3 + 3) (by omega) (by omega) (by omega), h9, e]
          generalize decide (0 ≤ x.2.2.2.2.1 ∧ x.2.2.2.2.1 ≤ 1) = Z
          show iteB (trip a c) (iteB (trip d g) (iteB (trip i l) (some Z) (some false)) (some false)) (some false) = some (trip a c && (trip d g && trip i l) && Z)
          cases trip a c <;> cases trip d g <;> cases trip i l <;> rfl
        have := this q
        rwa [← hq] at this
      · rw [selOk_len h3 h6 h9]
        exact (Ev.gt x.args.length).mono fun k hk => impl_other x hl h3 h6 h9 k x.args.length 0 k (by omega) (by omega) (by omega) hk
/-- Are the args as told. -/
def argV (x : TT) : Bool := bif x.1 == 19 then selOk x.args else bif x.1 == 22 then (x.args.length : Int) == 1 else bif !(bit (hasT x.1) 32) then (x.args.length : Int) == 0 else decide ((x.args.length : Int) ≤ 4)
theorem spec_args (x : TT) (hl : x.args.length ≤ 1048576) : Ev fun k => spec_l10Args k x = some (argV x) := by
  refine (spec_sel x hl).mono fun k h => ?_
  rw [spec_l10Args_e, h]
  unfold argV
  by_cases c : x.1 = 19
  · have : (x.1 == 19) = true := by simp [c]
    rw [this]; rfl
  · have a : (x.1 == 19) = false := by simp [c]
    rw [a, iteB_false, cond_false]
    by_cases c2 : x.1 = 22
    · have : (x.1 == 22) = true := by simp [c2]
      rw [this]; rfl
    · have a2 : (x.1 == 22) = false := by simp [c2]
      rw [a2, iteB_false, cond_false]
      by_cases c3 : x.1 = 11
      · rw [c3, x_11]; rfl
      · by_cases c4 : x.1 = 14
        · rw [c4, x_14]; rfl
        · have a3 : (x.1 == 11) = false := by simp [c3]
          have a4 : (x.1 == 14) = false := by simp [c4]
          rw [a3, a4, args_x x.1 c c2 c3 c4]; rfl
theorem impl_args (x : TT) (n : Int) (hl : x.args.length ≤ 1048576) : Ev fun k => impl_argsOk k x n = some (argV x && (bif x.1 == 19 then decide (0 ≤ x.2.2.2.2.1 ∧ x.2.2.2.2.1 ≤ 1) else true)) := by
  refine (impl_sel x hl).two (own_x x.1) fun k h h2 => ?_
  rw [impl_argsOk_e, h, h2, bindO_some]
  unfold argV
  cases x.1 == 19
  · cases x.1 == 22
    · cases bit (hasT x.1) 32 <;> simp [iteB_false, iteB_true]
    · simp [iteB_false, iteB_true]
  · rfl

/-! What a place sets and reads. -/
def keep (op : Int) (l : List Int) (i : Nat) : Bool := bif op == 19 then (decide (i % 3 = 1) || (decide (i % 3 = 2) && (l.getD (i - 2) 0 == 2))) else true
def selFrom (op : Int) (l : List Int) : Nat → Nat → List Int
  | 0, _ => []
  | m + 1, i => (bif keep op l i then [l.getD i 0] else []) ++ selFrom op l m (i + 1)
theorem sel_len (op : Int) (l : List Int) : ∀ m i, (selFrom op l m i).length ≤ m
  | 0, _ => by simp [selFrom]
  | m + 1, i => by
    have := sel_len op l m (i + 1)
    unfold selFrom
    cases keep op l i <;> simp <;> omega
theorem sel_all {op : Int} (h : op ≠ 19) (l : List Int) : ∀ m i, i + m = l.length → selFrom op l m i = l.drop i
  | 0, i, e => by rw [List.drop_eq_nil_of_le (by omega)]; rfl
  | m + 1, i, e => by
    have hk : keep op l i = true := by unfold keep; have : (op == 19) = false := by simp [h]
                                       rw [this]; rfl
    unfold selFrom
    rw [hk, sel_all h l m (i + 1) (by omega), List.drop_eq_getElem_cons (by omega : i < l.length)]
    simp [List.getD, show i < l.length by omega]
def setsV (x : TT) : List Int := (bif bit (hasT x.1) 1 then [x.2.1] else []) ++ (bif x.1 == 19 then [x.2.2.2.1] else [])
def usesV (x : TT) : List Int := (bif bit (hasT x.1) 2 then [x.2.2.1] else []) ++ ((bif bit (hasT x.1) 4 && x.1 != 19 then [x.2.2.2.1] else []) ++ (bif bit (hasT x.1) 32 then selFrom x.1 x.args x.args.length 0 else []))
theorem lim_ok {n : Nat} (h : n ≤ 2000000) : n * 8 ≤ lim := by unfold lim; omega
theorem spec_sets (x : TT) : Ev fun k => spec_Sets k x = some (setsV x) := by
  refine (Ev.gt 0).mono fun k hk => ?_
  rw [spec_Sets_e, spec_has, bindO_some, gate_pos hk, gate_pos hk, spec_Sets.j4_e, spec_Sets.j4b_e]
  unfold setsV
  show iteB (bit (hasT x.1) 1) _ _ = _
  rw [iteB_pos (lim_ok (by simp)), iteB_pos (lim_ok (by simp)), iteB_pos (lim_ok (by simp))]
  cases bit (hasT x.1) 1 <;> cases x.1 == 19 <;> rfl
theorem impl_sets (x : TT) : Ev fun k => impl_Sets k x = some (setsV x) := by
  refine (own_d x.1).mono fun k h => ?_
  rw [impl_Sets_e, h, bindO_some]
  unfold setsV
  by_cases c : x.1 = 19
  · have a : (x.1 == 19) = true := by simp [c]
    have b : bit (hasT x.1) 1 = true := by rw [c]; exact sel_1
    rw [a, b]; rfl
  · have a : (x.1 == 19) = false := by simp [c]
    rw [a]
    cases bit (hasT x.1) 1 <;> rfl
/-- The two ways of the reference's rounds are one. -/
theorem l8b_eq (k : Nat) (h : Int) (x : TT) : ∀ (n : Nat) (i : Int), spec_Uses.l8b k n h i x = spec_Uses.l8 k n h i x []
  | 0, i => by rw [spec_Uses.l8b_0, spec_Uses.l8_0]
  | n + 1, i => by
    have ih := l8b_eq k h x n
    rw [spec_Uses.l8b_s, spec_Uses.l8_s, spec_Uses.j10b_e, spec_Uses.j10_e]
    simp only [ih]
theorem idx2 {i : Nat} (h : i % 3 = 2) (hi : i ≤ 2000000) : IntKind.wrap .i64 ((i : Int) - 2) = ((i - 2 : Nat) : Int) := by rw [wrap_id (by omega) (by omega)]; omega
theorem tm (i : Nat) : Int.tmod (i : Int) 3 = ((i % 3 : Nat) : Int) := by rw [show (3 : Int) = ((3 : Nat) : Int) from rfl, ← Int.ofNat_tmod]
theorem spec_rounds (x : TT) (hl : x.args.length ≤ 1048576) (k : Nat) (hk : 0 < k) : ∀ (m i : Nat) (q : Nat) (y : List Int), i + m = x.args.length → m < q → y.length ≤ i + 2 →
    spec_Uses.l8 k q (hasT x.1) (i : Int) x y = some (y ++ (bif bit (hasT x.1) 32 then selFrom x.1 x.args m i else [])) := by
  intro m
  induction m with
  | zero =>
    intro i q y e hq hy
    obtain ⟨q, rfl⟩ : ∃ p, q = p + 1 := ⟨q - 1, by omega⟩
    rw [spec_Uses.l8_s, iteB_neg (show ¬ (i : Int) < (x.args.length : Int) by omega)]
    cases bit (hasT x.1) 32 <;> simp [selFrom]
  | succ m ih =>
    intro i q y e hq hy
    obtain ⟨q, rfl⟩ : ∃ p, q = p + 1 := ⟨q - 1, by omega⟩
    have hi : (i : Int) < (x.args.length : Int) := by omega
    rw [spec_Uses.l8_s, iteB_pos hi]
    show iteB (bit (hasT x.1) 32) _ _ = _
    cases hb : bit (hasT x.1) 32 with
    | false => rw [iteB_false]; simp
    | true =>
      have nx : IntKind.wrap .i64 ((i : Int) + 1) = ((i + 1 : Nat) : Int) := by rw [wrap_id (by omega) (by omega)]; omega
      have more := ih (i + 1) q (y ++ [x.args.getD i 0]) (by omega) (by omega) (by simp; omega)
      have skip := ih (i + 1) q y (by omega) (by omega) (by omega)
      rw [hb] at more skip
      have g : (i : Int).toNat = i := by omega
      rw [iteB_true, gate_pos hk, spec_Uses.j10_e, nx]
      have push : iteB (decide (0 ≤ (i : Int))) (iteB (decide ((i : Int) < (x.args.length : Int))) (iteB (decide ((y ++ [x.args.getD (i : Int).toNat 0]).length * 8 ≤ lim)) (spec_Uses.l8 k q (hasT x.1) ((i + 1 : Nat) : Int) x (y ++ [x.args.getD (i : Int).toNat 0])) none) none) none = some (y ++ [x.args.getD i 0] ++ selFrom x.1 x.args m (i + 1)) := by
        rw [iteB_pos (by omega), iteB_pos hi, iteB_pos (lim_ok (by simp; omega)), g, more]; rfl
      have stay : spec_Uses.l8 k q (hasT x.1) ((i + 1 : Nat) : Int) x y = some (y ++ selFrom x.1 x.args m (i + 1)) := skip
      show iteB (!(x.1 != 19)) (iteB (!(Int.tmod (i : Int) 3 == 1)) (iteB (Int.tmod (i : Int) 3 == 2) (iteB (decide (0 ≤ IntKind.wrap .i64 ((i : Int) - 2))) (iteB (decide (IntKind.wrap .i64 ((i : Int) - 2) < (x.args.length : Int))) (iteB (x.args.getD (IntKind.wrap .i64 ((i : Int) - 2)).toNat 0 == 2) _ _) _) _) _) _) _ = _
      rw [cond_true]
      unfold selFrom keep
      by_cases c : x.1 = 19
      · have a : (x.1 == 19) = true := by simp [c]
        have a2 : (!(x.1 != 19)) = true := by simp [c]
        rw [a, a2, iteB_true, cond_true, tm]
        by_cases c1 : i % 3 = 1
        · have b : (!(((i % 3 : Nat) : Int) == 1)) = false := by simp [c1]
          rw [b, iteB_false, decide_eq_true c1, Bool.true_or, cond_true, ← List.append_assoc]
          exact push
        · have b : (!(((i % 3 : Nat) : Int) == 1)) = true := by simp; omega
          rw [b, iteB_true, decide_eq_false c1, Bool.false_or]
          by_cases c2 : i % 3 = 2
          · have b2 : ((((i % 3 : Nat) : Int)) == 2) = true := by simp [c2]
            rw [b2, iteB_true, idx2 c2 (by omega), iteB_pos (by omega), iteB_pos (show ((i - 2 : Nat) : Int) < (x.args.length : Int) by omega), decide_eq_true c2, Bool.true_and, show (((i - 2 : Nat) : Int)).toNat = i - 2 by omega]
            cases x.args.getD (i - 2) 0 == 2
            · rw [iteB_false, cond_false, List.nil_append]; exact stay
            · rw [iteB_true, cond_true, ← List.append_assoc]; exact push
          · have b2 : ((((i % 3 : Nat) : Int)) == 2) = false := by simp; omega
            rw [b2, iteB_false, decide_eq_false c2, Bool.false_and, cond_false, List.nil_append]; exact stay
      · have a : (x.1 == 19) = false := by simp [c]
        have a2 : (!(x.1 != 19)) = false := by simp [c]
        rw [a, a2, iteB_false, cond_false, cond_true, ← List.append_assoc]
        exact push
theorem spec_uses (x : TT) (hl : x.args.length ≤ 1048576) : Ev fun k => spec_Uses k x = some (usesV x) := by
  refine ((Ev.gt 0).and (Ev.gt x.args.length)).mono fun k hk => ?_
  have R := fun y (h : y.length ≤ 2) => spec_rounds x hl k hk.1 x.args.length 0 k y (by omega) hk.2 (by omega)
  have R0 : ∀ y : List Int, y.length ≤ 2 → spec_Uses.l8 k k (hasT x.1) 0 x y = some (y ++ (bif bit (hasT x.1) 32 then selFrom x.1 x.args x.args.length 0 else [])) := fun y h => R y h
  rw [spec_Uses_e, spec_has, bindO_some]
  simp only [gate_pos hk.1, spec_Uses.j5_e, spec_Uses.j5b_e, spec_Uses.j7_e, spec_Uses.j7b_e, l8b_eq]
  unfold usesV
  show iteB (bit (hasT x.1) 2) (iteB _ (iteB (bit (hasT x.1) 4) _ _) _) (iteB (bit (hasT x.1) 4) _ _) = _
  simp only [List.nil_append]
  rw [R0 [] (by simp), R0 ([x.2.2.2.1]) (by simp), R0 ([x.2.2.1] ++ [x.2.2.2.1]) (by simp), R0 [x.2.2.1] (by simp)]
  rw [iteB_pos (lim_ok (by simp)), iteB_pos (lim_ok (by simp)), iteB_pos (lim_ok (by simp))]
  cases bit (hasT x.1) 2 <;> cases bit (hasT x.1) 4 <;> cases x.1 != 19 <;> rfl
theorem impl_rounds (x : TT) (c : x.1 = 19) (hl : x.args.length ≤ 1048576) (k : Nat) : ∀ (m i : Nat) (q : Nat) (y : List Int), i + m = x.args.length → m < q → y.length ≤ i →
    impl_Uses.l4b k q x.args (x.args.length : Int) (i : Int) x y = some (y ++ selFrom 19 x.args m i) := by
  intro m
  induction m with
  | zero =>
    intro i q y e hq hy
    obtain ⟨q, rfl⟩ : ∃ p, q = p + 1 := ⟨q - 1, by omega⟩
    rw [impl_Uses.l4b_s, iteB_neg (by omega)]
    simp [selFrom]
  | succ m ih =>
    intro i q y e hq hy
    obtain ⟨q, rfl⟩ : ∃ p, q = p + 1 := ⟨q - 1, by omega⟩
    have hi : (i : Int) < (x.args.length : Int) := by omega
    have nx : IntKind.wrap .i64 ((i : Int) + 1) = ((i + 1 : Nat) : Int) := by rw [wrap_id (by omega) (by omega)]; omega
    have more := ih (i + 1) q (y ++ [x.args.getD i 0]) (by omega) (by omega) (by simp; omega)
    have stay := ih (i + 1) q y (by omega) (by omega) (by omega)
    have g : (i : Int).toNat = i := by omega
    rw [impl_Uses.l4b_s, iteB_pos hi, iteB_pos (by omega), iteB_pos hi, nx, g, tm]
    have push : iteB (decide ((y ++ [x.args.getD i 0]).length * 8 ≤ lim)) (impl_Uses.l4b k q x.args (x.args.length : Int) ((i + 1 : Nat) : Int) x (y ++ [x.args.getD i 0])) none = some (y ++ [x.args.getD i 0] ++ selFrom 19 x.args m (i + 1)) := by
      rw [iteB_pos (lim_ok (by simp; omega)), more]
    unfold selFrom keep
    rw [show ((19 : Int) == 19) = true from rfl, cond_true]
    by_cases c1 : i % 3 = 1
    · have b : (!(((i % 3 : Nat) : Int) == 1)) = false := by simp [c1]
      rw [b, iteB_false, decide_eq_true c1, Bool.true_or, cond_true, ← List.append_assoc]
      exact push
    · have b : (!(((i % 3 : Nat) : Int) == 1)) = true := by simp; omega
      rw [b, iteB_true, decide_eq_false c1, Bool.false_or]
      by_cases c2 : i % 3 = 2
      · have b2 : ((((i % 3 : Nat) : Int)) == 2) = true := by simp [c2]
        rw [b2, iteB_true, idx2 c2 (by omega), iteB_pos (by omega), iteB_pos (show ((i - 2 : Nat) : Int) < (x.args.length : Int) by omega), decide_eq_true c2, Bool.true_and, show (((i - 2 : Nat) : Int)).toNat = i - 2 by omega]
        show iteB (x.args.getD (i - 2) 0 == 2) _ _ = _
        cases x.args.getD (i - 2) 0 == 2
        · rw [iteB_false, cond_false, List.nil_append]; exact stay
        · rw [iteB_true, cond_true, ← List.append_assoc]; exact push
      · have b2 : ((((i % 3 : Nat) : Int)) == 2) = false := by simp; omega
        rw [b2, iteB_false, decide_eq_false c2, Bool.false_and, cond_false, List.nil_append]; exact stay
theorem l4_eq (k : Nat) (l : List Int) (n : Int) (x : TT) : ∀ (q : Nat) (i : Int), impl_Uses.l4 k q l n i x = impl_Uses.l4b k q l n i x []
  | 0, i => by rw [impl_Uses.l4_0, impl_Uses.l4b_0]
  | q + 1, i => by
    have ih := l4_eq k l n x q
    rw [impl_Uses.l4_s, impl_Uses.l4b_s]
    simp only [ih]
theorem impl_uses (x : TT) (hl : x.args.length ≤ 1048576) : Ev fun k => impl_Uses k x = some (usesV x) := by
  refine (((own_a x.1).and (own_b x.1)).and ((own_x x.1).and ((Ev.gt 0).and (Ev.gt x.args.length)))).mono fun k hk => ?_
  obtain ⟨⟨ha, hb⟩, hx, h0, h1⟩ := hk
  rw [impl_Uses_e]
  by_cases c : x.1 = 19
  · have a : (x.1 == 19) = true := by simp [c]
    have R := impl_rounds x c hl k x.args.length 0 k [] (by omega) h1 (by simp)
    have R' : impl_Uses.l4b k k x.args (x.args.length : Int) 0 x [] = some ([] ++ selFrom 19 x.args x.args.length 0) := R
    rw [a, iteB_true, l4_eq, R']
    unfold usesV
    have b2 : bit (hasT x.1) 2 = false := by rw [c]; exact sel_2
    have b3 : bit (hasT x.1) 32 = true := by rw [c]; exact sel_32
    have b4 : (x.1 != 19) = false := by simp [c]
    rw [b2, b3, b4, c, Bool.and_false]; rfl
  · have a : (x.1 == 19) = false := by simp [c]
    have a2 : (x.1 != 19) = true := by simp [c]
    rw [a, iteB_false, ha, bindO_some]
    simp only [gate_pos h0, impl_Uses.j12_e, impl_Uses.j12b_e, impl_Uses.j14_e, impl_Uses.j14b_e, hb, hx, bindO_some, List.nil_append]
    unfold usesV
    rw [a2, Bool.and_true, sel_all c x.args x.args.length 0 (by omega), List.drop_zero]
    have L : ∀ l : List Int, l.length ≤ 2000000 → decide (l.length * 8 ≤ lim) = true := fun l h => decide_eq_true (lim_ok h)
    have hl' : x.2.2.2.2.2.2.1.length ≤ 1048576 := hl
    simp only [L ([x.2.2.1] ++ [x.2.2.2.1] ++ x.2.2.2.2.2.2.1) (by simp; omega), L ([x.2.2.1] ++ x.2.2.2.2.2.2.1) (by simp; omega), L ([x.2.2.2.1] ++ x.2.2.2.2.2.2.1) (by simp; omega), L x.2.2.2.2.2.2.1 (by omega), L ([x.2.2.1] ++ [x.2.2.2.1]) (by simp), L [x.2.2.1] (by simp), L [x.2.2.2.1] (by simp), iteB_true]
    cases bit (hasT x.1) 2 <;> cases bit (hasT x.1) 4 <;> cases bit (hasT x.1) 32 <;> simp [iteB_true, iteB_false]

/-! Places, labels, units. -/
theorem guard_or {α : Type} (b z : Bool) (X : Option α) (y : Option α) : iteB (!b) (iteB z X y) X = iteB (b || z) X y := by cases b <;> cases z <;> rfl
theorem guard_or2 {α : Type} (b z : Bool) (X : Option α) (y : Option α) : iteB (!b) (iteB (!z) y X) X = iteB (b || z) X y := by cases b <;> cases z <;> rfl
theorem guard_or3 (b z : Bool) : iteB (!b) (some z) (some true) = some (b || z) := by cases b <;> rfl
theorem nne (a b : Int) : (!(a != b)) = (a == b) := by simp [bne]
def within (n r : Int) : Bool := decide (0 ≤ r ∧ r ≤ IntKind.wrap .i64 (n - 1))
def regsV (x : TT) (n : Int) : Bool := (setsV x ++ usesV x).all (within n)
theorem regs_len (x : TT) (hl : x.args.length ≤ 1048576) : (setsV x ++ usesV x).length ≤ 1048580 := by
  have h1 : (setsV x).length ≤ 2 := by unfold setsV; cases bit (hasT x.1) 1 <;> cases x.1 == 19 <;> simp
  have h2 : (usesV x).length ≤ 2 + x.args.length := by
    have := sel_len x.1 x.args x.args.length 0
    unfold usesV
    cases bit (hasT x.1) 2 <;> cases (bit (hasT x.1) 4 && x.1 != 19) <;> cases bit (hasT x.1) 32 <;> simp <;> omega
  rw [List.length_append]; omega
theorem spec_regs (x : TT) (n : Int) (hl : x.args.length ≤ 1048576) : Ev fun k => spec_l10Regs k x n = some (regsV x n) := by
  have hn := regs_len x hl
  have R := all_rounds (setsV x ++ usesV x) 0 (f := fun k r => spec_l1In k r 0 (IntKind.wrap .i64 (n - 1))) (p := within n) (L := fun k m i => spec_l10Regs.l3 k m n i (setsV x ++ usesV x)) (e := fun _ => some true) (fun y _ => Ev.of fun k => spec_in k y 0 _) (Ev.of fun _ => rfl) (fun k m i h0 h1 => by
      show spec_l10Regs.l3 k (m + 1) n i _ = _
      rw [spec_l10Regs.l3_s, iteB_pos h1, iteB_pos h0, iteB_pos h1, next_i h0 h1 (by omega)]) (fun k m i h => by
      show spec_l10Regs.l3 k (m + 1) n i _ = _
      rw [spec_l10Regs.l3_s, iteB_neg (by omega)])
  refine (R.and ((spec_sets x).and (spec_uses x hl))).mono fun k h => ?_
  obtain ⟨h1, h2, h3⟩ := h
  rw [spec_l10Regs_e, h2, bindO_some, h3, bindO_some, iteB_pos (lim_ok (by omega)), h1]
  simp [regsV]
theorem impl_regs (x : TT) (n : Int) (hl : x.args.length ≤ 1048576) : Ev fun k => impl_tacOk.j5 k x n = some (regsV x n) := by
  have hn := regs_len x hl
  have R := index_rounds (setsV x ++ usesV x) 0 (f := fun k r => impl_tacOk_1_vbp k r n) (p := fun r => !within n r) (L := fun k m i => slices_IndexFunc_int__impl_tacOk_1.l2 k m (setsV x ++ usesV x) n ((setsV x ++ usesV x).length : Int) i) (fun y _ => Ev.of fun k => by rw [impl_tacOk_1_vbp_e, impl_in, bindO_some]; rfl) (fun k m i h0 h1 => by
      show slices_IndexFunc_int__impl_tacOk_1.l2 k (m + 1) _ n _ i = _
      rw [slices_IndexFunc_int__impl_tacOk_1.l2_s, iteB_pos h1, iteB_pos h0, iteB_pos h1, next_i h0 h1 (by omega)]) (fun k m i h => by
      show slices_IndexFunc_int__impl_tacOk_1.l2 k (m + 1) _ n _ i = _
      rw [slices_IndexFunc_int__impl_tacOk_1.l2_s, iteB_neg (by omega)])
  refine (R.and ((impl_sets x).and (impl_uses x hl))).mono fun k h => ?_
  obtain ⟨h1, h2, h3⟩ := h
  rw [impl_tacOk.j5_e, h2, bindO_some, h3, bindO_some, iteB_pos (lim_ok (by omega)), slices_ContainsFunc_int__impl_tacOk_1_e, slices_IndexFunc_int__impl_tacOk_1_e, h1, bindO_some, bindO_some, firstOf_any _ _ 0 (by omega), any_not, Bool.not_not]
  rfl
def zeroV (x : TT) : Bool := (bit (hasT x.1) 1 || x.2.1 == 0) && ((bit (hasT x.1) 2 || x.2.2.1 == 0) && ((bit (hasT x.1) 4 || x.2.2.2.1 == 0) && ((bit (hasT x.1) 8 || x.2.2.2.2.1 == 0) && (bit (hasT x.1) 16 || (ByteArray.toList x.2.2.2.2.2.1 == ByteArray.toList (⟨#[]⟩ : ByteArray))))))
theorem ite_and {b c : Bool} : iteB b (some c) (some false) = some (b && c) := by cases b <;> rfl
theorem spec_zero (k : Nat) (x : TT) : spec_l10Place.j6 k (hasT x.1) x = some (zeroV x) := by
  rw [spec_l10Place.j6_e]
  simp only [guard_or3]
  simp only [guard_or]
  simp only [ite_and]
  rfl
def placeV (x : TT) (n : Int) : Bool := decide (1 ≤ x.1 ∧ x.1 ≤ 28) && (argV x && (regsV x n && ((bif x.1 == 19 then decide (0 ≤ x.2.2.2.2.1 ∧ x.2.2.2.2.1 ≤ 1) else true) && (wok x.2.2.2.2.1 && zeroV x))))
theorem spec_place (x : TT) (n : Int) (hl : x.args.length ≤ 1048576) : Ev fun k => spec_l10Place k x n = some (placeV x n) := by
  refine ((spec_args x hl).and ((spec_regs x n hl).and (Ev.gt 0))).mono fun k h => ?_
  obtain ⟨h1, h2, h0⟩ := h
  rw [spec_l10Place_e, spec_has, bindO_some, spec_in, bindO_some, h1, bindO_some, h2, bindO_some, gate_pos h0, spec_l10Place.j4_e, gate_pos h0, spec_zero]
  simp only [spec_in, spec_wok, bindO_some]
  unfold placeV
  generalize decide (1 ≤ x.1 ∧ x.1 ≤ 28) = A
  generalize argV x = B
  generalize regsV x n = C
  generalize decide (0 ≤ x.2.2.2.2.1 ∧ x.2.2.2.2.1 ≤ 1) = D
  generalize wok x.2.2.2.2.1 = F
  generalize zeroV x = G
  generalize (x.1 == 19) = H
  cases A <;> cases B <;> cases C <;> cases D <;> cases F <;> cases G <;> cases H <;> rfl
theorem impl_place (x : TT) (n : Int) (hl : x.args.length ≤ 1048576) : Ev fun k => impl_tacOk k x n = some (placeV x n) := by
  obtain ⟨L, hL⟩ := letters x.1
  refine (((own_d x.1).and ((own_a x.1).and (own_b x.1))).and (((own_n x.1).and (own_s x.1)).and ((impl_args x n hl).and ((impl_regs x n hl).and (Ev.gt 0))))).mono fun k h => ?_
  obtain ⟨⟨hd, ha, hb⟩, ⟨hn, hs⟩, h1, h2, h0⟩ := h
  have hz : impl_tacOk.j3 k x n = iteB (zeroV x) (some (regsV x n)) (some false) := by
    rw [impl_tacOk.j3_e]
    simp only [hd, ha, hb, hn, hs, bindO_some, gate_pos h0, h2, nne, guard_or, guard_or2]
    unfold zeroV
    generalize (bit (hasT x.1) 1 || x.2.1 == 0) = z1
    generalize (bit (hasT x.1) 2 || x.2.2.1 == 0) = z2
    generalize (bit (hasT x.1) 4 || x.2.2.2.1 == 0) = z3
    generalize (bit (hasT x.1) 8 || x.2.2.2.2.1 == 0) = z4
    generalize (bit (hasT x.1) 16 || (ByteArray.toList x.2.2.2.2.2.1 == ByteArray.toList (⟨#[]⟩ : ByteArray))) = z5
    cases z1 <;> cases z2 <;> cases z3 <;> cases z4 <;> cases z5 <;> rfl
  rw [impl_tacOk_e, hL.is, bindO_some, hL.some, impl_wok, bindO_some, h1, bindO_some, gate_pos h0, hz]
  unfold placeV
  generalize decide (1 ≤ x.1 ∧ x.1 ≤ 28) = A
  generalize argV x = B
  generalize regsV x n = C
  generalize decide (0 ≤ x.2.2.2.2.1 ∧ x.2.2.2.2.1 ≤ 1) = D
  generalize wok x.2.2.2.2.1 = F
  generalize zeroV x = G
  generalize (x.1 == 19) = H
  cases A <;> cases B <;> cases C <;> cases D <;> cases F <;> cases G <;> cases H <;> rfl
abbrev dT : TT := Ty.dflt (.pair (.int .i64) (.pair (.int .i64) (.pair (.int .i64) (.pair (.int .i64) (.pair (.int .i64) (.pair .str (.pair (.row (.int .i64)) .unit)))))))
def isLab (n : Int) (t : TT) : Bool := bif t.1 == 8 then t.2.2.2.2.1 == n else false
theorem spec_label (l : List TT) (n : Int) (hl : l.length ≤ 1048576) : Ev fun k => spec_l10Label k l n = some (firstOf (isLab n) l 0) := by
  refine (index_rounds l dT (f := fun _ t => some (isLab n t)) (p := isLab n) (L := fun k m i => spec_l10Label.l2 k m l n i) (fun _ _ => Ev.of fun _ => rfl) (fun k m i h0 h1 => ?_) (fun k m i h => ?_)).mono fun k h => ?_
  · show spec_l10Label.l2 k (m + 1) l n i = _
    rw [spec_l10Label.l2_s, iteB_pos h1, iteB_pos h0, iteB_pos h1, iteB_pos h0, iteB_pos h1, next_i h0 h1 (by omega), bindO_some]
    unfold isLab
    show iteB ((l.getD i.toNat dT).1 == 8) (iteB ((l.getD i.toNat dT).2.2.2.2.1 == n) _ _) _ = _
    cases (l.getD i.toNat dT).1 == 8 <;> cases (l.getD i.toNat dT).2.2.2.2.1 == n <;> rfl
  · show spec_l10Label.l2 k (m + 1) l n i = _
    rw [spec_l10Label.l2_s, iteB_neg (by omega)]
  · rw [spec_l10Label_e]; exact h
theorem impl_label (l : List TT) (n : Int) (hl : l.length ≤ 1048576) : Ev fun k => impl_labelAt k l n = some (firstOf (isLab n) l 0) := by
  refine (index_rounds l dT (f := fun k t => impl_labelAt_1_vbp k t n) (p := isLab n) (L := fun k m i => slices_IndexFunc_impl_Tac__impl_labelAt_1.l2 k m l n (l.length : Int) i) (fun t _ => Ev.of fun k => ?_) (fun k m i h0 h1 => ?_) (fun k m i h => ?_)).mono fun k h => ?_
  · rw [impl_labelAt_1_vbp_e, iteB_ss]; rfl
  · show slices_IndexFunc_impl_Tac__impl_labelAt_1.l2 k (m + 1) l n _ i = _
    rw [slices_IndexFunc_impl_Tac__impl_labelAt_1.l2_s, iteB_pos h1, iteB_pos h0, iteB_pos h1, next_i h0 h1 (by omega)]
  · show slices_IndexFunc_impl_Tac__impl_labelAt_1.l2 k (m + 1) l n _ i = _
    rw [slices_IndexFunc_impl_Tac__impl_labelAt_1.l2_s, iteB_neg (by omega)]
  · rw [impl_labelAt_e, slices_IndexFunc_impl_Tac__impl_labelAt_1_e, h, bindO_some]
/-- All of a row, by place. -/
def allI {α : Type} (p : Int → α → Bool) : List α → Int → Bool
  | [], _ => true
  | x :: r, i => p i x && allI p r (i + 1)
theorem all_idx {α : Type} (xs : List α) (d : α) {F : Nat → α → Prop} {p : Int → α → Bool} {L : Nat → Nat → Int → Option Bool} {e : Nat → Option Bool} {b : Bool} (hF : ∀ x ∈ xs, Ev fun k => F k x) (he : Ev fun k => e k = some b)
    (hL : ∀ k n i, (∀ x ∈ xs, F k x) → 0 ≤ i → i < (xs.length : Int) → L k (n + 1) i = iteB (p i (xs.getD i.toNat d)) (L k n (i + 1)) (some false))
    (hE : ∀ k n i, (xs.length : Int) ≤ i → L k (n + 1) i = e k) : Ev fun k => L k k 0 = some (allI p xs 0 && b) := by
  refine ((Ev.all hF).and he).two (Ev.gt xs.length) fun k h1 h2 => ?_
  have key : ∀ (m : Nat) (i : Int) (q : Nat), 0 ≤ i → (xs.length : Int) - i = m → m < q → L k q i = some (allI p (xs.drop i.toNat) i && b) := by
    intro m
    induction m with
    | zero =>
      intro i q hi hm hq
      obtain ⟨q, rfl⟩ : ∃ p, q = p + 1 := ⟨q - 1, by omega⟩
      rw [hE k q i (by omega), h1.2, List.drop_eq_nil_of_le (by omega)]; rfl
    | succ m ih =>
      intro i q hi hm hq
      obtain ⟨q, rfl⟩ : ∃ p, q = p + 1 := ⟨q - 1, by omega⟩
      have hlt : i < (xs.length : Int) := by omega
      rw [hL k q i h1.1 hi hlt, ih (i + 1) q (by omega) (by omega) (by omega), drop_at xs d i hi hlt]
      show _ = some (p i (xs.getD i.toNat d) && allI p (xs.drop (i + 1).toNat) (i + 1) && b)
      cases p i (xs.getD i.toNat d) <;> rfl
  have := key xs.length 0 k (by omega) (by omega) h2
  simpa using this
abbrev TU : Type := ByteArray × Int × Int × (List TT) × Unit
def stepV (u : TU) (i : Int) (t : TT) : Bool :=
  placeV t u.2.2.1 && ((bif t.1 == 8 then (firstOf (isLab t.2.2.2.2.1) u.2.2.2.1 0 == i) && decide (0 ≤ t.2.2.2.2.1 ∧ t.2.2.2.2.1 ≤ 900) else true) && (bif t.1 == 9 || t.1 == 10 then !(decide (firstOf (isLab t.2.2.2.2.1) u.2.2.2.1 0 < 0)) else true))
def endV (op : Int) : Bool := op == 12 || (op == 9 || op == 28)
def lastOp (u : TU) : Int := (List.getD u.2.2.2.1 (IntKind.wrap .i64 ((u.2.2.2.1.length : Int) - 1)).toNat dT).1
theorem spec_code (u : TU) (h1 : 1 ≤ u.2.2.2.1.length) (h2 : u.2.2.2.1.length ≤ 1048576) (hx : ∀ t ∈ u.2.2.2.1, (TT.args t).length ≤ 1048576) : Ev fun k => spec_UnitOk.l5 k k (u.2.2.2.1.length : Int) 0 u = some (allI (stepV u) u.2.2.2.1 0 && endV (lastOp u)) := by
  refine all_idx u.2.2.2.1 dT (F := fun k t => spec_l10Place k t u.2.2.1 = some (placeV t u.2.2.1) ∧ spec_l10Label k u.2.2.2.1 t.2.2.2.2.1 = some (firstOf (isLab t.2.2.2.2.1) u.2.2.2.1 0)) (L := fun k n i => spec_UnitOk.l5 k n (u.2.2.2.1.length : Int) i u) (e := fun _ => some (endV (lastOp u))) (fun t m => (spec_place t u.2.2.1 (hx t m)).and (spec_label u.2.2.2.1 t.2.2.2.2.1 h2)) (Ev.of fun _ => rfl) (fun k n i hF g0 g1 => ?_) (fun k n i hi => ?_)
  · show spec_UnitOk.l5 k (n + 1) _ i u = _
    obtain ⟨f1, f2⟩ := hF _ (getD_mem u.2.2.2.1 dT g0 g1)
    rw [spec_UnitOk.l5_s, iteB_pos g1, iteB_pos g0, iteB_pos g1, next_i g0 g1 (by omega)]
    show bindO (spec_l10Place k (u.2.2.2.1.getD i.toNat dT) u.2.2.1) _ = _
    rw [f1, bindO_some]
    show iteB _ _ (bindO (spec_l10Label k u.2.2.2.1 (u.2.2.2.1.getD i.toNat dT).2.2.2.2.1) fun r6 => iteB ((u.2.2.2.1.getD i.toNat dT).1 == 8) (iteB (!(r6 != i)) (bindO (spec_l1In k (u.2.2.2.1.getD i.toNat dT).2.2.2.2.1 0 900) fun r7 => iteB (!(!r7)) (iteB (!((u.2.2.2.1.getD i.toNat dT).1 == 9)) (iteB ((u.2.2.2.1.getD i.toNat dT).1 == 10) _ _) _) _) _) (iteB (!((u.2.2.2.1.getD i.toNat dT).1 == 9)) (iteB ((u.2.2.2.1.getD i.toNat dT).1 == 10) _ _) _)) = _
    rw [f2, bindO_some, nne, spec_in, bindO_some]
    unfold stepV
    generalize placeV (u.2.2.2.1.getD i.toNat dT) u.2.2.1 = A
    generalize firstOf (isLab (u.2.2.2.1.getD i.toNat dT).2.2.2.2.1) u.2.2.2.1 0 = f
    generalize decide (0 ≤ (u.2.2.2.1.getD i.toNat dT).2.2.2.2.1 ∧ (u.2.2.2.1.getD i.toNat dT).2.2.2.2.1 ≤ 900) = B
    generalize ((u.2.2.2.1.getD i.toNat dT).1 == 8) = C
    generalize ((u.2.2.2.1.getD i.toNat dT).1 == 9) = D
    generalize ((u.2.2.2.1.getD i.toNat dT).1 == 10) = E
    generalize (f == i) = G
    generalize decide (f < 0) = H
    cases A <;> cases B <;> cases C <;> cases D <;> cases E <;> cases G <;> cases H <;> rfl
  · show spec_UnitOk.l5 k (n + 1) _ i u = _
    have w : IntKind.wrap .i64 ((u.2.2.2.1.length : Int) - 1) = (u.2.2.2.1.length : Int) - 1 := wrap_id (by omega) (by omega)
    rw [spec_UnitOk.l5_s, iteB_neg (by omega), iteB_pos (by rw [w]; omega), iteB_pos (by rw [w]; omega)]
    unfold endV
    show iteB (!(lastOp u == 12)) (iteB (!(lastOp u == 9)) (some (lastOp u == 28)) (some true)) (some true) = _
    cases (lastOp u == 12) <;> cases (lastOp u == 9) <;> rfl
theorem impl_ends_v (k : Nat) (op : Int) : impl_ends k op = some (endV op) := by
  rw [impl_ends_e]
  unfold endV
  cases (op == 12) <;> cases (op == 9) <;> rfl
theorem impl_code (u : TU) (h1 : 1 ≤ u.2.2.2.1.length) (h2 : u.2.2.2.1.length ≤ 1048576) (hx : ∀ t ∈ u.2.2.2.1, (TT.args t).length ≤ 1048576) : Ev fun k => impl_UnitOk.l4 k k u.2.2.2.1 (u.2.2.2.1.length : Int) 0 u = some (allI (stepV u) u.2.2.2.1 0 && endV (lastOp u)) := by
  refine all_idx u.2.2.2.1 dT (F := fun k t => impl_tacOk k t u.2.2.1 = some (placeV t u.2.2.1) ∧ impl_labelAt k u.2.2.2.1 t.2.2.2.2.1 = some (firstOf (isLab t.2.2.2.2.1) u.2.2.2.1 0)) (L := fun k n i => impl_UnitOk.l4 k n u.2.2.2.1 (u.2.2.2.1.length : Int) i u) (e := fun _ => some (endV (lastOp u))) (fun t m => (impl_place t u.2.2.1 (hx t m)).and (impl_label u.2.2.2.1 t.2.2.2.2.1 h2)) (Ev.of fun _ => rfl) (fun k n i hF g0 g1 => ?_) (fun k n i hi => ?_)
  · show impl_UnitOk.l4 k (n + 1) _ _ i u = _
    obtain ⟨f1, f2⟩ := hF _ (getD_mem u.2.2.2.1 dT g0 g1)
    rw [impl_UnitOk.l4_s, iteB_pos g1, iteB_pos g0, iteB_pos g1, next_i g0 g1 (by omega)]
    show bindO (impl_tacOk k (u.2.2.2.1.getD i.toNat dT) u.2.2.1) _ = _
    rw [f1, bindO_some]
    have f2' : impl_labelAt k u.2.2.2.1 (List.getD u.2.2.2.1 i.toNat dT).2.2.2.2.1 = _ := f2
    simp only [impl_in, f2', bindO_some]
    unfold stepV
    show iteB _ _ (iteB ((u.2.2.2.1.getD i.toNat dT).1 == 8) (iteB _ (iteB _ _ (iteB (!((u.2.2.2.1.getD i.toNat dT).1 == 9)) (iteB ((u.2.2.2.1.getD i.toNat dT).1 == 10) _ _) _)) _) (iteB (!((u.2.2.2.1.getD i.toNat dT).1 == 9)) (iteB ((u.2.2.2.1.getD i.toNat dT).1 == 10) _ _) _)) = _
    generalize placeV (u.2.2.2.1.getD i.toNat dT) u.2.2.1 = A
    generalize firstOf (isLab (u.2.2.2.1.getD i.toNat dT).2.2.2.2.1) u.2.2.2.1 0 = f
    generalize decide (0 ≤ (u.2.2.2.1.getD i.toNat dT).2.2.2.2.1 ∧ (u.2.2.2.1.getD i.toNat dT).2.2.2.2.1 ≤ 900) = B
    generalize ((u.2.2.2.1.getD i.toNat dT).1 == 8) = C
    generalize ((u.2.2.2.1.getD i.toNat dT).1 == 9) = D
    generalize ((u.2.2.2.1.getD i.toNat dT).1 == 10) = E
    have hb : (f != i) = !(f == i) := rfl
    rw [hb]
    generalize (f == i) = G
    generalize decide (f < 0) = H
    cases A <;> cases B <;> cases C <;> cases D <;> cases E <;> cases G <;> cases H <;> rfl
  · show impl_UnitOk.l4 k (n + 1) _ _ i u = _
    have w : IntKind.wrap .i64 ((u.2.2.2.1.length : Int) - 1) = (u.2.2.2.1.length : Int) - 1 := wrap_id (by omega) (by omega)
    rw [impl_UnitOk.l4_s, iteB_neg (by omega), iteB_pos (by rw [w]; omega), iteB_pos (by rw [w]; omega), impl_ends_v, bindO_some]
    rfl
def unitV (u : TU) : Bool := decide (0 ≤ u.2.2.1 ∧ u.2.2.1 ≤ 250) && (decide (0 ≤ u.2.1 ∧ u.2.1 ≤ mn 4 u.2.2.1) && (decide (1 ≤ (u.2.2.2.1.length : Int) ∧ (u.2.2.2.1.length : Int) ≤ 900) && (allI (stepV u) u.2.2.2.1 0 && endV (lastOp u))))
theorem spec_unit (u : TU) (h2 : u.2.2.2.1.length ≤ 1048576) (hx : ∀ t ∈ u.2.2.2.1, (TT.args t).length ≤ 1048576) : Ev fun k => spec_UnitOk k u = some (unitV u) := by
  have hm : ∀ k, spec_l1Min k 4 u.2.2.1 = some (mn 4 u.2.2.1) := fun k => by
    rw [spec_l1Min_e, iteB_ss]
    unfold mn
    by_cases c : 4 < u.2.2.1
    · rw [decide_eq_true c, decide_eq_false (by omega)]; rfl
    · rw [decide_eq_false c]
      by_cases c2 : u.2.2.1 < 4
      · rw [decide_eq_true c2]; rfl
      · rw [decide_eq_false c2]; simp; omega
  by_cases c : 1 ≤ (u.2.2.2.1.length : Int) ∧ (u.2.2.2.1.length : Int) ≤ 900
  · refine ((spec_code u (by omega) h2 hx).and (Ev.gt 0)).mono fun k h => ?_
    rw [spec_UnitOk_e, gate_pos h.2, spec_UnitOk.j4_e, h.1]
    simp only [spec_in, hm, bindO_some, iteB_ss]
    unfold unitV
    congr 1
    generalize decide (0 ≤ u.2.2.1 ∧ u.2.2.1 ≤ 250) = A
    generalize decide (0 ≤ u.2.1 ∧ u.2.1 ≤ mn 4 u.2.2.1) = B
    generalize decide (1 ≤ (u.2.2.2.1.length : Int) ∧ (u.2.2.2.1.length : Int) ≤ 900) = C
    cases A <;> cases B <;> cases C <;> rfl
  · refine Ev.of fun k => ?_
    rw [spec_UnitOk_e]
    simp only [spec_in, hm, bindO_some]
    unfold unitV
    rw [decide_eq_false c]
    cases decide (0 ≤ u.2.2.1 ∧ u.2.2.1 ≤ 250) <;> cases decide (0 ≤ u.2.1 ∧ u.2.1 ≤ mn 4 u.2.2.1) <;> rfl
theorem impl_unit (u : TU) (h2 : u.2.2.2.1.length ≤ 1048576) (hx : ∀ t ∈ u.2.2.2.1, (TT.args t).length ≤ 1048576) : Ev fun k => impl_UnitOk k u = some (unitV u) := by
  by_cases c : 1 ≤ (u.2.2.2.1.length : Int) ∧ (u.2.2.2.1.length : Int) ≤ 900
  · refine ((impl_code u (by omega) h2 hx).and (Ev.gt 0)).mono fun k h => ?_
    rw [impl_UnitOk_e, gate_pos h.2, impl_UnitOk.j3_e, h.1]
    simp only [impl_in, bindO_some, iteB_ss]
    unfold unitV
    congr 1
    generalize decide (0 ≤ u.2.2.1 ∧ u.2.2.1 ≤ 250) = A
    generalize decide (0 ≤ u.2.1 ∧ u.2.1 ≤ mn 4 u.2.2.1) = B
    generalize decide (1 ≤ (u.2.2.2.1.length : Int) ∧ (u.2.2.2.1.length : Int) ≤ 900) = C
    cases A <;> cases B <;> cases C <;> rfl
  · refine Ev.of fun k => ?_
    rw [impl_UnitOk_e]
    simp only [impl_in, bindO_some]
    unfold unitV
    rw [decide_eq_false c]
    cases decide (0 ≤ u.2.2.1 ∧ u.2.2.1 ≤ 250) <;> cases decide (0 ≤ u.2.1 ∧ u.2.1 ≤ mn 4 u.2.2.1) <;> rfl

theorem sn_1 : bit (hasT 1) 16 = false := by kernel_rfl
theorem sn_2 : bit (hasT 2) 16 = false := by kernel_rfl
theorem sn_3 : bit (hasT 3) 16 = false := by kernel_rfl
theorem sn_4 : bit (hasT 4) 16 = false := by kernel_rfl
theorem sn_5 : bit (hasT 5) 16 = false := by kernel_rfl
theorem sn_6 : bit (hasT 6) 16 = false := by kernel_rfl
theorem sn_7 : bit (hasT 7) 16 = false := by kernel_rfl
theorem sn_8 : bit (hasT 8) 16 = false := by kernel_rfl
theorem sn_9 : bit (hasT 9) 16 = false := by kernel_rfl
theorem sn_10 : bit (hasT 10) 16 = false := by kernel_rfl
theorem sn_11 : bit (hasT 11) 16 = true := by kernel_rfl
theorem sn_12 : bit (hasT 12) 16 = false := by kernel_rfl
theorem sn_13 : bit (hasT 13) 16 = false := by kernel_rfl
theorem sn_14 : bit (hasT 14) 16 = true := by kernel_rfl
theorem sn_15 : bit (hasT 15) 16 = false := by kernel_rfl
theorem sn_16 : bit (hasT 16) 16 = false := by kernel_rfl
theorem sn_17 : bit (hasT 17) 16 = false := by kernel_rfl
theorem sn_18 : bit (hasT 18) 16 = false := by kernel_rfl
theorem sn_19 : bit (hasT 19) 16 = false := by kernel_rfl
theorem sn_20 : bit (hasT 20) 16 = false := by kernel_rfl
theorem sn_21 : bit (hasT 21) 16 = false := by kernel_rfl
theorem sn_22 : bit (hasT 22) 16 = false := by kernel_rfl
theorem sn_23 : bit (hasT 23) 16 = false := by kernel_rfl
theorem sn_24 : bit (hasT 24) 16 = true := by kernel_rfl
theorem sn_25 : bit (hasT 25) 16 = false := by kernel_rfl
theorem sn_26 : bit (hasT 26) 16 = false := by kernel_rfl
theorem sn_27 : bit (hasT 27) 16 = false := by kernel_rfl
theorem sn_28 : bit (hasT 28) 16 = false := by kernel_rfl
theorem s_bits (op : Int) : bit (hasT op) 16 = (op == 11 || (op == 14 || op == 24)) := by
  have h : op = 1 ∨ op = 2 ∨ op = 3 ∨ op = 4 ∨ op = 5 ∨ op = 6 ∨ op = 7 ∨ op = 8 ∨ op = 9 ∨ op = 10 ∨ op = 11 ∨ op = 12 ∨ op = 13 ∨ op = 14 ∨ op = 15 ∨ op = 16 ∨ op = 17 ∨ op = 18 ∨ op = 19 ∨ op = 20 ∨ op = 21 ∨ op = 22 ∨ op = 23 ∨ op = 24 ∨ op = 25 ∨ op = 26 ∨ op = 27 ∨ op = 28 ∨ (op < 1 ∨ 28 < op) := by omega
  rcases h with h | h | h | h | h | h | h | h | h | h | h | h | h | h | h | h | h | h | h | h | h | h | h | h | h | h | h | h | h
  · subst h; exact sn_1
  · subst h; exact sn_2
  · subst h; exact sn_3
  · subst h; exact sn_4
  · subst h; exact sn_5
  · subst h; exact sn_6
  · subst h; exact sn_7
  · subst h; exact sn_8
  · subst h; exact sn_9
  · subst h; exact sn_10
  · subst h; exact sn_11
  · subst h; exact sn_12
  · subst h; exact sn_13
  · subst h; exact sn_14
  · subst h; exact sn_15
  · subst h; exact sn_16
  · subst h; exact sn_17
  · subst h; exact sn_18
  · subst h; exact sn_19
  · subst h; exact sn_20
  · subst h; exact sn_21
  · subst h; exact sn_22
  · subst h; exact sn_23
  · subst h; exact sn_24
  · subst h; exact sn_25
  · subst h; exact sn_26
  · subst h; exact sn_27
  · subst h; exact sn_28
  · rw [bits_no op h 16 (by simp)]
    have a : (op == 11) = false := by simp; omega
    have b : (op == 14) = false := by simp; omega
    have c : (op == 24) = false := by simp; omega
    rw [a, b, c]; rfl

/-! Units. -/
theorem index_at {α : Type} (xs : List α) (d : α) {p : α → Bool} (k : Nat) {L : Nat → Int → Option Int} (hk : xs.length < k)
    (hL : ∀ n i, 0 ≤ i → i < (xs.length : Int) → L (n + 1) i = iteB (p (xs.getD i.toNat d)) (some i) (L n (i + 1)))
    (hE : ∀ n i, (xs.length : Int) ≤ i → L (n + 1) i = some (-1)) : L k 0 = some (firstOf p xs 0) := by
  rw [loop_all xs d (fun n i => L n i) (fun i x r => bif p x then some i else r) (some (-1)) (fun n i g0 g1 => by
    show L (n + 1) i = _
    rw [hL n i g0 g1]
    cases p (xs.getD i.toNat d) <;> rfl) (fun n i g => hE n i g) k hk, run_firstOf]
theorem firstOf_bd {α : Type} (p : α → Bool) : ∀ (xs : List α) (i : Int), 0 ≤ i → (0 ≤ firstOf p xs i → firstOf p xs i < i + xs.length)
  | [], i, h => fun h2 => by unfold firstOf at h2; omega
  | x :: r, i, h => fun h2 => by
    unfold firstOf at h2 ⊢
    cases hp : p x
    · rw [hp] at h2
      have := firstOf_bd p r (i + 1) (by omega) h2
      simp only [cond_false, List.length_cons]
      omega
    · simp; omega
abbrev dU : TU := Ty.dflt (.pair .str (.pair (.int .i64) (.pair (.int .i64) (.pair (.row (.pair (.int .i64) (.pair (.int .i64) (.pair (.int .i64) (.pair (.int .i64) (.pair (.int .i64) (.pair .str (.pair (.row (.int .i64)) .unit)))))))) .unit))))
def named (s : ByteArray) (u : TU) : Bool := ByteArray.toList u.1 == ByteArray.toList s
def atV (l : List TU) (s : ByteArray) : Int := firstOf (named s) l 0
theorem spec_at (l : List TU) (s : ByteArray) (hl : l.length ≤ 1048576) (k : Nat) (hk : l.length < k) : spec_l10Unit k l s = some (atV l s) := by
  rw [spec_l10Unit_e]
  exact index_at l dU k (L := fun n i => spec_l10Unit.l2 k n l s i) hk (fun n i h0 h1 => by
    show spec_l10Unit.l2 k (n + 1) l s i = _
    rw [spec_l10Unit.l2_s, iteB_pos h1, iteB_pos h0, iteB_pos h1, next_i h0 h1 (by omega)]; rfl) (fun n i h => by
    show spec_l10Unit.l2 k (n + 1) l s i = _
    rw [spec_l10Unit.l2_s, iteB_neg (by omega)])
theorem impl_at (l : List TU) (s : ByteArray) (hl : l.length ≤ 1048576) (k : Nat) (hk : l.length < k) : impl_unitAt k l s = some (atV l s) := by
  rw [impl_unitAt_e, slices_IndexFunc_impl_Unit__impl_unitAt_1_e, index_at l dU k (p := named s) (L := fun n i => slices_IndexFunc_impl_Unit__impl_unitAt_1.l2 k n l s (l.length : Int) i) hk (fun n i h0 h1 => by
    show slices_IndexFunc_impl_Unit__impl_unitAt_1.l2 k (n + 1) l s _ i = _
    rw [slices_IndexFunc_impl_Unit__impl_unitAt_1.l2_s, iteB_pos h1, iteB_pos h0, iteB_pos h1, next_i h0 h1 (by omega), impl_unitAt_1_vbp_e, bindO_some]; rfl) (fun n i h => by
    show slices_IndexFunc_impl_Unit__impl_unitAt_1.l2 k (n + 1) l s _ i = _
    rw [slices_IndexFunc_impl_Unit__impl_unitAt_1.l2_s, iteB_neg (by omega)]), bindO_some]
  rfl
def callV (l : List TU) (t : TT) : Bool := !(decide (atV l t.2.2.2.2.2.1 < 0)) && (bif t.1 != 24 then (l.getD (atV l t.2.2.2.2.2.1).toNat dU).2.1 == (t.args.length : Int) else true)
def innerV (l : List TU) (t : TT) : Bool := bif bit (hasT t.1) 16 then callV l t else true
/-- One round inside. -/
theorem spec_in_round (l : List TU) (hl : l.length ≤ 1048576) (k m2 : Nat) (hk : l.length < k) (x3 : Int) (u : TU) (hu : u.2.2.2.1.length ≤ 1048576) (n : Nat) (i : Int) (h0 : 0 ≤ i) (h1 : i < (u.2.2.2.1.length : Int)) :
    spec_UnitsOk.l8 k m2 (n + 1) l x3 i u = iteB (innerV l (u.2.2.2.1.getD i.toNat dT)) (spec_UnitsOk.l8 k m2 n l x3 (i + 1) u) (some false) := by
  have hj : spec_UnitsOk.j12 k m2 n l x3 i u (u.2.2.2.1.getD i.toNat dT) = iteB (callV l (u.2.2.2.1.getD i.toNat dT)) (spec_UnitsOk.l8 k m2 n l x3 (i + 1) u) (some false) := by
    rw [spec_UnitsOk.j12_e, spec_at l _ hl k hk, bindO_some, next_i h0 h1 (by omega)]
    unfold callV
    have bd := firstOf_bd (named (u.2.2.2.1.getD i.toNat dT).2.2.2.2.2.1) l 0 (by omega)
    by_cases c : atV l (u.2.2.2.1.getD i.toNat dT).2.2.2.2.2.1 < 0
    · rw [decide_eq_true c]; rfl
    · have c2 : 0 ≤ atV l (u.2.2.2.1.getD i.toNat dT).2.2.2.2.2.1 := by omega
      have c3 : atV l (u.2.2.2.1.getD i.toNat dT).2.2.2.2.2.1 < (l.length : Int) := by have := bd c2; unfold atV; omega
      rw [decide_eq_false c, Bool.not_false, iteB_true, iteB_pos c2, iteB_pos c3]
      show iteB ((u.2.2.2.1.getD i.toNat dT).1 != 24) (iteB ((l.getD (atV l (u.2.2.2.1.getD i.toNat dT).2.2.2.2.2.1).toNat dU).2.1 != ((u.2.2.2.1.getD i.toNat dT).args.length : Int)) _ _) _ = _
      have hb : ((l.getD (atV l (u.2.2.2.1.getD i.toNat dT).2.2.2.2.2.1).toNat dU).2.1 != ((u.2.2.2.1.getD i.toNat dT).args.length : Int)) = !((l.getD (atV l (u.2.2.2.1.getD i.toNat dT).2.2.2.2.2.1).toNat dU).2.1 == ((u.2.2.2.1.getD i.toNat dT).args.length : Int)) := rfl
      rw [hb]
      cases ((u.2.2.2.1.getD i.toNat dT).1 != 24) <;> cases ((l.getD (atV l (u.2.2.2.1.getD i.toNat dT).2.2.2.2.2.1).toNat dU).2.1 == ((u.2.2.2.1.getD i.toNat dT).args.length : Int)) <;> rfl
  rw [spec_UnitsOk.l8_s, iteB_pos h1, iteB_pos h0, iteB_pos h1, gate_pos (by omega), next_i h0 h1 (by omega)]
  show iteB ((u.2.2.2.1.getD i.toNat dT).1 != 11) (iteB ((u.2.2.2.1.getD i.toNat dT).1 != 14) (iteB ((u.2.2.2.1.getD i.toNat dT).1 != 24) _ (spec_UnitsOk.j12 k m2 n l x3 i u (u.2.2.2.1.getD i.toNat dT))) (spec_UnitsOk.j12 k m2 n l x3 i u (u.2.2.2.1.getD i.toNat dT))) (spec_UnitsOk.j12 k m2 n l x3 i u (u.2.2.2.1.getD i.toNat dT)) = _
  rw [hj]
  unfold innerV
  rw [s_bits]
  have b1 : ∀ c : Int, ((u.2.2.2.1.getD i.toNat dT).1 != c) = !((u.2.2.2.1.getD i.toNat dT).1 == c) := fun c => rfl
  rw [b1, b1, b1]
  cases ((u.2.2.2.1.getD i.toNat dT).1 == 11) <;> cases ((u.2.2.2.1.getD i.toNat dT).1 == 14) <;> cases ((u.2.2.2.1.getD i.toNat dT).1 == 24) <;> rfl
theorem impl_in_round (l : List TU) (hl : l.length ≤ 1048576) (k m2 : Nat) (hk : l.length < k) (x11 : List TU) (x12 x3 : Int) (c0 : List TT) (hu : c0.length ≤ 1048576) (hF : ∀ t ∈ c0, impl_owned k t.1 83 = some (bit (hasT t.1) 16)) (n : Nat) (i : Int) (h0 : 0 ≤ i) (h1 : i < (c0.length : Int)) :
    impl_UnitsOk.l9 k m2 (n + 1) l x11 x12 x3 c0 (c0.length : Int) i = iteB (innerV l (c0.getD i.toNat dT)) (impl_UnitsOk.l9 k m2 n l x11 x12 x3 c0 (c0.length : Int) (i + 1)) (some false) := by
  rw [impl_UnitsOk.l9_s, iteB_pos h1, iteB_pos h0, iteB_pos h1, next_i h0 h1 (by omega)]
  show bindO (impl_owned k (c0.getD i.toNat dT).1 83) _ = _
  rw [hF _ (getD_mem c0 dT h0 h1), bindO_some]
  unfold innerV
  cases hb : bit (hasT (c0.getD i.toNat dT).1) 16
  · rfl
  · rw [Bool.not_true, iteB_false, cond_true]
    show bindO (impl_unitAt k l (c0.getD i.toNat dT).2.2.2.2.2.1) _ = _
    rw [impl_at l _ hl k hk, bindO_some]
    unfold callV
    have bd := firstOf_bd (named (c0.getD i.toNat dT).2.2.2.2.2.1) l 0 (by omega)
    by_cases c : atV l (c0.getD i.toNat dT).2.2.2.2.2.1 < 0
    · rw [decide_eq_true c]; rfl
    · have c2 : 0 ≤ atV l (c0.getD i.toNat dT).2.2.2.2.2.1 := by omega
      have c3 : atV l (c0.getD i.toNat dT).2.2.2.2.2.1 < (l.length : Int) := by have := bd c2; unfold atV; omega
      rw [decide_eq_false c, Bool.not_false, iteB_true, iteB_pos c2, iteB_pos c3]
      show iteB ((c0.getD i.toNat dT).1 != 24) (iteB (((c0.getD i.toNat dT).args.length : Int) != (l.getD (atV l (c0.getD i.toNat dT).2.2.2.2.2.1).toNat dU).2.1) _ _) _ = _
      have hb : ((((c0.getD i.toNat dT).args.length : Int)) != (l.getD (atV l (c0.getD i.toNat dT).2.2.2.2.2.1).toNat dU).2.1) = !((l.getD (atV l (c0.getD i.toNat dT).2.2.2.2.2.1).toNat dU).2.1 == ((c0.getD i.toNat dT).args.length : Int)) := by
        rw [Bool.eq_iff_iff]; simp; constructor <;> intro h e <;> exact h e.symm
      rw [hb]
      cases ((c0.getD i.toNat dT).1 != 24) <;> cases ((l.getD (atV l (c0.getD i.toNat dT).2.2.2.2.2.1).toNat dU).2.1 == ((c0.getD i.toNat dT).args.length : Int)) <;> rfl
/-- The rounds inside, all of them. -/
theorem rounds_all {α : Type} (xs : List α) (d : α) {p : α → Bool} {L : Nat → Int → Option Bool} {e : Option Bool}
    (hL : ∀ n i, 0 ≤ i → i < (xs.length : Int) → L (n + 1) i = iteB (p (xs.getD i.toNat d)) (L n (i + 1)) (some false))
    (hE : ∀ n i, (xs.length : Int) ≤ i → L (n + 1) i = e) (k : Nat) (hk : xs.length < k) : L k 0 = iteB (xs.all p) e (some false) := by
  have key : ∀ (m : Nat) (i : Int) (q : Nat), 0 ≤ i → (xs.length : Int) - i = m → m < q → L q i = iteB ((xs.drop i.toNat).all p) e (some false) := by
    intro m
    induction m with
    | zero =>
      intro i q hi hm hq
      obtain ⟨q, rfl⟩ : ∃ p, q = p + 1 := ⟨q - 1, by omega⟩
      rw [hE q i (by omega), List.drop_eq_nil_of_le (by omega)]; rfl
    | succ m ih =>
      intro i q hi hm hq
      obtain ⟨q, rfl⟩ : ∃ p, q = p + 1 := ⟨q - 1, by omega⟩
      have hlt : i < (xs.length : Int) := by omega
      rw [hL q i hi hlt, ih (i + 1) q (by omega) (by omega) (by omega), drop_at xs d i hi hlt, List.all_cons]
      cases p (xs.getD i.toNat d) <;> rfl
  have := key xs.length 0 k (by omega) (by omega) hk
  simpa using this
def stepU (l : List TU) (i : Int) (u : TU) : Bool := unitV u && ((atV l u.1 == i) && u.2.2.2.1.all (innerV l))
structure FitU (u : TU) : Prop where
  a : u.2.2.2.1.length ≤ 1048576
  b : ∀ t ∈ u.2.2.2.1, (TT.args t).length ≤ 1048576
theorem spec_units (l : List TU) (hl : l.length ≤ 1048576) (hx : ∀ u ∈ l, FitU u) : Ev fun k => spec_UnitsOk k l = some (allI (stepU l) l 0 && decide ((l.length : Int) ≤ 80)) := by
  refine (all_idx l dU (F := fun k u => spec_UnitOk k u = some (unitV u) ∧ u.2.2.2.1.length < k ∧ l.length < k) (p := stepU l) (L := fun k n i => spec_UnitsOk.l2 k n l i) (e := fun _ => some (decide ((l.length : Int) ≤ 80))) (fun u m => (spec_unit u (hx u m).a (hx u m).b).and ((Ev.gt _).and (Ev.gt _))) (Ev.of fun _ => rfl) (fun k n i hF g0 g1 => ?_) (fun k n i hi => ?_)).mono fun k h => ?_
  · show spec_UnitsOk.l2 k (n + 1) l i = _
    have hm := getD_mem l dU g0 g1
    obtain ⟨f1, f2, f3⟩ := hF _ hm
    have in_all := rounds_all (l.getD i.toNat dU).2.2.2.1 dT (p := innerV l) (L := fun q j => spec_UnitsOk.l8 k n q l i j (l.getD i.toNat dU)) (e := spec_UnitsOk.l2 k n l (i + 1)) (fun q j h0 h1 => spec_in_round l hl k n f3 i (l.getD i.toNat dU) (hx _ hm).a q j h0 h1) (fun q j hj => by
      show spec_UnitsOk.l8 k n (q + 1) l i j _ = _
      rw [spec_UnitsOk.l8_s, iteB_neg (by omega), next_i g0 g1 (by omega)]) k f2
    rw [spec_UnitsOk.l2_s, iteB_pos g1, iteB_pos g0, iteB_pos g1]
    show bindO (spec_UnitOk k (l.getD i.toNat dU)) (fun r1 => iteB (!(!r1)) (bindO (spec_l10Unit k l (l.getD i.toNat dU).1) fun r2 => iteB (r2 != i) (some false) (gate k (spec_UnitsOk.j7 k n l i (l.getD i.toNat dU)))) (some false)) = _
    rw [f1, bindO_some, spec_at l _ hl k f3, bindO_some, gate_pos (by omega), spec_UnitsOk.j7_e, in_all]
    unfold stepU
    have hb : (atV l (l.getD i.toNat dU).1 != i) = !(atV l (l.getD i.toNat dU).1 == i) := rfl
    rw [hb]
    cases unitV (l.getD i.toNat dU) <;> cases (atV l (l.getD i.toNat dU).1 == i) <;> cases (l.getD i.toNat dU).2.2.2.1.all (innerV l) <;> rfl
  · show spec_UnitsOk.l2 k (n + 1) l i = _
    rw [spec_UnitsOk.l2_s, iteB_neg (by omega)]
  · rw [spec_UnitsOk_e]; exact h
theorem impl_units (l : List TU) (hl : l.length ≤ 1048576) (hx : ∀ u ∈ l, FitU u) : Ev fun k => impl_UnitsOk k l = some (allI (stepU l) l 0 && decide ((l.length : Int) ≤ 80)) := by
  refine (all_idx l dU (F := fun k u => impl_UnitOk k u = some (unitV u) ∧ (∀ t ∈ u.2.2.2.1, impl_owned k t.1 83 = some (bit (hasT t.1) 16)) ∧ u.2.2.2.1.length < k ∧ l.length < k) (p := stepU l) (L := fun k n i => impl_UnitsOk.l4 k n l l (l.length : Int) i) (e := fun _ => some true) (fun u m => (impl_unit u (hx u m).a (hx u m).b).and ((Ev.all fun t _ => own_s t.1).and ((Ev.gt _).and (Ev.gt _)))) (Ev.of fun _ => rfl) (fun k n i hF g0 g1 => ?_) (fun k n i hi => ?_)).mono fun k h => ?_
  · show impl_UnitsOk.l4 k (n + 1) l l _ i = _
    have hm := getD_mem l dU g0 g1
    obtain ⟨f1, f0, f2, f3⟩ := hF _ hm
    have in_all := rounds_all (l.getD i.toNat dU).2.2.2.1 dT (p := innerV l) (L := fun q j => impl_UnitsOk.l9 k n q l l (l.length : Int) i (l.getD i.toNat dU).2.2.2.1 ((l.getD i.toNat dU).2.2.2.1.length : Int) j) (e := impl_UnitsOk.l4 k n l l (l.length : Int) (i + 1)) (fun q j h0 h1 => impl_in_round l hl k n f3 l _ i _ (hx _ hm).a f0 q j h0 h1) (fun q j hj => by
      show impl_UnitsOk.l9 k n (q + 1) l l _ i _ _ j = _
      rw [impl_UnitsOk.l9_s, iteB_neg (by omega), next_i g0 g1 (by omega)]) k f2
    rw [impl_UnitsOk.l4_s, iteB_pos g1, iteB_pos g0, iteB_pos g1]
    show bindO (impl_UnitOk k (l.getD i.toNat dU)) (fun r1 => iteB (!(!r1)) (bindO (impl_unitAt k l (l.getD i.toNat dU).1) fun r2 => iteB (r2 != i) (some false) (gate k (impl_UnitsOk.j8 k n l l (l.length : Int) i (l.getD i.toNat dU)))) (some false)) = _
    rw [f1, bindO_some, impl_at l _ hl k f3, bindO_some, gate_pos (by omega), impl_UnitsOk.j8_e, in_all]
    unfold stepU
    have hb : (atV l (l.getD i.toNat dU).1 != i) = !(atV l (l.getD i.toNat dU).1 == i) := rfl
    rw [hb]
    cases unitV (l.getD i.toNat dU) <;> cases (atV l (l.getD i.toNat dU).1 == i) <;> cases (l.getD i.toNat dU).2.2.2.1.all (innerV l) <;> rfl
  · show impl_UnitsOk.l4 k (n + 1) l l _ i = _
    rw [impl_UnitsOk.l4_s, iteB_neg (by omega)]
  · have h' : impl_UnitsOk.l4 k k l l (l.length : Int) 0 = some (allI (stepU l) l 0 && true) := h
    rw [impl_UnitsOk_e, h', Bool.and_true]
    by_cases c : (l.length : Int) > 80
    · rw [iteB_pos c, decide_eq_false (by omega), Bool.and_false]
    · rw [iteB_neg c, decide_eq_true (by omega), Bool.and_true]

/-! Words, waits, channels. -/
theorem spec_words (l : List Int) (hl : l.length ≤ 1048576) : Ev fun k => spec_l3Words k l = some (l.all wok) := by
  refine (all_rounds l 0 (f := spec_WordOk) (p := wok) (L := fun k n i => spec_l3Words.l2 k n l i) (e := fun _ => some true) (fun x _ => Ev.of fun k => spec_wok k x) (Ev.of fun _ => rfl) (fun k n i h0 h1 => ?_) (fun k n i h => ?_)).mono fun k h => ?_
  · show spec_l3Words.l2 k (n + 1) l i = _
    rw [spec_l3Words.l2_s, iteB_pos h1, iteB_pos h0, iteB_pos h1, next_i h0 h1 (by omega)]
  · show spec_l3Words.l2 k (n + 1) l i = _
    rw [spec_l3Words.l2_s, iteB_neg (by omega)]
  · rw [spec_l3Words_e]; simpa using h
theorem impl_ww (k : Nat) (x : Int) : impl_wordsOk_1 k x = some (!wok x) := by rw [impl_wordsOk_1_e, impl_wok, bindO_some]
theorem impl_words (l : List Int) (h : l.length ≤ 1048576) (most : Int) : Ev fun k => impl_wordsOk k l most = some (bif decide ((l.length : Int) ≤ most) then l.all wok else false) := by
  refine (contains_of slices_IndexFunc_int__impl_wordsOk_1.l2_s slices_IndexFunc_int__impl_wordsOk_1_e slices_ContainsFunc_int__impl_wordsOk_1_e l h (p := fun x => !wok x) (fun y _ => Ev.of fun k => impl_ww k y)).mono fun k hk => ?_
  rw [impl_wordsOk_e, hk, bindO_some, iteB_ss, any_not, Bool.not_not]
abbrev TW : Type := Int × Int × Int × Int × Unit
abbrev dW : TW := Ty.dflt (.pair (.int .i64) (.pair (.int .i64) (.pair (.int .i64) (.pair (.int .i64) .unit))))
theorem take_getD {α : Type} (l : List α) (d : α) {i j : Int} (h0 : 0 ≤ j) (h : j < i) : (l.take i.toNat).getD j.toNat d = l.getD j.toNat d := by
  simp only [List.getD, List.getElem?_take]
  rw [if_pos (by omega)]
def waitB (l : List TW) (i : Int) (x : TW) : Bool := decide (0 ≤ x.1 ∧ x.1 ≤ 5) && (wok x.2.2.1 && (!(decide (x.2.1 < 0)) && (!(decide (x.2.2.2.1 < 0)) && (l.take i.toNat).all (fun y => !(y.1 == x.1)))))
def waitsV (l : List TW) : Bool := allI (waitB l) l 0 && decide ((l.length : Int) ≤ 6)
theorem spec_waits (l : List TW) (hl : l.length ≤ 1048576) : Ev fun k => spec_l12Waits k l = some (waitsV l) := by
  refine (all_idx l dW (F := fun k _ => l.length < k) (p := waitB l) (L := fun k n i => spec_l12Waits.l2 k n l i) (e := fun _ => some (decide ((l.length : Int) ≤ 6))) (fun _ _ => Ev.gt _) (Ev.of fun _ => rfl) (fun k n i hF g0 g1 => ?_) (fun k n i hi => ?_)).mono fun k h => ?_
  · show spec_l12Waits.l2 k (n + 1) l i = _
    have hk := hF _ (getD_mem l dW g0 g1)
    have hlen : (l.take i.toNat).length = i.toNat := by rw [List.length_take]; omega
    have inner := rounds_all (l.take i.toNat) dW (p := fun y => !(y.1 == (l.getD i.toNat dW).1)) (L := fun q j => spec_l12Waits.l8 k n q l i j (l.getD i.toNat dW)) (e := spec_l12Waits.l2 k n l (i + 1)) (fun q j h0 h1 => by
      show spec_l12Waits.l8 k n (q + 1) l i j _ = _
      rw [hlen] at h1
      rw [spec_l12Waits.l8_s, iteB_pos (by omega), iteB_pos h0, iteB_pos (by omega), take_getD l dW h0 (by omega), next_i h0 (show j < (l.length : Int) by omega) (by omega)]
      show iteB ((l.getD j.toNat dW).1 == (l.getD i.toNat dW).1) _ _ = _
      cases ((l.getD j.toNat dW).1 == (l.getD i.toNat dW).1) <;> rfl) (fun q j hj => by
      show spec_l12Waits.l8 k n (q + 1) l i j _ = _
      rw [hlen] at hj
      rw [spec_l12Waits.l8_s, iteB_neg (by omega), next_i g0 g1 (by omega)]) k (by omega)
    rw [spec_l12Waits.l2_s, iteB_pos g1, iteB_pos g0, iteB_pos g1, spec_in, bindO_some, spec_wok, bindO_some, gate_pos (by omega), spec_l12Waits.j7_e]
    show iteB _ (iteB _ (iteB _ (iteB _ _ (spec_l12Waits.l8 k n k l i 0 (l.getD i.toNat dW))) _) _) _ = _
    rw [inner]
    unfold waitB
    show iteB (!(!(decide (0 ≤ (l.getD i.toNat dW).1 ∧ (l.getD i.toNat dW).1 ≤ 5)))) (iteB (!(!(wok (l.getD i.toNat dW).2.2.1))) (iteB (!(decide ((l.getD i.toNat dW).2.1 < 0))) (iteB (decide ((l.getD i.toNat dW).2.2.2.1 < 0)) _ _) _) _) _ = _
    generalize decide (0 ≤ (l.getD i.toNat dW).1 ∧ (l.getD i.toNat dW).1 ≤ 5) = A
    generalize wok (l.getD i.toNat dW).2.2.1 = B
    generalize decide ((l.getD i.toNat dW).2.1 < 0) = C
    generalize decide ((l.getD i.toNat dW).2.2.2.1 < 0) = D
    generalize (l.take i.toNat).all (fun y => !(y.1 == (l.getD i.toNat dW).1)) = E
    cases A <;> cases B <;> cases C <;> cases D <;> cases E <;> rfl
  · show spec_l12Waits.l2 k (n + 1) l i = _
    rw [spec_l12Waits.l2_s, iteB_neg (by omega)]
  · rw [spec_l12Waits_e]; exact h
theorem impl_before (xs : List TW) (hl : xs.length ≤ 1048576) (b c d e : Int) (k : Nat) (hk : xs.length < k) : slices_ContainsFunc_impl_Wait__impl_waitsOk_1 k xs b c d e = some (xs.any (fun y => y.1 == b)) := by
  rw [slices_ContainsFunc_impl_Wait__impl_waitsOk_1_e, slices_IndexFunc_impl_Wait__impl_waitsOk_1_e, index_at xs dW k (p := fun y => y.1 == b) (L := fun n i => slices_IndexFunc_impl_Wait__impl_waitsOk_1.l2 k n xs b c d e (xs.length : Int) i) hk (fun n i h0 h1 => by
    show slices_IndexFunc_impl_Wait__impl_waitsOk_1.l2 k (n + 1) xs b c d e _ i = _
    rw [slices_IndexFunc_impl_Wait__impl_waitsOk_1.l2_s, iteB_pos h1, iteB_pos h0, iteB_pos h1, next_i h0 h1 (by omega), impl_waitsOk_1_vbp_e, bindO_some]) (fun n i h => by
    show slices_IndexFunc_impl_Wait__impl_waitsOk_1.l2 k (n + 1) xs b c d e _ i = _
    rw [slices_IndexFunc_impl_Wait__impl_waitsOk_1.l2_s, iteB_neg (by omega)]), bindO_some, firstOf_any _ _ 0 (by omega)]
theorem all_not {α : Type} (p : α → Bool) (l : List α) : (l.all fun x => !p x) = !l.any p := by
  induction l with
  | nil => rfl
  | cons x r ih => rw [List.any_cons, List.all_cons, ih]; cases p x <;> simp
theorem impl_waits (l : List TW) (hl : l.length ≤ 1048576) : Ev fun k => impl_waitsOk k l = some (waitsV l) := by
  refine (all_idx l dW (F := fun k _ => l.length < k) (p := waitB l) (L := fun k n i => impl_waitsOk.l2 k n l l (l.length : Int) i) (e := fun _ => some (decide ((l.length : Int) ≤ 6))) (fun _ _ => Ev.gt _) (Ev.of fun _ => rfl) (fun k n i hF g0 g1 => ?_) (fun k n i hi => ?_)).mono fun k h => ?_
  · show impl_waitsOk.l2 k (n + 1) l l _ i = _
    have hk := hF _ (getD_mem l dW g0 g1)
    have hlen : (l.take i.toNat).length ≤ l.length := by rw [List.length_take]; omega
    rw [impl_waitsOk.l2_s, iteB_pos g1, iteB_pos g0, iteB_pos g1, impl_in, bindO_some, iteB_pos g0, iteB_pos (show i ≤ (l.length : Int) by omega), List.drop_zero, impl_before (l.take i.toNat) (by omega) _ _ _ _ k (by omega), bindO_some, impl_wok, bindO_some, next_i g0 g1 (by omega)]
    unfold waitB
    show iteB (!(!(decide (0 ≤ (l.getD i.toNat dW).1 ∧ (l.getD i.toNat dW).1 ≤ 5)))) (iteB (!((l.take i.toNat).any (fun y => y.1 == (l.getD i.toNat dW).1))) (iteB (!(!(wok (l.getD i.toNat dW).2.2.1))) (iteB (!(decide ((l.getD i.toNat dW).2.1 < 0))) (iteB (decide ((l.getD i.toNat dW).2.2.2.1 < 0)) _ _) _) _) _) _ = _
    rw [all_not]
    generalize decide (0 ≤ (l.getD i.toNat dW).1 ∧ (l.getD i.toNat dW).1 ≤ 5) = A
    generalize wok (l.getD i.toNat dW).2.2.1 = B
    generalize decide ((l.getD i.toNat dW).2.1 < 0) = C
    generalize decide ((l.getD i.toNat dW).2.2.2.1 < 0) = D
    generalize (l.take i.toNat).any (fun y => y.1 == (l.getD i.toNat dW).1) = E
    cases A <;> cases B <;> cases C <;> cases D <;> cases E <;> rfl
  · show impl_waitsOk.l2 k (n + 1) l l _ i = _
    rw [impl_waitsOk.l2_s, iteB_neg (by omega)]
  · rw [impl_waitsOk_e]; exact h
abbrev TC : Type := Int × Bool × (List Int) × (List TW) × (List TW) × Unit
structure FitC (c : TC) : Prop where
  a : c.2.2.1.length ≤ 1048576
  b : c.2.2.2.1.length ≤ 1048576
  c : c.2.2.2.2.1.length ≤ 1048576
def chanV (c : TC) : Bool := decide (0 ≤ c.1 ∧ c.1 ≤ 8) && (decide ((c.2.2.1.length : Int) ≤ c.1) && (c.2.2.1.all wok && (waitsV c.2.2.2.1 && waitsV c.2.2.2.2.1)))
theorem spec_chan (c : TC) (h : FitC c) : Ev fun k => spec_ChanOk k c = some (chanV c) := by
  refine ((spec_words _ h.a).and ((spec_waits _ h.b).and (spec_waits _ h.c))).mono fun k hk => ?_
  obtain ⟨h1, h2, h3⟩ := hk
  rw [spec_ChanOk_e]
  simp only [spec_in, h1, h2, h3, bindO_some, ite_and]
  rfl
theorem impl_chan (c : TC) (h : FitC c) : Ev fun k => impl_ChanOk k c = some (chanV c) := by
  refine ((impl_words _ h.a c.1).and ((impl_waits _ h.b).and (impl_waits _ h.c))).mono fun k hk => ?_
  obtain ⟨h1, h2, h3⟩ := hk
  rw [impl_ChanOk_e]
  simp only [impl_in, h1, h2, h3, bindO_some, ite_and]
  unfold chanV
  cases decide (0 ≤ c.1 ∧ c.1 ≤ 8) <;> cases decide ((c.2.2.1.length : Int) ≤ c.1) <;> rfl
/-! Frames, bodies, worlds. -/
abbrev TF : Type := Int × Int × (List Int) × Int × Unit
abbrev dF : TF := Ty.dflt (.pair (.int .i64) (.pair (.int .i64) (.pair (.row (.int .i64)) (.pair (.int .i64) .unit))))
abbrev TB : Type := (List TF) × Bool × Bool × Int × Int × Int × Int × Int × Unit
abbrev TWo : Type := (List TU) × (List TB) × (List TC) × (List Int) × Bool × Int × Unit
def frameV (l : List TU) (f : TF) : Bool := decide (0 ≤ f.1 ∧ f.1 ≤ IntKind.wrap .i64 ((l.length : Int) - 1)) && (decide (0 ≤ f.2.1 ∧ f.2.1 ≤ IntKind.wrap .i64 (((l.getD f.1.toNat dU).2.2.2.1.length : Int) - 1)) && (((f.2.2.1.length : Int) == (l.getD f.1.toNat dU).2.2.1) && (f.2.2.1.all wok && decide (-1 ≤ f.2.2.2.1 ∧ f.2.2.2.1 ≤ 249))))
theorem frame_in {l : List TU} (hl : l.length ≤ 1048576) {f : TF} (h : 0 ≤ f.1 ∧ f.1 ≤ IntKind.wrap .i64 ((l.length : Int) - 1)) : f.1 < (l.length : Int) := by
  rw [wrap_id (by omega) (by omega)] at h; omega
theorem impl_dst (k : Nat) (x : Int) : impl_isDst k x = some (decide (-1 ≤ x ∧ x ≤ 249)) := by rw [impl_isDst_e, impl_in, bindO_some]
theorem impl_frame (l : List TU) (hl : l.length ≤ 1048576) (hr : ∀ u ∈ l, u.2.2.1 ≤ 250) (f : TF) (hf : f.2.2.1.length ≤ 1048576) : Ev fun k => impl_frameOk k l f = some (frameV l f) := by
  refine (impl_words _ hf 250).mono fun k hk => ?_
  rw [impl_frameOk_e, impl_in, bindO_some]
  unfold frameV
  by_cases c : 0 ≤ f.1 ∧ f.1 ≤ IntKind.wrap .i64 ((l.length : Int) - 1)
  · have c1 := frame_in hl c
    have hm := hr _ (getD_mem l dU c.1 c1)
    rw [decide_eq_true c, iteB_true, iteB_pos c.1, iteB_pos c1, impl_in, bindO_some, iteB_pos c.1, iteB_pos c1, hk, bindO_some, impl_dst, bindO_some]
    show iteB (decide (0 ≤ f.2.1 ∧ f.2.1 ≤ IntKind.wrap .i64 (((l.getD f.1.toNat dU).2.2.2.1.length : Int) - 1))) (iteB ((f.2.2.1.length : Int) == (l.getD f.1.toNat dU).2.2.1) _ _) _ = _
    by_cases e : (f.2.2.1.length : Int) = (l.getD f.1.toNat dU).2.2.1
    · have le : (f.2.2.1.length : Int) ≤ 250 := by omega
      rw [decide_eq_true le, cond_true]
      generalize ((f.2.2.1.length : Int) == (l.getD f.1.toNat dU).2.2.1) = A
      cases decide (0 ≤ f.2.1 ∧ f.2.1 ≤ IntKind.wrap .i64 (((l.getD f.1.toNat dU).2.2.2.1.length : Int) - 1)) <;> cases A <;> cases f.2.2.1.all wok <;> rfl
    · have : ((f.2.2.1.length : Int) == (l.getD f.1.toNat dU).2.2.1) = false := beq_eq_false_iff_ne.2 e
      rw [this]
      cases decide (0 ≤ f.2.1 ∧ f.2.1 ≤ IntKind.wrap .i64 (((l.getD f.1.toNat dU).2.2.2.1.length : Int) - 1)) <;> rfl
  · rw [decide_eq_false c]; rfl
structure FitB (b : TB) : Prop where
  a : b.1.length ≤ 1048576
  b : ∀ f ∈ b.1, f.2.2.1.length ≤ 1048576
def tailV (b : TB) : Bool := decide ((b.1.length : Int) ≤ 12) && ((b.2.1 || decide ((b.1.length : Int) > 0)) && (decide (0 ≤ b.2.2.2.1 ∧ b.2.2.2.1 ≤ 100000) && (decide (0 ≤ b.2.2.2.2.2.1 ∧ b.2.2.2.2.2.1 ≤ 100000) && (wok b.2.2.2.2.1 && (decide (-1 ≤ b.2.2.2.2.2.2.1 ∧ b.2.2.2.2.2.2.1 ≤ 249) && decide (-1 ≤ b.2.2.2.2.2.2.2.1 ∧ b.2.2.2.2.2.2.2.1 ≤ 249))))))
def bodyV (l : List TU) (b : TB) : Bool := b.1.all (frameV l) && tailV b
theorem allI_const {α : Type} (p : α → Bool) : ∀ (l : List α) (i : Int), allI (fun _ x => p x) l i = l.all p
  | [], _ => rfl
  | x :: r, i => by
    show (p x && allI (fun _ x => p x) r (i + 1)) = _
    rw [allI_const p r (i + 1), List.all_cons]
theorem spec_body (x : TWo) (hl : x.1.length ≤ 1048576) (b : TB) (hb : FitB b) : Ev fun k => spec_l13Body k x b = some (bodyV x.1 b) := by
  refine (all_idx b.1 dF (F := fun k f => spec_l3Words k f.2.2.1 = some (f.2.2.1.all wok)) (p := fun _ f => frameV x.1 f) (L := fun k n i => spec_l13Body.l2 k n i x b) (e := fun _ => some (tailV b)) (fun f m => spec_words _ (hb.b f m)) (Ev.of fun _ => rfl) (fun k n i hF g0 g1 => ?_) (fun k n i hi => ?_)).mono fun k h => ?_
  · show spec_l13Body.l2 k (n + 1) i x b = _
    have f1 := hF _ (getD_mem b.1 dF g0 g1)
    have hba := hb.a
    rw [spec_l13Body.l2_s, iteB_pos g1, iteB_pos g0, iteB_pos g1, next_i g0 g1 (by omega), spec_in, bindO_some]
    unfold frameV
    show iteB (!(!(decide (0 ≤ (b.1.getD i.toNat dF).1 ∧ (b.1.getD i.toNat dF).1 ≤ IntKind.wrap .i64 ((x.1.length : Int) - 1))))) (iteB (decide (0 ≤ (b.1.getD i.toNat dF).1)) (iteB (decide ((b.1.getD i.toNat dF).1 < (x.1.length : Int))) _ _) _) _ = _
    by_cases c : 0 ≤ (b.1.getD i.toNat dF).1 ∧ (b.1.getD i.toNat dF).1 ≤ IntKind.wrap .i64 ((x.1.length : Int) - 1)
    · have c1 := frame_in hl c
      rw [decide_eq_true c, Bool.not_true, Bool.not_false, iteB_true, iteB_pos c.1, iteB_pos c1, spec_in, bindO_some]
      show iteB (!(!(decide (0 ≤ (b.1.getD i.toNat dF).2.1 ∧ (b.1.getD i.toNat dF).2.1 ≤ IntKind.wrap .i64 (((x.1.getD (b.1.getD i.toNat dF).1.toNat dU).2.2.2.1.length : Int) - 1))))) (iteB (decide (0 ≤ (b.1.getD i.toNat dF).1)) (iteB (decide ((b.1.getD i.toNat dF).1 < (x.1.length : Int))) (iteB (!(((b.1.getD i.toNat dF).2.2.1.length : Int) != (x.1.getD (b.1.getD i.toNat dF).1.toNat dU).2.2.1)) (bindO (spec_l3Words k (b.1.getD i.toNat dF).2.2.1) fun r3 => iteB (!(!r3)) (bindO (spec_l1In k (b.1.getD i.toNat dF).2.2.2.1 (-1) 249) fun r4 => iteB (!r4) _ _) _) _) _) _) _ = _
      rw [iteB_pos c.1, iteB_pos c1, f1, bindO_some, spec_in, bindO_some, nne]
      generalize (((b.1.getD i.toNat dF).2.2.1.length : Int) == (x.1.getD (b.1.getD i.toNat dF).1.toNat dU).2.2.1) = A
      generalize decide (0 ≤ (b.1.getD i.toNat dF).2.1 ∧ (b.1.getD i.toNat dF).2.1 ≤ IntKind.wrap .i64 (((x.1.getD (b.1.getD i.toNat dF).1.toNat dU).2.2.2.1.length : Int) - 1)) = B
      generalize (b.1.getD i.toNat dF).2.2.1.all wok = C
      generalize decide (-1 ≤ (b.1.getD i.toNat dF).2.2.2.1 ∧ (b.1.getD i.toNat dF).2.2.2.1 ≤ 249) = D
      cases A <;> cases B <;> cases C <;> cases D <;> rfl
    · rw [decide_eq_false c]; rfl
  · show spec_l13Body.l2 k (n + 1) i x b = _
    rw [spec_l13Body.l2_s, iteB_neg (by omega)]
    simp only [spec_in, spec_wok, bindO_some, ite_and]
    unfold tailV
    cases decide ((b.1.length : Int) ≤ 12) <;> cases b.2.1 <;> cases decide ((b.1.length : Int) > 0) <;> rfl
  · rw [spec_l13Body_e]
    rw [allI_const] at h
    exact h
theorem impl_body (l : List TU) (hl : l.length ≤ 1048576) (hr : ∀ u ∈ l, u.2.2.1 ≤ 250) (b : TB) (hb : FitB b) : Ev fun k => impl_bodyOk k l b = some (bodyV l b) := by
  have hba := hb.a
  refine (contains_of (α := TF) (d := dF) (p := fun f => !frameV l f) (C := fun k f => impl_bodyOk_1_vbp k f l) (I := fun k xs => slices_IndexFunc_impl_Frame__impl_bodyOk_1 k xs l) (L := fun k n xs m i => slices_IndexFunc_impl_Frame__impl_bodyOk_1.l2 k n xs l m i) (S := fun k xs => slices_ContainsFunc_impl_Frame__impl_bodyOk_1 k xs l) (fun k n xs m i => slices_IndexFunc_impl_Frame__impl_bodyOk_1.l2_s k n xs l m i) (fun k xs => slices_IndexFunc_impl_Frame__impl_bodyOk_1_e k xs l) (fun k xs => slices_ContainsFunc_impl_Frame__impl_bodyOk_1_e k xs l) b.1 hb.a fun f m => (impl_frame l hl hr f (hb.b f m)).mono fun k h => by rw [impl_bodyOk_1_vbp_e, h, bindO_some]).mono fun k h => ?_
  rw [impl_bodyOk_e, h, bindO_some, any_not]
  simp only [impl_in, impl_wok, impl_dst, bindO_some, ite_and]
  unfold bodyV tailV
  cases b.1.all (frameV l) <;> cases decide ((b.1.length : Int) ≤ 12) <;> cases b.2.1 <;> cases decide ((b.1.length : Int) > 0) <;> rfl
structure FitW (x : TWo) : Prop where
  a : x.1.length ≤ 1048576
  b : ∀ u ∈ x.1, FitU u
  c : x.2.1.length ≤ 1048576
  d : ∀ y ∈ x.2.1, FitB y
  e : x.2.2.1.length ≤ 1048576
  f : ∀ y ∈ x.2.2.1, FitC y
  g : x.2.2.2.1.length ≤ 1048576
def unitsV (l : List TU) : Bool := allI (stepU l) l 0 && decide ((l.length : Int) ≤ 80)
theorem units_regs {l : List TU} (h : unitsV l = true) : ∀ u ∈ l, u.2.2.1 ≤ 250 := by
  have key : ∀ (r : List TU) (i : Int), allI (stepU l) r i = true → ∀ u ∈ r, u.2.2.1 ≤ 250 := by
    intro r
    induction r with
    | nil => intro i _ u hu; simp at hu
    | cons a r ih =>
      intro i h u hu
      have h' : (stepU l i a && allI (stepU l) r (i + 1)) = true := h
      rw [Bool.and_eq_true] at h'
      rcases List.mem_cons.1 hu with rfl | hu
      · have := h'.1
        unfold stepU unitV at this
        simp only [Bool.and_eq_true, decide_eq_true_eq] at this
        exact this.1.1.2
      · exact ih (i + 1) h'.2 u hu
  unfold unitsV at h
  rw [Bool.and_eq_true] at h
  exact key l 0 h.1
def worldV (x : TWo) : Bool := unitsV x.1 && (decide (1 ≤ (x.2.1.length : Int) ∧ (x.2.1.length : Int) ≤ 6) && (decide ((x.2.2.1.length : Int) ≤ 8) && (x.2.2.2.1.all wok && (wok x.2.2.2.2.2.1 && (x.2.1.all (bodyV x.1) && (x.2.2.1.all chanV && true))))))
abbrev dB : TB := Ty.dflt (.pair (.row (.pair (.int .i64) (.pair (.int .i64) (.pair (.row (.int .i64)) (.pair (.int .i64) .unit))))) (.pair .bool (.pair .bool (.pair (.int .i64) (.pair (.int .i64) (.pair (.int .i64) (.pair (.int .i64) (.pair (.int .i64) .unit))))))))
abbrev dC : TC := Ty.dflt (.pair (.int .i64) (.pair .bool (.pair (.row (.int .i64)) (.pair (.row (.pair (.int .i64) (.pair (.int .i64) (.pair (.int .i64) (.pair (.int .i64) .unit))))) (.pair (.row (.pair (.int .i64) (.pair (.int .i64) (.pair (.int .i64) (.pair (.int .i64) .unit))))) .unit)))))
theorem spec_world (x : TWo) (h : FitW x) : Ev fun k => spec_WorldOk k x = some (worldV x) := by
  have hb : Ev fun k => spec_WorldOk.l4 k k 0 x = some (x.2.1.all (bodyV x.1) && (x.2.2.1.all chanV && true)) := by
    refine all_rounds x.2.1 dB (f := fun k b => spec_l13Body k x b) (L := fun k n i => spec_WorldOk.l4 k n i x) (e := fun k => spec_WorldOk.l9 k k 0 x) (fun b m => spec_body x h.a b (h.d b m)) ?_ (fun k n i h0 h1 => ?_) (fun k n i hi => ?_)
    · refine all_rounds x.2.2.1 dC (f := fun k c => spec_ChanOk k c) (L := fun k n i => spec_WorldOk.l9 k n i x) (e := fun _ => some true) (fun c m => spec_chan c (h.f c m)) (Ev.of fun _ => rfl) (fun k n i h0 h1 => ?_) (fun k n i hi => ?_)
      · show spec_WorldOk.l9 k (n + 1) i x = _
        have := h.e
        rw [spec_WorldOk.l9_s, iteB_pos h1, iteB_pos h0, iteB_pos h1, next_i h0 h1 (by omega)]
      · show spec_WorldOk.l9 k (n + 1) i x = _
        rw [spec_WorldOk.l9_s, iteB_neg (by omega)]
    · show spec_WorldOk.l4 k (n + 1) i x = _
      have := h.c
      rw [spec_WorldOk.l4_s, iteB_pos h1, iteB_pos h0, iteB_pos h1, next_i h0 h1 (by omega)]
    · show spec_WorldOk.l4 k (n + 1) i x = _
      rw [spec_WorldOk.l4_s, iteB_neg (by omega)]
  refine (((spec_units x.1 h.a h.b).and (Ev.gt 0)).and (hb.and (spec_words x.2.2.2.1 h.g))).mono fun k hk => ?_
  obtain ⟨⟨h1, h0⟩, h2, h3⟩ := hk
  rw [spec_WorldOk_e, h1, bindO_some, gate_pos h0, spec_WorldOk.j3_e, h2]
  simp only [spec_in, spec_wok, h3, bindO_some, iteB_ss, ngt, Bool.not_not]
  unfold worldV unitsV
  congr 1
  generalize (x.2.1.all (bodyV x.1) && (x.2.2.1.all chanV && true)) = R
  generalize (allI (stepU x.1) x.1 0 && decide ((x.1.length : Int) ≤ 80)) = U
  generalize decide (1 ≤ (x.2.1.length : Int) ∧ (x.2.1.length : Int) ≤ 6) = d1
  generalize decide ((x.2.2.1.length : Int) ≤ 8) = d2
  generalize x.2.2.2.1.all wok = d3
  generalize wok x.2.2.2.2.2.1 = d4
  cases U <;> cases d1 <;> cases d2 <;> cases d3 <;> cases d4 <;> cases R <;> rfl
theorem impl_world (x : TWo) (h : FitW x) : Ev fun k => impl_WorldOk k x = some (worldV x) := by
  cases hu : unitsV x.1 with
  | false =>
    refine (impl_units x.1 h.a h.b).mono fun k h1 => ?_
    have h1' : impl_UnitsOk k x.1 = some (unitsV x.1) := h1
    rw [impl_WorldOk_e, h1', bindO_some, hu]
    unfold worldV
    rw [hu]; rfl
  | true =>
    have hr := units_regs hu
    have hc := h.c
    have he := h.e
    have e1 : Ev fun k => slices_ContainsFunc_impl_Body__impl_WorldOk_1 k x.2.1 x.1 x.2.1 x.2.2.1 x.2.2.2.1 x.2.2.2.2.1 x.2.2.2.2.2.1 = some (x.2.1.any fun b => !bodyV x.1 b) :=
      contains_of (α := TB) (d := dB) (p := fun b => !bodyV x.1 b) (C := fun k b => impl_WorldOk_1_vbp k b x.1 x.2.1 x.2.2.1 x.2.2.2.1 x.2.2.2.2.1 x.2.2.2.2.2.1) (I := fun k xs => slices_IndexFunc_impl_Body__impl_WorldOk_1 k xs x.1 x.2.1 x.2.2.1 x.2.2.2.1 x.2.2.2.2.1 x.2.2.2.2.2.1) (L := fun k n xs m i => slices_IndexFunc_impl_Body__impl_WorldOk_1.l2 k n xs x.1 x.2.1 x.2.2.1 x.2.2.2.1 x.2.2.2.2.1 x.2.2.2.2.2.1 m i) (S := fun k xs => slices_ContainsFunc_impl_Body__impl_WorldOk_1 k xs x.1 x.2.1 x.2.2.1 x.2.2.2.1 x.2.2.2.2.1 x.2.2.2.2.2.1) (fun k n xs m i => slices_IndexFunc_impl_Body__impl_WorldOk_1.l2_s k n xs _ _ _ _ _ _ m i) (fun k xs => slices_IndexFunc_impl_Body__impl_WorldOk_1_e k xs _ _ _ _ _ _) (fun k xs => slices_ContainsFunc_impl_Body__impl_WorldOk_1_e k xs _ _ _ _ _ _) x.2.1 h.c fun b m => (impl_body x.1 h.a hr b (h.d b m)).mono fun k q => by rw [impl_WorldOk_1_vbp_e, q, bindO_some]
    have e2 : Ev fun k => slices_ContainsFunc_impl_Chan__impl_WorldOk_2 k x.2.2.1 = some (x.2.2.1.any fun c => !chanV c) :=
      contains_of slices_IndexFunc_impl_Chan__impl_WorldOk_2.l2_s slices_IndexFunc_impl_Chan__impl_WorldOk_2_e slices_ContainsFunc_impl_Chan__impl_WorldOk_2_e x.2.2.1 h.e (p := fun c => !chanV c) fun c m => (impl_chan c (h.f c m)).mono fun k q => by rw [impl_WorldOk_2_e, q, bindO_some]
    refine (((impl_units x.1 h.a h.b).and (Ev.gt 0)).and ((e1.and e2).and (impl_words x.2.2.2.1 h.g (x.2.2.2.1.length : Int)))).mono fun k hk => ?_
    obtain ⟨⟨h1, h0⟩, ⟨h2, h3⟩, h4⟩ := hk
    have h1' : impl_UnitsOk k x.1 = some (unitsV x.1) := h1
    rw [impl_WorldOk_e, h1', bindO_some, h2, gate_pos h0, impl_WorldOk.j3_e, h3, h4]
    simp only [impl_in, impl_wok, bindO_some, iteB_ss, any_not, Bool.not_not]
    unfold worldV
    congr 1
    rw [hu, decide_eq_true (Int.le_refl (x.2.2.2.1.length : Int)), cond_true]
    generalize x.2.1.all (bodyV x.1) = R
    generalize x.2.2.1.all chanV = S
    generalize decide (1 ≤ (x.2.1.length : Int) ∧ (x.2.1.length : Int) ≤ 6) = d1
    generalize decide ((x.2.2.1.length : Int) ≤ 8) = d2
    generalize x.2.2.2.1.all wok = d3
    generalize wok x.2.2.2.2.2.1 = d4
    cases d1 <;> cases d2 <;> cases d3 <;> cases d4 <;> cases R <;> cases S <;> rfl

/-! Which of a row are so: the places. -/
def pickI {α : Type} (p : α → Bool) : List α → Int → List Int
  | [], _ => []
  | b :: r, i => bif p b then i :: pickI p r (i + 1) else pickI p r (i + 1)
theorem gather {α : Type} (xs : List α) (d : α) {p : α → Bool} {A : Nat → Int → Option (List Int)} {B : Nat → Int → List Int → Option (List Int)}
    (hA : ∀ n i, 0 ≤ i → i < (xs.length : Int) → A (n + 1) i = bif p (xs.getD i.toNat d) then B n (i + 1) ([] ++ [i]) else A n (i + 1))
    (hA0 : ∀ n i, (xs.length : Int) ≤ i → A (n + 1) i = some [])
    (hB : ∀ n i s, 0 ≤ i → i < (xs.length : Int) → (s.length : Int) ≤ i → B (n + 1) i s = bif p (xs.getD i.toNat d) then B n (i + 1) (s ++ [i]) else B n (i + 1) s)
    (hB0 : ∀ n i s, (xs.length : Int) ≤ i → B (n + 1) i s = some s) (n : Nat) (hn : xs.length < n) : A n 0 = some (pickI p xs 0) := by
  have keyB : ∀ (m : Nat) (i : Int) (s : List Int) (q : Nat), 0 ≤ i → (xs.length : Int) - i = m → m < q → (s.length : Int) ≤ i → B q i s = some (s ++ pickI p (xs.drop i.toNat) i) := by
    intro m
    induction m with
    | zero =>
      intro i s q hi hm hq hs
      obtain ⟨q, rfl⟩ : ∃ p, q = p + 1 := ⟨q - 1, by omega⟩
      rw [hB0 q i s (by omega), List.drop_eq_nil_of_le (by omega)]; simp [pickI]
    | succ m ih =>
      intro i s q hi hm hq hs
      obtain ⟨q, rfl⟩ : ∃ p, q = p + 1 := ⟨q - 1, by omega⟩
      have hlt : i < (xs.length : Int) := by omega
      rw [hB q i s hi hlt hs, drop_at xs d i hi hlt]
      unfold pickI
      cases p (xs.getD i.toNat d)
      · exact ih (i + 1) s q (by omega) (by omega) (by omega) (by omega)
      · have := ih (i + 1) (s ++ [i]) q (by omega) (by omega) (by omega) (by simp; omega)
        rw [List.append_assoc] at this
        exact this
  have keyA : ∀ (m : Nat) (i : Int) (q : Nat), 0 ≤ i → (xs.length : Int) - i = m → m < q → A q i = some (pickI p (xs.drop i.toNat) i) := by
    intro m
    induction m with
    | zero =>
      intro i q hi hm hq
      obtain ⟨q, rfl⟩ : ∃ p, q = p + 1 := ⟨q - 1, by omega⟩
      rw [hA0 q i (by omega), List.drop_eq_nil_of_le (by omega)]; simp [pickI]
    | succ m ih =>
      intro i q hi hm hq
      obtain ⟨q, rfl⟩ : ∃ p, q = p + 1 := ⟨q - 1, by omega⟩
      have hlt : i < (xs.length : Int) := by omega
      rw [hA q i hi hlt, drop_at xs d i hi hlt]
      unfold pickI
      cases hp : p (xs.getD i.toNat d)
      · exact ih (i + 1) q (by omega) (by omega) (by omega)
      · exact keyB m (i + 1) ([] ++ [i]) q (by omega) (by omega) (by omega) (by simp; omega)
  exact keyA xs.length 0 n (by omega) (by omega) hn
theorem pickI_len {α : Type} (p : α → Bool) : ∀ (xs : List α) (i : Int), (pickI p xs i).length ≤ xs.length
  | [], _ => by simp [pickI]
  | x :: r, i => by
    unfold pickI
    have := pickI_len p r (i + 1)
    cases p x
    · show (pickI p r (i + 1)).length ≤ _; simp; omega
    · show (i :: pickI p r (i + 1)).length ≤ _; simp; omega
/-! Which bodies of a world are open. -/
def opn (o : Bool) (b : TB) : Bool := !o && (!b.2.1 && !b.2.2.1)
theorem spec_opn (k : Nat) (x : TWo) (hl : x.2.1.length ≤ 1048576) (i : Int) (h0 : 0 ≤ i) (h1 : i < (x.2.1.length : Int)) : spec_l13Open k x i = some (opn x.2.2.2.2.1 (x.2.1.getD i.toNat dB)) := by
  rw [spec_l13Open_e, spec_in, bindO_some, wrap_id (by omega) (by omega), iteB_pos h0, iteB_pos h1]
  have : decide (0 ≤ i ∧ i ≤ (x.2.1.length : Int) - 1) = true := by simp; omega
  rw [this, iteB_true, iteB_pos h0, iteB_pos h1]
  unfold opn
  generalize hb : x.2.1.getD i.toNat dB = b
  cases x.2.2.2.2.1 <;> cases b.2.1 <;> rfl
theorem spec_open (x : TWo) (hl : x.2.1.length ≤ 1048576) : Ev fun k => spec_Open k x = some (pickI (opn x.2.2.2.2.1) x.2.1 0) := by
  refine (Ev.gt x.2.1.length).mono fun k hk => ?_
  rw [spec_Open_e]
  refine gather x.2.1 dB (A := fun n i => spec_Open.l3 k n i x) (B := fun n i s => spec_Open.l3b k n i x s) (fun n i h0 h1 => ?_) (fun n i h => ?_) (fun n i s h0 h1 hs => ?_) (fun n i s h => ?_) k hk
  · show spec_Open.l3 k (n + 1) i x = _
    rw [spec_Open.l3_s, iteB_pos h1, spec_opn k x hl i h0 h1, bindO_some, next_i h0 h1 (by omega), iteB_pos (show List.length ([] ++ [i]) * 8 ≤ lim by unfold lim; simp)]
    cases opn x.2.2.2.2.1 (x.2.1.getD i.toNat dB) <;> rfl
  · show spec_Open.l3 k (n + 1) i x = _
    rw [spec_Open.l3_s, iteB_neg (by omega)]
  · show spec_Open.l3b k (n + 1) i x s = _
    rw [spec_Open.l3b_s, iteB_pos h1, spec_opn k x hl i h0 h1, bindO_some, next_i h0 h1 (by omega), iteB_pos (show List.length (s ++ [i]) * 8 ≤ lim by unfold lim; simp; omega)]
    cases opn x.2.2.2.2.1 (x.2.1.getD i.toNat dB) <;> rfl
  · show spec_Open.l3b k (n + 1) i x s = _
    rw [spec_Open.l3b_s, iteB_neg (by omega)]
theorem impl_open (x : TWo) (hl : x.2.1.length ≤ 1048576) : Ev fun k => impl_Open k x = some (pickI (opn x.2.2.2.2.1) x.2.1 0) := by
  refine (Ev.gt x.2.1.length).mono fun k hk => ?_
  rw [impl_Open_e]
  refine gather x.2.1 dB (A := fun n i => impl_Open.l3 k n x.2.1 (x.2.1.length : Int) i x) (B := fun n i s => impl_Open.l3b k n x.2.1 (x.2.1.length : Int) i x s) (fun n i h0 h1 => ?_) (fun n i h => ?_) (fun n i s h0 h1 hs => ?_) (fun n i s h => ?_) k hk
  · show impl_Open.l3 k (n + 1) x.2.1 (x.2.1.length : Int) i x = _
    rw [impl_Open.l3_s, iteB_pos h1, iteB_pos h0, iteB_pos h1, next_i h0 h1 (by omega), iteB_pos (show List.length ([] ++ [i]) * 8 ≤ lim by unfold lim; simp)]
    unfold opn
    generalize hb : x.2.1.getD i.toNat dB = b
    cases x.2.2.2.2.1 <;> cases b.2.1 <;> cases b.2.2.1 <;> rfl
  · show impl_Open.l3 k (n + 1) x.2.1 (x.2.1.length : Int) i x = _
    rw [impl_Open.l3_s, iteB_neg (by omega)]
  · show impl_Open.l3b k (n + 1) x.2.1 (x.2.1.length : Int) i x s = _
    rw [impl_Open.l3b_s, iteB_pos h1, iteB_pos h0, iteB_pos h1, next_i h0 h1 (by omega), iteB_pos (show List.length (s ++ [i]) * 8 ≤ lim by unfold lim; simp; omega)]
    unfold opn
    generalize hb : x.2.1.getD i.toNat dB = b
    cases x.2.2.2.2.1 <;> cases b.2.1 <;> cases b.2.2.1 <;> rfl
  · show impl_Open.l3b k (n + 1) x.2.1 (x.2.1.length : Int) i x s = _
    rw [impl_Open.l3b_s, iteB_neg (by omega)]

def stuckV (x : TWo) : Bool := bif worldV x then (bif !x.2.2.2.2.1 then (((pickI (opn x.2.2.2.2.1) x.2.1 0).length : Int) == 0) else false) else false
theorem spec_stuck (x : TWo) (h : FitW x) : Ev fun k => spec_Stuck k x = some (stuckV x) := by
  refine (spec_world x h).two (spec_open x h.c) fun k h1 h2 => ?_
  rw [spec_Stuck_e, h1, bindO_some, h2, bindO_some, iteB_ss, iteB_ss]; rfl
theorem impl_stuck (x : TWo) (h : FitW x) : Ev fun k => impl_Stuck k x = some (stuckV x) := by
  refine (impl_world x h).two (impl_open x h.c) fun k h1 h2 => ?_
  rw [impl_Stuck_e, h1, bindO_some, h2, bindO_some, iteB_ss, iteB_ss]; rfl
theorem FnExactStuck : ∀ (x0 : TWo), WfT (.pair (.row (.pair .str (.pair (.int .i64) (.pair (.int .i64) (.pair (.row (.pair (.int .i64) (.pair (.int .i64) (.pair (.int .i64) (.pair (.int .i64) (.pair (.int .i64) (.pair .str (.pair (.row (.int .i64)) .unit)))))))) .unit))))) (.pair (.row (.pair (.row (.pair (.int .i64) (.pair (.int .i64) (.pair (.row (.int .i64)) (.pair (.int .i64) .unit))))) (.pair .bool (.pair .bool (.pair (.int .i64) (.pair (.int .i64) (.pair (.int .i64) (.pair (.int .i64) (.pair (.int .i64) .unit))))))))) (.pair (.row (.pair (.int .i64) (.pair .bool (.pair (.row (.int .i64)) (.pair (.row (.pair (.int .i64) (.pair (.int .i64) (.pair (.int .i64) (.pair (.int .i64) .unit))))) (.pair (.row (.pair (.int .i64) (.pair (.int .i64) (.pair (.int .i64) (.pair (.int .i64) .unit))))) .unit)))))) (.pair (.row (.int .i64)) (.pair .bool (.pair (.int .i64) .unit)))))) x0 → ∃ k, laws_FnExactStuck k x0 = some true := by
  intro x hx
  refine Ev.get ?_
  obtain ⟨r, ev, le, fit⟩ := szWorld_ok x hx 1048576 (by omega) (by omega)
  by_cases c : r < 0
  · exact ev.mono fun k h => by
      replace h : laws_szWorld k x 1048576 = some r := h
      rw [laws_FnExactStuck_e, h, bindO_some, iteB_pos c]
  · have hf := fit (by omega)
    have hs : FitW x := ⟨hf.1.1, fun u m => ⟨(hf.1.2 u m).2.2.2.1.1, fun t mt => ((hf.1.2 u m).2.2.2.1.2 t mt).2.2.2.2.2.2.1.1⟩, hf.2.1.1, fun y m => ⟨(hf.2.1.2 y m).1.1, fun f mf => ((hf.2.1.2 y m).1.2 f mf).2.2.1.1⟩, hf.2.2.1.1, fun y m => ⟨(hf.2.2.1.2 y m).2.2.1.1, (hf.2.2.1.2 y m).2.2.2.1.1, (hf.2.2.1.2 y m).2.2.2.2.1.1⟩, hf.2.2.2.1.1⟩
    refine (ev.and (toWorld_ok x hf)).two (((spec_stuck x hs).and (impl_stuck x hs)).and (eqWorld_ok x hf)) fun k h1 h2 => ?_
    obtain ⟨a1, a2⟩ := h1
    obtain ⟨⟨a3, a4⟩, a5⟩ := h2
    have a6 : (!(stuckV x == stuckV x)) = false := by simp
    replace a1 : laws_szWorld k x 1048576 = some r := a1
    replace a2 : laws_toWorld k x = some x := a2
    replace a5 : laws_eqWorld k x x = some true := a5
    rw [laws_FnExactStuck_e, a1, bindO_some, iteB_neg c, a2, bindO_some, a3, bindO_some, bindO_some, a4, bindO_some, a6, iteB_false, bindO_some, a5]
    rfl

end Go.Proofs.YtcjpjgfjagfjjaaGreat.Pure
