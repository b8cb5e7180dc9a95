/- An interpreter of the model's code over values that are told, and its soundness. -/
import Derived.Test.YteojdaobpjhddaaAS42
namespace Go.AM

/-- A library function of a text and a byte that leaves the world as it was. -/
theorem law_index {P : Program} {f : FuncId} (hent : Enters P f) {g : ByteArray → Int → Int}
    (hs : ∀ (s : ByteArray) (c : Int) (w : World), Calls P f #[.string s, .int .u8 c] w fun e w' => e = .returned (.int .i64 (g s c)) ∧ w' = w)
    (s : ByteArray) (c : Int) : LawV P f [.str s, .int .u8 c] (.int .i64 (g s c)) := by
  refine ⟨hent, fun pr w vs hp hr => ?_⟩
  obtain ⟨l⟩ := vs
  match l, hr with
  | [a, b], hr =>
    simp only [VReps, VRep, and_true] at hr
    obtain ⟨rfl, rfl⟩ := hr
    refine (hs s c w).mono ?_
    rintro e w' ⟨rfl, hw⟩
    have hw' := hw.symm
    subst hw'
    exact ⟨_, pr, rfl, by simp [VRep], fun _ h => h, fun _ h => .inl h, hp, Nat.le_refl _, fun _ _ => rfl, rfl, rfl, rfl⟩
  | [], hr => simp [VReps] at hr
  | [_], hr => simp [VReps] at hr
  | _ :: _ :: _ :: _, hr => simp [VReps] at hr
end Go.AM
