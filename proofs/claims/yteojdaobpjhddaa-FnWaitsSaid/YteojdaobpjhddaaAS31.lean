/- An interpreter of the model's code over values that are told, and its soundness. -/
import Derived.Test.YteojdaobpjhddaaAS30
namespace Go.AM

/-! Models that read their args as of types. -/
/-- What is told by the one is told by the other. -/
def Reads (a b : AV) : Prop := ∀ (c : Ctx) (v : Value), VRep c a v → VRep c b v
def ReadsL (as bs : List AV) : Prop := ∀ (c : Ctx) (vs : List Value), VReps c as vs → VReps c bs vs

theorem Reads.refl (a : AV) : Reads a a := fun _ _ h => h
theorem Reads.as {t : Ty} {a : AV} {x : t.C} (h : a.as t = some x) : Reads a (tvn t x) := fun _ _ hr => as_rep h hr
theorem ReadsL.nil : ReadsL [] [] := fun _ _ h => h
theorem ReadsL.cons {a b : AV} {as bs : List AV} (h : Reads a b) (h' : ReadsL as bs) : ReadsL (a :: as) (b :: bs) := fun c vs hr => by
  cases vs with
  | nil => simp [VReps] at hr
  | cons v vs => simp only [VReps] at hr ⊢; exact ⟨h c v hr.1, h' c vs hr.2⟩
theorem Reads.fn {f : FuncId} {as bs : List AV} (h : ReadsL as bs) : Reads (.fn f as) (.fn f bs) := fun c v hr => by
  simp only [VRep] at hr ⊢
  obtain ⟨ws, hv, hr⟩ := hr
  exact ⟨ws, hv, h c _ hr⟩
theorem Reads.bp {as bs : List AV} {j : Nat} (h : ReadsL as bs) : Reads (.bp as j) (.bp bs j) := fun c v hr => by
  simp only [VRep] at hr ⊢
  obtain ⟨b, o, ws, hv, hp, hl, hr⟩ := hr
  exact ⟨b, o, ws, hv, hp, hl, h c _ hr⟩

theorem LawV.reads {P : Program} {f : FuncId} {as bs : List AV} {v : AV} (h : ReadsL as bs) (l : LawV P f bs v) : LawV P f as v :=
  ⟨l.1, fun pr w vs hp hr => l.2 pr w vs hp (h _ _ hr)⟩
end Go.AM
