/- An interpreter of the model's code over values that are told, and its soundness. -/
import Derived.Test.YteojdaobpjhddaaAS27
namespace Go.AM

/-! By value: what a state's rows hold, from now on unchanged. -/
/-- The frame in which all rows that are told stay as they are. -/
def Ctx.still (c : Ctx) : Ctx := ⟨fun _ => none, fun _ => False, fun b => c.pr b ∨ ∃ id, ¬ c.dead id ∧ c.at id b, c.w, fun _ _ => False⟩

theorem still_keeps (c : Ctx) : Keeps c.pr c.still.pr c.w c.still.w := ⟨fun _ h => .inl h, fun _ _ => rfl⟩

theorem deref_reps {c c2 : Ctx} {f : AV → AV} (hf : ∀ a v, VRep c a v → VRep c2 (f a) v) : ∀ {as : List AV} {vs : List Value}, VReps c as vs → VReps c2 (as.map f) vs := ren_reps hf

theorem deref_rep {c : Ctx} {h : Heap} (hs : Sim c h) : ∀ (d : Nat) (a : AV) (v : Value), VRep c a v → VRep c.still (deref h d a) v
  | 0, a, v, _ => by simp [deref, VRep]
  | d + 1, a, v, hr => by
    cases a with
    | undef => simp [deref, VRep]
    | int k n => simpa [deref, VRep] using hr
    | bool b => simpa [deref, VRep] using hr
    | str s => simpa [deref, VRep] using hr
    | nilp => simpa [deref, VRep] using hr
    | nils => simpa [deref, VRep] using hr
    | fn f cs =>
      simp only [deref, VRep] at hr ⊢
      obtain ⟨ws, hv, hc⟩ := hr
      exact ⟨ws, hv, deref_reps (deref_rep hs d) hc⟩
    | agg cs =>
      simp only [deref, VRep] at hr ⊢
      obtain ⟨ws, hv, hc⟩ := hr
      exact ⟨ws, hv, deref_reps (deref_rep hs d) hc⟩
    | tup cs =>
      simp only [deref, VRep] at hr ⊢
      obtain ⟨ws, hv, hc⟩ := hr
      exact ⟨ws, hv, deref_reps (deref_rep hs d) hc⟩
    | tv t x => simp only [deref, VRep] at hr ⊢; exact hr.mono (still_keeps c)
    | tp t x sub =>
      simp only [deref, VRep] at hr ⊢
      obtain ⟨b, o, vs, hv, hp, hl, hlies, hc⟩ := hr
      exact ⟨b, o, vs, hv, .inl hp, hl, hlies, hc.mono (still_keeps c)⟩
    | bp cs sub =>
      simp only [deref, VRep] at hr ⊢
      obtain ⟨b, o, ws, hv, hp, hlies, hc⟩ := hr
      exact ⟨b, o, ws, hv, .inl hp, hlies, deref_reps (deref_rep hs d) hc⟩
    | sl id =>
      simp only [deref]
      split
      · rename_i e xs fl hob
        simp only [VRep, slRep] at hr
        have hd := hs.alive hob
        obtain ⟨i, hi, hr⟩ := hr.2.resolve_left hd
        have rep := hs.rep hob hi
        have hcont := rep.cont
        have hlen := rep.len
        have hes := rep.es
        simp only [contRep] at hcont
        simp only [Cont.len] at hlen
        simp only [Cont.es] at hes
        refine VRep.of_row ?_
        rcases hr with ⟨hloc, cap, n, hv, hle, _⟩ | ⟨_, h0, A, hv⟩
        · refine ⟨_, cap, by rw [hv, hlen], by omega, by simp, fun _ => ⟨i.b, i.base, rfl, .inr ⟨id, hd, .inr ⟨i, hi, hloc, rfl⟩⟩, fun j y hj => ?_⟩⟩
          obtain ⟨vs, q1, q2, q3⟩ := hcont j y hj
          exact ⟨vs, q1, q2, q3.mono (still_keeps c)⟩
        · have hx0 : xs.length = 0 := by omega
          exact ⟨A, 0, by rw [hv, hx0], by omega, fun _ => rfl, fun hne => absurd (List.eq_nil_of_length_eq_zero hx0) hne⟩
      · rename_i fx e xs fl hob
        simp only [VRep, slRep] at hr
        have hd := hs.alive hob
        obtain ⟨i, hi, hr⟩ := hr.2.resolve_left hd
        have rep := hs.rep hob hi
        have hlen : i.len = List.length xs := rep.len
        refine VRep.of_row ?_
        rcases hr with ⟨hloc, cap, n, hv, hle, _⟩ | ⟨_, h0, A, hv⟩
        · obtain ⟨G, h1, _, h3⟩ := (hs.deep id i fx e xs fl (hget_lt hob) hi hd hob).row
          refine ⟨_, cap, by rw [hv, hlen], by omega, by simp, fun _ => ⟨i.b, i.base, rfl, .inr ⟨id, hd, .inr ⟨i, hi, hloc, rfl⟩⟩, fun j y hj => ?_⟩⟩
          obtain ⟨vs, q1, q2, q3⟩ := h3 j y hj
          exact ⟨vs, q1, q2, q3.cells fun k hk => .inr ⟨id, hd, .inl (h1 j k hk).1⟩⟩
        · have hx0 : List.length xs = 0 := by omega
          exact ⟨A, 0, by rw [hv, hx0], by omega, fun _ => rfl, fun hne => absurd (List.eq_nil_of_length_eq_zero hx0) hne⟩
      · simp [VRep]
    | dp id i j => simp [deref, VRep]
    | ss id off n =>
      simp only [deref]
      split
      · rename_i e xs fl hob
        simp only [VRep, ssRep] at hr
        have hd := hs.alive hob
        obtain ⟨i, hi, hon, hr⟩ := hr.2.resolve_left hd
        have rep := hs.rep hob hi
        have hcont := rep.cont
        have hlen := rep.len
        have hes := rep.es
        simp only [contRep] at hcont
        simp only [Cont.len] at hlen
        simp only [Cont.es] at hes
        have hl : (List.take n (List.drop off xs)).length = n := by simp; omega
        refine VRep.of_row ?_
        rcases hr with ⟨hloc, cap, m, hv, hle, _⟩ | ⟨h0, A, hv⟩
        · refine ⟨_, cap, by rw [hv, hl], by omega, by simp, fun _ => ⟨i.b, i.base + off * i.es, rfl, .inr ⟨id, hd, .inr ⟨i, hi, hloc, rfl⟩⟩, fun j y hj => ?_⟩⟩
          rw [List.getElem?_take] at hj
          split at hj
          · rw [List.getElem?_drop] at hj
            obtain ⟨vs, q1, q2, q3⟩ := hcont _ y hj
            refine ⟨vs, q1, ?_, q3.mono (still_keeps c)⟩
            rw [Nat.add_mul, ← Nat.add_assoc] at q2
            rw [hes]; exact q2
          · cases hj
        · exact ⟨A, 0, by rw [hv, hl, h0], by omega, fun _ => rfl, fun hne => absurd (List.eq_nil_of_length_eq_zero (by rw [hl, h0])) hne⟩
      · simp [VRep]
    | ptr id idx sub =>
      simp only [deref]
      split
      · rename_i e xs fl hob
        simp only [VRep, ptrRep] at hr
        have hd := hs.alive hob
        obtain ⟨i, hi, hix, hv⟩ := hr.2.resolve_left hd
        have rep := hs.rep hob hi
        have hcont := rep.cont
        have hlen := rep.len
        have hes := rep.es
        simp only [contRep] at hcont
        simp only [Cont.len] at hlen
        simp only [Cont.es] at hes
        have hlt : idx < xs.length := by omega
        have hx : xs[idx]? = some xs[idx] := List.getElem?_eq_getElem hlt
        obtain ⟨vs, q1, q2, q3⟩ := hcont idx _ hx
        have hgd : xs.getD idx e.dflt = xs[idx] := by rw [List.getD_eq_getElem?_getD, hx]; rfl
        simp only [VRep]
        rw [hgd]
        exact ⟨i.b, i.base + idx * e.size, vs, by rw [hv, hes], .inr ⟨id, hd, .inr ⟨i, hi, rep.loc (by omega), rfl⟩⟩, q1, q2, q3.mono (still_keeps c)⟩
      · rename_i a es z xs fl hob
        simp only [VRep, ptrRep] at hr
        have hd := hs.alive hob
        obtain ⟨i, hi, hix, hv⟩ := hr.2.resolve_left hd
        have rep := hs.rep hob hi
        have hcont := rep.cont
        have hlen := rep.len
        have hes := rep.es
        simp only [contRep] at hcont
        simp only [Cont.len] at hlen
        simp only [Cont.es] at hes
        obtain ⟨_, _, hcont⟩ := hcont
        have hlt : idx < xs.length := by omega
        have hx : xs[idx]? = some xs[idx] := List.getElem?_eq_getElem hlt
        obtain ⟨_, _, vs, q1, q2, q3, _⟩ := hcont idx _ hx
        have hgd : xs.getD idx z = xs[idx] := by rw [List.getD_eq_getElem?_getD, hx]; rfl
        simp only [VRep]
        rw [hgd]
        exact ⟨i.b, i.base + idx * es, vs, by rw [hv, hes], .inr ⟨id, hd, .inr ⟨i, hi, rep.loc (by omega), rfl⟩⟩, q2, deref_reps (deref_rep hs d) q3⟩
      · simp [VRep]
end Go.AM
