/- An interpreter of the model's code over values that are told, and its soundness. -/
import Derived.Test.YtajlenpookikoaaAS38
import Derived.Sort.Grow
namespace Go.AM
open Go.Sort

/-! The library's sort and its like, by the kit's contracts. -/
theorem only_putRow {α : Type} [Inhabited α] (enc : α → Value) (w : World) (b o : Nat) (d : Array α) : Only w (putRow enc w b o d) b := by
  refine ⟨size_putRow enc w b o d, fun k hk => ?_, fun n hb => ?_, rfl, rfl, rfl⟩
  · simp only [putRow, mapBlock]
    rw [Array.getElem?_modify]
    simp [Ne.symm hk]
  · obtain ⟨C, T, fr, h1, h2, h3⟩ := hb
    refine ⟨putCells enc o d C, T, fr, ?_, by simp [putCells, h2], fun i hi => by rw [frozen?_putRow]; exact h3 i hi⟩
    simp only [putRow, mapBlock]
    rw [Array.getElem?_modify]
    simp [h1, onCells]

theorem holds_of {c : Ctx} {i : Info} {xs : List Int} {f : Bool} (hrep : ObjRep c i ⟨.typed (.int .i64) xs, f⟩) (hl : i.loc = true) : Holds (Value.int .i64) c.w i.b i.base xs.toArray := by
  intro j hj
  have hj' : j < xs.length := by simpa using hj
  obtain ⟨us, u1, u2, u3⟩ := hrep.cont j xs[j] (List.getElem?_eq_getElem hj')
  obtain ⟨n, hb, hn⟩ := hrep.blk hl
  have hlen : i.len = xs.length := hrep.len
  have hes : i.es = 1 := hrep.es
  simp only [CellsRep] at u3
  subst u3
  refine ⟨?_, hb.frozen (by rw [hlen, hes] at hn; omega)⟩
  have := u2 0 (.int .i64 xs[j]) rfl
  simp only [Ty.size, Nat.mul_one, Nat.add_zero] at this
  rw [← cellAt, this]
  congr 1
  simp [hj']

theorem rep_of {c c' : Ctx} {i : Info} {xs ys : List Int} {f : Bool} (hrep : ObjRep c i ⟨.typed (.int .i64) xs, f⟩) (hl : ys.length = xs.length) (hb : ∀ n, Blk c.w i.b n → Blk c'.w i.b n) (hH : i.loc = true → Holds (Value.int .i64) c'.w i.b i.base ys.toArray) : ObjRep c' i ⟨.typed (.int .i64) ys, f⟩ := by
  refine ⟨by rw [hrep.len]; exact hl.symm, hrep.es, hrep.pos, hrep.full, hrep.loc, fun hl => ?_, fun j y hj => ?_⟩
  · obtain ⟨n, h1, h2⟩ := hrep.blk hl; exact ⟨n, hb n h1, h2⟩
  · have hlen : i.len = xs.length := hrep.len
    have hj' : j < ys.length := (List.getElem?_eq_some_iff.1 hj).1
    have hloc := hrep.loc (by omega)
    refine ⟨[.int .i64 y], rfl, fun k v hk => ?_, rfl⟩
    cases k with
    | succ k => simp at hk
    | zero =>
      simp only [List.getElem?_cons_zero, Option.some.injEq] at hk
      subst hk
      have := (hH hloc j (by simpa using hj')).1
      simp only [Ty.size, Nat.mul_one, Nat.add_zero]
      rw [cellAt, this]
      congr 1
      have e : ys[j] = y := (List.getElem?_eq_some_iff.1 hj).2
      simp [hj', e]

/-- The sort of a row of words. -/
theorem law_sort {P : Program} {f : FuncId} (hent : Enters P f)
    (hs : ∀ (blk off cap : Nat) (zs : List Int) (w : World), Holds (Value.int .i64) w blk off zs.toArray → blk < w.heap.size → zs.length < 4611686018427387904 → Calls P f #[.slice (some ⟨blk, off, none⟩) zs.length cap] w fun e w' =>
      e = .returned (.tuple #[]) ∧ ∃ n os, w' = grow (putRow (Value.int .i64) (Sort.ahead w n) blk off (zs.mergeSort fun x y => decide (x ≤ y)).toArray) os)
    (h0 : ∀ (p : Option Addr) (cap : Nat) (w : World), Calls P f #[.slice p 0 cap] w fun e w' => e = .returned (.tuple #[]) ∧ w' = w)
    (xs : List Int) (hx : xs.length < 4611686018427387904) : LawM P f [] (.int .i64) xs (.tup []) (xs.mergeSort fun x y => decide (x ≤ y)) := by
  refine ⟨hent, fun pr w i vs hp hrep hi hr => ?_⟩
  have hlen : i.len = xs.length := hrep.len
  have hes : i.es = 1 := hrep.es
  obtain ⟨v, hvs, hv⟩ : ∃ v, vs = #[v] ∧ VRep (alone pr w i) (.sl 0) v := by
    cases hl : vs.toList with
    | nil => rw [hl] at hr; simp [VReps] at hr
    | cons v l =>
      rw [hl] at hr
      cases l with
      | nil => simp only [VReps, and_true] at hr; exact ⟨v, by cases vs; simp_all, hr⟩
      | cons _ _ => simp [VReps] at hr
  subst hvs
  simp only [VRep, slRep] at hv
  obtain ⟨j, hj, hcase⟩ := hv.2.resolve_left (fun h => h)
  simp only [alone, if_true, Option.some.injEq] at hj
  subst hj
  rcases hcase with ⟨hloc, cap, n, rfl, hle, hblk, hbn, _⟩ | ⟨hloc, hl0, a, rfl⟩
  · rw [hlen]
    have hH := holds_of hrep hloc
    refine (hs i.b i.base cap xs w hH (hi hloc).1 hx).mono ?_
    rintro en w' ⟨rfl, m, os, rfl⟩
    have only := only_putRow (Value.int .i64) (Sort.ahead w m) i.b i.base (xs.mergeSort fun x y => decide (x ≤ y)).toArray
    have hsz : (putRow (Value.int .i64) (Sort.ahead w m) i.b i.base (xs.mergeSort fun x y => decide (x ≤ y)).toArray).heap.size = w.heap.size := only.size
    have hbl : ∀ b n, Blk w b n → Blk (grow (putRow (Value.int .i64) (Sort.ahead w m) i.b i.base (xs.mergeSort fun x y => decide (x ≤ y)).toArray) os) b n := fun b n hb => by
      have hlt : b < w.heap.size := by obtain ⟨_, _, _, h1, _⟩ := hb; exact (Array.getElem?_eq_some_iff.1 h1).1
      exact (only.blk b n hb).of_block (heap_grow_old _ _ (by rw [hsz]; exact hlt))
    refine ⟨.tuple #[], pr, rfl, by simp only [VRep]; exact ⟨#[], rfl, by simp [VReps]⟩, rep_of (c := alone pr w i) hrep (List.length_mergeSort xs) (fun n hb => hbl _ n hb) (fun _ => ?_), fun hl => (hi hl).2, fun _ h => h, fun _ h => .inl h, fun b hb => ?_, ?_, fun b hb hn => ?_, hbl, rfl, rfl, rfl⟩
    · exact holds_grow _ _ _ _ _ _ (by rw [hsz]; exact (hi hloc).1) (holds_putRow _ _ _ _ _ _ (holds_ahead _ _ _ _ _ _ hH) (by simp [List.length_mergeSort]))
    · rw [size_grow, hsz]; have := hp b hb; omega
    · rw [size_grow, hsz]; omega
    · rw [heap_grow_old _ _ (by rw [hsz]; exact hb)]; exact only.other b (fun e => hn hloc e.symm)
  · have hx0 : xs = [] := List.eq_nil_of_length_eq_zero (by omega)
    subst hx0
    refine (h0 a 0 w).mono ?_
    rintro en w' ⟨rfl, hw⟩
    have hw' := hw.symm
    subst hw'
    exact ⟨.tuple #[], pr, rfl, by simp only [VRep]; exact ⟨#[], rfl, by simp [VReps]⟩, rep_of (c := alone pr w i) hrep (by simp) (fun _ h => h) (fun h => by rw [hloc] at h; cases h), fun hl => (hi hl).2, fun _ h => h, fun _ h => .inl h, hp, Nat.le_refl _, fun _ _ _ => rfl, fun _ _ h => h, rfl, rfl, rfl⟩

/-- A row that came in, written, and its begin told. -/
def LawMp (P : Program) (f : FuncId) (e : Ty) (xs : List e.C) (n : Nat) (ys : List e.C) : Prop :=
  Enters P f ∧ ∀ (pr : Nat → Prop) (w : World) (i : Info) (vs : Array Value), (∀ b, pr b → b < w.heap.size) → ObjRep (alone pr w i) i ⟨.typed e xs, false⟩ → (i.loc = true → i.b < w.heap.size ∧ ¬ pr i.b) →
    VReps (alone pr w i) [.sl 0] vs.toList → Calls P f vs w fun en w' =>
    ∃ v' pr', en = .returned v' ∧ VRep (alone pr' w' i) (.ss 0 0 n) v' ∧ ObjRep (alone pr' w' i) i ⟨.typed e ys, false⟩ ∧ (i.loc = true → ¬ pr' i.b) ∧
      (∀ b, pr b → pr' b) ∧ (∀ b, pr' b → pr b ∨ w.heap.size ≤ b) ∧ (∀ b, pr' b → b < w'.heap.size) ∧ w.heap.size ≤ w'.heap.size ∧
      (∀ b, b < w.heap.size → (i.loc = true → i.b ≠ b) → w'.heap[b]? = w.heap[b]?) ∧ (∀ b n, Blk w b n → Blk w' b n) ∧ w'.os = w.os ∧ w'.tape = w.tape ∧ w'.output = w.output

def byMutP (e : Ty) (m : (ρ : Type) → List e.C → (Nat → List e.C → Option ρ) → Option ρ) : Con := fun ρ args h K =>
  match args with
  | [.sl id] =>
    (match hget h id with
     | some ⟨.typed t xs, fl⟩ =>
       if ht : t = e then m ρ (Ty.castR ht xs) (fun n ys => K (.ss id 0 n) (h.set id (some ⟨.typed e ys, fl⟩)) true) else none
     | _ => none)
  | _ => none

theorem con_byMutP {P : Program} {f : FuncId} {e : Ty} {m : (ρ : Type) → List e.C → (Nat → List e.C → Option ρ) → Option ρ}
    (hm : ∀ (ρ : Type) xs (K : Nat → List e.C → Option ρ) (x : ρ), m ρ xs K = some x → ∃ n ys, K n ys = some x ∧ LawMp P f e xs n ys) : ConOk P f (byMutP e m) := by
  intro ρ args h K x hb
  unfold byMutP at hb
  split at hb
  · rename_i id
    split at hb
    · rename_i t xs fl hob
      split at hb
      · rename_i ht
        subst ht
        obtain ⟨n, ys, hk, hent, hlaw⟩ := hm _ _ _ _ hb
        replace hlaw : ∀ (pr : Nat → Prop) (w : World) (i : Info) (vs : Array Value), (∀ b, pr b → b < w.heap.size) → ObjRep (alone pr w i) i ⟨.typed t xs, false⟩ → _ := hlaw
        have hid : id < h.length := hget_lt hob
        refine ⟨_, _, true, hk, hent, (sta_set fun j hj => touch_sl hj (by simp)), fun c vs hs _ hr => ?_⟩
        have hd := hs.alive hob
        cases hvs : vs.toList with
        | nil => rw [hvs] at hr; simp [VReps] at hr
        | cons v0 vs' =>
          rw [hvs] at hr
          cases vs' with
          | cons _ _ => simp [VReps] at hr
          | nil =>
          simp only [VReps, VRep, slRep, and_true] at hr
          obtain ⟨hany, hv⟩ := hr
          obtain ⟨i, hi, hcase⟩ := hv.resolve_left hd
          have hrep := hs.rep hob hi
          have hrep0 : ObjRep (alone c.pr c.w { i with full := false }) { i with full := false } ⟨.typed t xs, false⟩ := ⟨hrep.len, hrep.es, hrep.pos, rfl, hrep.loc, hrep.blk, hrep.cont⟩
          have hargs : VReps (alone c.pr c.w { i with full := false }) [.sl 0] vs.toList := by
            rw [hvs]
            simp only [VReps, VRep, slRep, and_true]
            refine ⟨hany, .inr ⟨{ i with full := false }, by simp [alone], ?_⟩⟩
            rcases hcase with ⟨a1, cap, n, a2, a3, a4, a5, _⟩ | ⟨a1, a2, a3⟩
            · exact .inl ⟨a1, cap, n, a2, a3, a4, a5, fun h => by cases h⟩
            · exact .inr ⟨a1, a2, a3⟩
          refine (hlaw c.pr c.w { i with full := false } vs hs.plow hrep0 (fun hl => ⟨hs.low id i hi hd hl, hs.apart id i hi hd hl⟩) hargs).mono ?_
          rintro en w' ⟨v', pr', rfl, hvv, hrep2, hap, q1, q2, q3, q4, q5, q6, q7, q8, q9⟩
          have hkeep : ∀ b, c.pr b → w'.heap[b]? = c.w.heap[b]? := fun b hp => q5 b (hs.plow b hp) fun hl e => hs.apart id i hi hd hl (by rw [← e] at hp; exact hp)
          have t2 : Tells c { c with pr := pr', w := w' } := ⟨fun _ _ h => h, fun _ h => h, ⟨q1, hkeep⟩, q6⟩
          have hlen : (h.set id (some ⟨.typed t ys, fl⟩)).length = h.length := by simp
          have hS : Sim { c with pr := pr', w := w' } (h.set id (some ⟨.typed t ys, fl⟩)) := by
            refine ⟨fun id' i' h1 h2 h3 => ?_, fun id' h1 h2 => ?_, fun id' i' h1 h2 h3 => Nat.lt_of_lt_of_le (hs.low id' i' h1 h2 h3) q4, hs.inj, q3, fun id' i' h1 h2 h3 hp => ?_, hs.own.step rfl (fun _ h => h) (fun _ _ h => h) q4 q2 (fun id' i' h1 h2 h3 => hs.own.off h1 h2 h3), fun id' i' fx e' xs' f h1 h2 h3 h4 => ?_⟩
            · by_cases he : id' = id
              · subst he
                have : i' = i := by rw [hi] at h2; simpa using h2.symm
                subst this
                exact ⟨_, hget_set_same hid, ⟨hrep2.len, hrep2.es, hrep2.pos, hrep.full, hrep2.loc, hrep2.blk, hrep2.cont⟩⟩
              · rw [hlen] at h1
                obtain ⟨o', ho', hr''⟩ := hs.obj id' i' h1 h2 h3
                exact ⟨o', by rw [hget_set_other he]; exact ho', hr''.mono t2 fun hl => q5 _ (hs.low id' i' h2 h3 hl) fun hl' e => he (hs.inj id' id i' i h2 hi h3 hd hl hl' e.symm)⟩
            · have he : id' ≠ id := fun e => hd (e ▸ h2)
              rw [hlen] at h1
              rw [hget_set_other he]; exact hs.gone id' h1 h2
            · by_cases he : id' = id
              · subst he
                have : i' = i := by rw [hi] at h1; simpa using h1.symm
                subst this
                exact hap h3 hp
              · rcases q2 _ hp with hp | hp
                · exact hs.apart id' i' h1 h2 h3 hp
                · have := hs.low id' i' h1 h2 h3; omega
            · by_cases he : id' = id
              · subst he; rw [hget_set_same hid] at h4; cases h4
              · rw [hlen] at h1
                rw [hget_set_other he] at h4
                exact hs.deepStay h1 h2 h3 h4 (fun _ h => h) fun b hb => q5 b (hs.at_low h3 hb) fun hl e => he (hs.at_inj h3 hd hb (.inr ⟨i, hi, hl, e⟩))
          refine ⟨v', { c with pr := pr', w := w' }, rfl, rfl, ⟨⟨q1, q4, hkeep, q6, fun b hb hn2 => q5 b hb fun hl e => hn2 ⟨id, hid, hd, .inr ⟨i, hi, hl, e⟩⟩, fun b hh => .inr (by obtain ⟨id', h1, h2, h3⟩ := hh; exact ⟨id', by simpa using h1, h2, h3⟩), q2, q7, q8, q9⟩, by simp, fun _ _ h => h, fun _ _ h h' => absurd (h'.symm.trans h) (by simp), fun _ h => h, fun _ h => .inl h⟩, hS, ?_, fun h => by cases h⟩
          simp only [VRep, ssRep] at hvv ⊢
          refine ⟨hvv.1, .inr ?_⟩
          obtain ⟨j, hj, hrest⟩ := hvv.2.resolve_left (fun h => h)
          simp only [alone, if_true, Option.some.injEq] at hj
          subst hj
          exact ⟨i, hi, hrest⟩
      · cases hb
    · cases hb
  · cases hb

/-- Runs of equal words made one. -/
theorem law_compact {P : Program} {f : FuncId} (hent : Enters P f) {cmp : List Int → List Int} (hcl : ∀ zs, (cmp zs).length ≤ zs.length)
    (hs : ∀ (blk off cap : Nat) (zs : List Int) (w : World), Holds (Value.int .i64) w blk off zs.toArray → zs.length ≤ 9223372036854775807 → zs.length ≤ cap → Calls P f #[.slice (some ⟨blk, off, none⟩) zs.length cap] w fun e w' =>
      e = .returned (.slice (some ⟨blk, off, none⟩) (cmp zs).length cap) ∧ ∃ q, w' = putRow (Value.int .i64) (Sort.ahead w q) blk off (cmp zs ++ List.replicate (zs.length - (cmp zs).length) 0).toArray)
    (h0 : ∀ (a : Option Addr) (cap : Nat) (w : World), Calls P f #[.slice a 0 cap] w fun e w' => e = .returned (.slice a 0 cap) ∧ w' = w)
    (xs : List Int) (hx : xs.length ≤ 9223372036854775807) : LawMp P f (.int .i64) xs (cmp xs).length (cmp xs ++ List.replicate (xs.length - (cmp xs).length) 0) := by
  refine ⟨hent, fun pr w i vs hp hrep hi hr => ?_⟩
  have hlen : i.len = xs.length := hrep.len
  have hes : i.es = 1 := hrep.es
  have hcx := hcl xs
  have hcl2 : ∀ zs : List Int, (cmp zs ++ List.replicate (zs.length - (cmp zs).length) 0).length = zs.length := fun zs => by have := hcl zs; simp; omega
  obtain ⟨v, hvs, hv⟩ : ∃ v, vs = #[v] ∧ VRep (alone pr w i) (.sl 0) v := by
    cases hl : vs.toList with
    | nil => rw [hl] at hr; simp [VReps] at hr
    | cons v l =>
      rw [hl] at hr
      cases l with
      | nil => simp only [VReps, and_true] at hr; exact ⟨v, by cases vs; simp_all, hr⟩
      | cons _ _ => simp [VReps] at hr
  subst hvs
  simp only [VRep, slRep] at hv
  obtain ⟨j, hj, hcase⟩ := hv.2.resolve_left (fun h => h)
  simp only [alone, if_true, Option.some.injEq] at hj
  subst hj
  rcases hcase with ⟨hloc, cap, n, rfl, hle, hblk, hbn, _⟩ | ⟨hloc, hl0, a, rfl⟩
  · rw [hlen]
    have hH := holds_of hrep hloc
    refine (hs i.b i.base cap xs w hH hx (by omega)).mono ?_
    rintro en w' ⟨rfl, m, rfl⟩
    have only := only_putRow (Value.int .i64) (Sort.ahead w m) i.b i.base (cmp xs ++ List.replicate (xs.length - (cmp xs).length) 0).toArray
    refine ⟨_, pr, rfl, ?_, rep_of (c := alone pr w i) hrep (hcl2 xs) (fun n hb => only.blk _ n hb) (fun _ => ?_), fun hl => (hi hl).2, fun _ h => h, fun _ h => .inl h, fun b hb => ?_, ?_, fun b hb hn => ?_, fun b n hb => only.blk b n hb, rfl, rfl, rfl⟩
    · simp only [VRep, ssRep]
      refine ⟨⟨_, _, _, rfl⟩, .inr ⟨i, by simp [alone], by omega, .inl ⟨hloc, cap, n, by simp, by omega, only.blk _ _ hblk, by rw [Nat.zero_add]; exact hbn⟩⟩⟩
    · exact holds_putRow _ _ _ _ _ _ (holds_ahead _ _ _ _ _ _ hH) (by simpa using hcl2 xs)
    · rw [only.size]; exact hp b hb
    · rw [only.size]; exact Nat.le_refl _
    · exact only.other b (fun e => hn hloc e.symm)
  · have hx0 : xs = [] := List.eq_nil_of_length_eq_zero (by omega)
    subst hx0
    have hc0 : cmp [] = [] := List.eq_nil_of_length_eq_zero (by simpa using hcx)
    refine (h0 a 0 w).mono ?_
    rintro en w' ⟨rfl, hw⟩
    have hw' := hw.symm
    subst hw'
    refine ⟨_, pr, rfl, ?_, rep_of (c := alone pr w i) hrep (hcl2 []) (fun _ h => h) (fun h => by rw [hloc] at h; cases h), fun hl => (hi hl).2, fun _ h => h, fun _ h => .inl h, hp, Nat.le_refl _, fun _ _ _ => rfl, fun _ _ h => h, rfl, rfl, rfl⟩
    simp only [VRep, ssRep]
    exact ⟨⟨_, _, _, rfl⟩, .inr ⟨i, by simp [alone], by simp [hl0, hc0], .inr ⟨by rw [hc0]; rfl, a, rfl⟩⟩⟩
end Go.AM
namespace Go.AM

/-! Several results, all that they lead to the caller's own. -/
def TupOf : Ty → List Value → List Value → Prop
  | .pair a b, v :: vs, us => ∃ l r, us = l ++ r ∧ l.length = a.size ∧ CellsOf a v l ∧ TupOf b vs r
  | .unit, [], us => us = []
  | _, _, _ => False
def ownTs : (t : Ty) → t.C → Nat → List AV
  | .pair a b, x, n => ownV a (expl a x.1 n) :: ownTs b x.2 (n + rowsT a)
  | _, _, _ => []
/-- Are values of such shapes? -/
def shapesT : Ty → List AV → Bool
  | .pair a b, v :: vs => (v.isAgg == a.isAgg) && (v.cells.length == a.size) && shapesT b vs
  | .unit, [] => true
  | _, _ => false

theorem expl_len : ∀ {t : Ty} {x : t.C} {n : Nat}, posT t = true → (expl t x n).length = t.size := by
  intro t
  induction t with
  | pair a b iha ihb =>
    intro x n h
    simp only [posT, Bool.and_eq_true] at h
    simp only [expl, List.length_append, iha h.1, ihb h.2, Ty.size]
  | node => intro x n h; cases h
  | _ => intro x n h; rfl

theorem VReps.cut {c : Ctx} : ∀ {as bs : List AV} {us vs : List Value}, VReps c (as ++ bs) (us ++ vs) → as.length = us.length → VReps c as us ∧ VReps c bs vs
  | [], bs, us, vs, h, he => by
    cases us with
    | nil => exact ⟨by simp [VReps], by simpa using h⟩
    | cons _ _ => simp at he
  | a :: as, bs, us, vs, h, he => by
    cases us with
    | nil => simp at he
    | cons u us =>
      simp only [List.cons_append, VReps] at h ⊢
      obtain ⟨q1, q2⟩ := VReps.cut h.2 (by simpa using he)
      exact ⟨⟨h.1, q1⟩, q2⟩

theorem ownTs_rep {c : Ctx} : ∀ {t : Ty} {x : t.C} {n : Nat} {vs us : List Value}, posT t = true → TupOf t vs us → VReps c (expl t x n) us → VReps c (ownTs t x n) vs := by
  intro t
  induction t with
  | pair a b _ ihb =>
    intro x n vs us hp ht hr
    simp only [posT, Bool.and_eq_true] at hp
    cases vs with
    | nil => exact ht.elim
    | cons v vs =>
      obtain ⟨l, r, rfl, hl, h1, h2⟩ := ht
      simp only [expl] at hr
      obtain ⟨q1, q2⟩ := VReps.cut hr (by rw [expl_len hp.1, hl])
      simp only [ownTs, VReps]
      exact ⟨ownV_rep h1 q1, ihb hp.2 h2 q2⟩
  | unit =>
    intro x n vs us hp ht hr
    cases vs with
    | nil => simp [ownTs, VReps]
    | cons _ _ => exact ht.elim
  | _ => intro x n vs us hp ht hr; cases vs <;> exact ht.elim

def LawDT (P : Program) (f : FuncId) (args : List AV) (t : Ty) (x : t.C) : Prop :=
  Enters P f ∧ ∀ (pr : Nat → Prop) (w : World) (vs : Array Value), (∀ b, pr b → b < w.heap.size) → VReps (still0 pr w) args vs.toList → Calls P f vs w fun en w' =>
    ∃ (A : Array Value) (us : List Value) (F : Nat → Prop), en = .returned (.tuple A) ∧ TupOf t A.toList us ∧ DCells w' t x us F ∧ (∀ b, F b → w.heap.size ≤ b ∧ b < w'.heap.size) ∧ w.heap.size ≤ w'.heap.size ∧
      (∀ b, b < w.heap.size → w'.heap[b]? = w.heap[b]?) ∧ w'.os = w.os ∧ w'.tape = w.tape ∧ w'.output = w.output

def byNewT (t : Ty) (m : (ρ : Type) → List AV → (t.C → Option ρ) → Option ρ) : Con := fun ρ args h K =>
  m ρ (args.map (deref h 8)) fun x => bif posT t then K (.tup (ownTs t x h.length)) (h ++ objsD false t x) false else none

theorem con_byNewT {P : Program} {f : FuncId} {t : Ty} {m : (ρ : Type) → List AV → (t.C → Option ρ) → Option ρ} (hm : ∀ (ρ : Type) args (K : t.C → Option ρ) (x : ρ), m ρ args K = some x → ∃ y, K y = some x ∧ LawDT P f args t y) : ConOk P f (byNewT t m) := by
  intro ρ args h K x hb
  unfold byNewT at hb
  obtain ⟨y, hv1, hent, hlaw⟩ := hm _ _ _ _ hb
  by_cases hc : posT t = true
  · simp only [hc, cond_true] at hv1
    refine ⟨_, _, false, hv1, hent, (Pre.snoc h _).sta _, fun c vs hs hf hr => ?_⟩
    refine (hlaw c.still.pr c.w vs hs.still_low (deref_reps (deref_rep hs 8) hr)).mono ?_
    rintro en w' ⟨A, us, F, rfl, ho, hD, hF, q4, q5, q6, q7, q8⟩
    obtain ⟨k1, k2, k3⟩ := byVal_state hs (pr' := c.pr) (fun _ h => h) (fun _ h => .inl h) (fun b hb => Nat.lt_of_lt_of_le (hs.plow b hb) q4) q4 q5 q6 q7 q8
    obtain ⟨c2, a1, a2, a3, a4, a5, a6, a7, a8, a9, a10⟩ := expl_ok false k1 k2 (fun id p1 p2 => hf id p1 (by rw [List.length_append, objsD_len]; exact p2)) hD (fun b hb => ⟨(hF b hb).1, (hF b hb).2, fun hp => by have := hs.plow b hp; have := (hF b hb).1; omega, fun id hd ha => by have := hs.at_low (id := id) (b := b) hd ha; have := (hF b hb).1; omega⟩) hc
    refine ⟨.tuple A, c2, rfl, a1, a6, a7, ?_, fun _ => a8 k3⟩
    simp only [VRep]
    exact ⟨A, rfl, ownTs_rep hc ho a10⟩
  · simp only [Bool.not_eq_true] at hc; rw [hc] at hv1; cases hv1

def finDT (t : Ty) (r : AV × Heap) : Option t.C :=
  match r.1 with
  | .tup vs => bif shapesT t vs then (takeT r.2 t (vs.flatMap AV.cells)).bind fun x => bif once x.2 then some x.1 else none else none
  | _ => none

theorem tup_cells {c : Ctx} : ∀ {t : Ty} {as : List AV} {vs : List Value}, shapesT t as = true → VReps c as vs → (as.flatMap AV.cells).all AV.one = true →
    VReps c (as.flatMap AV.cells) (vs.flatMap fun v => v.cells.toList) ∧ TupOf t vs (vs.flatMap fun v => v.cells.toList) := by
  intro t
  induction t with
  | pair a b _ ihb =>
    intro as vs hs hr h1
    cases as with
    | nil => cases hs
    | cons x as =>
      cases vs with
      | nil => simp [VReps] at hr
      | cons v vs =>
        simp only [shapesT, Bool.and_eq_true, beq_iff_eq] at hs
        obtain ⟨⟨s1, s2⟩, s3⟩ := hs
        simp only [VReps] at hr
        simp only [List.flatMap_cons, List.all_append, Bool.and_eq_true] at h1 ⊢
        obtain ⟨q1, q2⟩ := ihb s3 hr.2 h1.2
        obtain ⟨c1, c2⟩ := hr.1.cells h1.1
        refine ⟨c1.append q1, _, _, rfl, by rw [← c1.length, s2], ?_, q2⟩
        unfold CellsOf
        cases hta : a.isAgg with
        | true =>
          rw [if_pos rfl]
          obtain ⟨A, hv, _⟩ := hr.1.agg (s1.trans hta)
          exact ⟨A, hv, by rw [hv]; rfl⟩
        | false =>
          rw [if_neg (by simp)]
          have hcs := AV.cells_one (s1.trans hta)
          have ho := hr.1.one (by have := h1.1; rw [hcs] at this; simpa using this)
          rw [one_cells ho]
  | unit =>
    intro as vs hs hr h1
    cases as with
    | nil => cases vs with
      | nil => exact ⟨by simp [VReps], rfl⟩
      | cons _ _ => simp [VReps] at hr
    | cons _ _ => cases hs
  | _ => intro as vs hs; cases as <;> cases hs

section
variable {P : Program} {E : Env} {run : Run}
theorem lawDT (hT : TOk P E) (hC : CallsOk P E run) (hmix : P.follows .mixedOrders = true) {f : FuncId} {fn : Func} (hf : P.funcs[f]? = some fn) (hname : (fn.name == "runtime.NumGoroutine") = false) (hb : fn.body.isNone = false) {k : Nat} {args : List AV} {t : Ty} {x : t.C}
    (hk : abody E run k f fn args [] (finDT t) = some x) : LawDT P f args t x := by
  obtain ⟨r, hfin, hw⟩ := told_body (lv := true) hT hC (regOk hT hmix hC) hf (fun h => by cases h) hk
  obtain ⟨rv, rh⟩ := r
  refine ⟨⟨fn, hf, hname, hb⟩, fun pr w vs hp hr => ?_⟩
  refine (hw (still0 pr w) vs (sim_still0 hp) (fun id _ => ⟨rfl, fun h => h⟩) hr).mono ?_
  rintro en w' ⟨v', c', rfl, rfl, hsi, hs', hf', hvr⟩
  have W := hsi.1
  unfold finDT at hfin
  split at hfin
  · rename_i as heq
    replace heq : rv = .tup as := heq
    subst heq
    by_cases hsh : shapesT t as = true
    · rw [hsh, cond_true] at hfin
      obtain ⟨⟨y, ids⟩, hy, hfin⟩ := Option.bind_eq_some_iff.1 hfin
      by_cases ho : once ids = true
      · simp only [ho, cond_true, Option.some.injEq] at hfin
        subst hfin
        simp only [VRep] at hvr
        obtain ⟨A, rfl, hreps⟩ := hvr
        obtain ⟨q1, q2⟩ := tup_cells hsh hreps (take_one hy)
        obtain ⟨d1, d2⟩ := take_rep hs' q1 hy (once_ok ho)
        refine ⟨A, _, _, rfl, q2, d1, ?_, W.size, fun b hb => W.frame b hb Ctx.has0, W.os, W.tape, W.output⟩
        rintro b ⟨id, hid, ha⟩
        obtain ⟨h1, h2, _⟩ := d2 id hid
        exact ⟨(W.own b ⟨id, h1, h2, ha⟩).elim (fun h => h) fun h => absurd h Ctx.has0, hs'.at_low h2 ha⟩
      · simp only [Bool.not_eq_true] at ho; rw [ho] at hfin; cases hfin
    · simp only [Bool.not_eq_true] at hsh; rw [hsh] at hfin; cases hfin
  · cases hfin
end
theorem LawDT.reads {P : Program} {f : FuncId} {as bs : List AV} {t : Ty} {x : t.C} (h : ReadsL as bs) (l : LawDT P f bs t x) : LawDT P f as t x :=
  ⟨l.1, fun pr w vs hp hr => l.2 pr w vs hp (h _ _ hr)⟩
end Go.AM
