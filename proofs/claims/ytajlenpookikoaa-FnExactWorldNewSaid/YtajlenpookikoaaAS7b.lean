/- An interpreter of the model's code over values that are told, and its soundness. -/
import Derived.Test.YtajlenpookikoaaAS5
import Derived.Laws.IdiomStrings
namespace Go.AM

/-! Soundness: stores into deep rows. -/
theorem flat_D {pr F : Nat → Prop} {w w2 : World} : ∀ {t : Ty} {x : t.C} {vs : List Value}, flatT t = true → CellsRep pr w t x vs → DCells w2 t x vs F := by
  intro t
  induction t generalizing F with
  | int k => intro x vs _ h; exact h
  | bool => intro x vs _ h; exact h
  | str => intro x vs _ h; exact h
  | unit => intro x vs _ h; exact h
  | row e _ => intro x vs h; simp [flatT] at h
  | node => intro x vs h; simp [flatT] at h
  | pair a b iha ihb =>
    intro x vs hf h
    simp only [flatT, Bool.and_eq_true] at hf
    obtain ⟨l, r, rfl, h1, h2⟩ := h
    exact ⟨l, r, fun _ => False, fun _ => False, rfl, fun _ h => h.elim, fun _ h => h.elim, fun _ h => h.elim, iha hf.1 h1, ihb hf.2 h2⟩

theorem Sim.at_inj {c : Ctx} {h : Heap} (hs : Sim c h) {id id' b : Nat} (hd : ¬ c.dead id) (hd' : ¬ c.dead id') (h1 : c.at id b) (h2 : c.at id' b) : id = id' := by
  rcases h1 with h1 | ⟨i, q1, q2, q3⟩
  · rcases h2 with h2 | ⟨i', p1, p2, p3⟩
    · exact hs.own.inj id id' b hd hd' h1 h2
    · subst p3; exact absurd h1 (hs.own.off p1 hd' p2 id hd)
  · rcases h2 with h2 | ⟨i', p1, p2, p3⟩
    · subst q3; exact absurd h2 (hs.own.off q1 hd q2 id' hd')
    · exact hs.inj id id' i i' q1 p1 hd hd' q2 p2 (q3.trans p3.symm)
theorem Sim.at_low {c : Ctx} {h : Heap} (hs : Sim c h) {id b : Nat} (hd : ¬ c.dead id) (h1 : c.at id b) : b < c.w.heap.size := by
  rcases h1 with h1 | ⟨i, q1, q2, q3⟩
  · exact hs.own.low id b hd h1
  · subst q3; exact hs.low id i q1 hd q2
theorem Sim.at_apart {c : Ctx} {h : Heap} (hs : Sim c h) {id b : Nat} (hd : ¬ c.dead id) (h1 : c.at id b) : ¬ c.pr b := by
  rcases h1 with h1 | ⟨i, q1, q2, q3⟩
  · exact hs.own.apart id b hd h1
  · subst q3; exact hs.apart id i q1 hd q2

/-! A word of a typed value anew. -/
theorem setW_ok {w : World} : ∀ {t : Ty} {x x' : t.C} {vs : List Value} {F : Nat → Prop} {sub : Nat} {v : AV} {c : Ctx} {u : Value}, DCells w t x vs F → setW t x sub v = some x' → VRep c v u →
    sub < vs.length ∧ DCells w t x' (vs.set sub u) F := by
  intro t
  induction t with
  | int k =>
    intro x x' vs F sub v c u h hs hv
    cases sub with
    | succ n => simp [setW] at hs
    | zero =>
      cases v <;> simp only [setW, reduceCtorEq] at hs
      rename_i k' n
      split at hs
      · rename_i hk; subst hk; cases hs; cases h
        exact ⟨by simp, by rw [hv.int]; rfl⟩
      · cases hs
  | bool =>
    intro x x' vs F sub v c u h hs hv
    cases sub with
    | succ n => simp [setW] at hs
    | zero =>
      cases v <;> simp only [setW, reduceCtorEq] at hs
      cases h; cases hs; exact ⟨by simp, by rw [hv.bool]; rfl⟩
  | str =>
    intro x x' vs F sub v c u h hs hv
    cases sub with
    | succ n => simp [setW] at hs
    | zero =>
      cases v <;> simp only [setW, reduceCtorEq] at hs
      cases h; cases hs; exact ⟨by simp, by rw [hv.str]; rfl⟩
  | unit => intro x x' vs F sub v c u h hs hv; simp [setW] at hs
  | row e _ => intro x x' vs F sub v c u h hs hv; simp [setW] at hs
  | node => intro x x' vs F sub v c u h hs hv; simp [setW] at hs
  | pair a b iha ihb =>
    rintro x x' vs F sub v c u ⟨l, r, L, R, rfl, h1, h2, h3, hl, hr⟩ hs hv
    simp only [setW] at hs
    by_cases hlt : sub < a.size
    · rw [show Nat.blt sub a.size = true by simpa [Nat.blt_eq] using hlt, cond_true] at hs
      obtain ⟨y, hy, rfl⟩ := Option.map_eq_some_iff.1 hs
      obtain ⟨q1, q2⟩ := iha hl hy hv
      exact ⟨by simp; omega, _, _, L, R, List.set_append_left _ _ q1, h1, h2, h3, q2, hr⟩
    · rw [show Nat.blt sub a.size = false from Bool.eq_false_iff.2 fun h => hlt (by simpa [Nat.blt_eq] using h), cond_false] at hs
      obtain ⟨y, hy, rfl⟩ := Option.map_eq_some_iff.1 hs
      obtain ⟨q1, q2⟩ := ihb hr hy hv
      have hll := hl.len
      exact ⟨by simp; omega, _, _, L, R, by rw [List.set_append_right _ _ (by omega), hll], h1, h2, h3, hl, q2⟩

theorem setW_row : ∀ {t : Ty} {x x' : t.C} {sub : Nat} {v : AV}, setW t x sub v = some x' → rowAt t sub = none := by
  intro t
  induction t with
  | pair a b iha ihb =>
    intro x x' sub v hs
    simp only [setW] at hs
    unfold rowAt
    by_cases hlt : (Nat.blt sub a.size) = true
    · rw [hlt, cond_true] at hs
      obtain ⟨y, hy, _⟩ := Option.map_eq_some_iff.1 hs
      rw [hlt, cond_true]; exact iha hy
    · simp only [Bool.not_eq_true] at hlt
      rw [hlt, cond_false] at hs
      obtain ⟨y, hy, _⟩ := Option.map_eq_some_iff.1 hs
      rw [hlt, cond_false]; exact ihb hy
  | row e _ => intro x x' sub v hs; simp [setW] at hs
  | _ => intro x x' sub v hs; simp [rowAt]

theorem setW_word : ∀ {t : Ty} {x x' : t.C} {sub : Nat} {v : AV}, setW t x sub v = some x' → v.isAgg = false ∧ v.one = true ∧ v.cells = [v] := by
  intro t
  induction t with
  | pair a b iha ihb =>
    intro x x' sub v hs
    simp only [setW] at hs
    by_cases hlt : (Nat.blt sub a.size) = true
    · rw [hlt, cond_true] at hs
      obtain ⟨y, hy, _⟩ := Option.map_eq_some_iff.1 hs
      exact iha hy
    · simp only [Bool.not_eq_true] at hlt
      rw [hlt, cond_false] at hs
      obtain ⟨y, hy, _⟩ := Option.map_eq_some_iff.1 hs
      exact ihb hy
  | _ =>
    intro x x' sub v hs
    cases sub <;> cases v <;> first | (simp [setW] at hs; done) | exact ⟨rfl, rfl, rfl⟩

/-! What is taken. -/
theorem take_pair {h : Heap} {a b : Ty} {cs : List AV} {x : (Ty.pair a b).C} {ids : List Nat} (ht : takeT h (.pair a b) cs = some (x, ids)) :
    ∃ i1 i2, takeT h a (cs.take a.size) = some (x.1, i1) ∧ takeT h b (cs.drop a.size) = some (x.2, i2) ∧ ids = i1 ++ i2 := by
  simp only [takeT] at ht
  obtain ⟨y, hy, ht⟩ := Option.bind_eq_some_iff.1 ht
  obtain ⟨z, hz, ht⟩ := Option.map_eq_some_iff.1 ht
  cases ht
  exact ⟨_, _, hy, hz, rfl⟩
theorem take_row {h : Heap} {e : Ty} {cs : List AV} {x : List e.C} {ids : List Nat} (ht : takeT h (.row e) cs = some (x, ids)) :
    (cs = [.nils] ∧ x = [] ∧ ids = [] ∧ 0 < e.size) ∨ ∃ id i2, cs = [.sl id] ∧ ids = id :: i2 ∧ ((i2 = [] ∧ ((∃ fx f, hget h id = some ⟨.deep fx e x, f⟩) ∨ ((flatT e = true ∨ x = []) ∧ ∃ f, hget h id = some ⟨.typed e x, f⟩))) ∨
      ∃ d vs f, hget h id = some ⟨.raw e.isAgg e.size d vs, f⟩ ∧ takeL (takeT h e) vs = some (x, i2)) := by
  match cs, ht with
  | [.nils], ht =>
    simp only [takeT] at ht
    by_cases hp : Nat.blt 0 e.size = true
    · rw [hp, cond_true] at ht; cases ht
      exact .inl ⟨rfl, rfl, rfl, by simpa [Nat.blt_eq] using hp⟩
    · simp only [Bool.not_eq_true] at hp; rw [hp] at ht; cases ht
  | [.sl id], ht =>
    simp only [takeT] at ht
    split at ht
    · rename_i fx f xs fl hg
      split at ht
      · rename_i hf; subst hf; cases ht
        exact .inr ⟨id, [], rfl, rfl, .inl ⟨rfl, .inl ⟨fx, fl, hg⟩⟩⟩
      · cases ht
    · rename_i f xs fl hg
      split at ht
      · rename_i hf; subst hf
        cases hq : (flatT f || xs.isEmpty) with
        | true =>
          rw [hq] at ht; cases ht
          refine .inr ⟨id, [], rfl, rfl, .inl ⟨rfl, .inr ⟨?_, fl, hg⟩⟩⟩
          rcases Bool.or_eq_true_iff.1 hq with hq | hq
          · exact .inl hq
          · exact .inr (List.isEmpty_iff.1 hq)
        | false => rw [hq] at ht; cases ht
      · cases ht
    · rename_i a es d vs fl hg
      cases hq : ((a == e.isAgg) && (es == e.size)) with
      | true =>
        rw [hq] at ht
        obtain ⟨y, hy, ht⟩ := Option.map_eq_some_iff.1 ht
        cases ht
        simp only [Bool.and_eq_true, beq_iff_eq] at hq
        obtain ⟨rfl, rfl⟩ := hq
        exact .inr ⟨id, _, rfl, rfl, .inr ⟨d, vs, fl, hg, hy⟩⟩
      | false => rw [hq] at ht; cases ht
    · cases ht
theorem take_one {h : Heap} : ∀ {t : Ty} {cs : List AV} {x : t.C} {ids : List Nat}, takeT h t cs = some (x, ids) → cs.all AV.one = true := by
  intro t
  induction t with
  | pair a b iha ihb =>
    intro cs x ids ht
    obtain ⟨i1, i2, h1, h2, _⟩ := take_pair ht
    rw [← List.take_append_drop a.size cs, List.all_append, iha h1, ihb h2]; rfl
  | row e _ =>
    intro cs x ids ht
    rcases take_row ht with ⟨rfl, _⟩ | ⟨id, _, rfl, _⟩ <;> rfl
  | node => intro cs x ids ht; simp [takeT] at ht
  | unit =>
    intro cs x ids ht
    match cs, ht with
    | [], _ => rfl
    | _ :: _, ht => simp [takeT] at ht
  | _ =>
    intro cs x ids ht
    match cs, ht with
    | [], ht => simp [takeT] at ht
    | [v], ht => cases v <;> first | (simp [takeT] at ht; done) | rfl
    | _ :: _ :: _, ht => simp [takeT] at ht

theorem once_ok : ∀ {l : List Nat}, once l = true → l.Nodup
  | [], _ => List.nodup_nil
  | x :: l, h => by
    simp only [once, Bool.and_eq_true, Bool.not_eq_true', List.contains_eq_mem, decide_eq_false_iff_not] at h
    exact List.nodup_cons.2 ⟨h.1, once_ok h.2⟩

theorem takeL_len {α : Type} {f : List AV → Option (α × List Nat)} : ∀ {vs : List AV} {x : List α} {ids : List Nat}, takeL f vs = some (x, ids) → x.length = vs.length
  | [], _, _, h => by simp only [takeL, Option.some.injEq, Prod.mk.injEq] at h; rw [← h.1]; rfl
  | v :: vs, _, _, h => by
    simp only [takeL] at h
    obtain ⟨p, hp, h⟩ := Option.bind_eq_some_iff.1 h
    obtain ⟨q, hq, h⟩ := Option.map_eq_some_iff.1 h
    cases h
    simp [takeL_len hq]
theorem take_rep {c : Ctx} {h : Heap} (hs : Sim c h) : ∀ {t : Ty} {cs : List AV} {vs : List Value} {x : t.C} {ids : List Nat}, VReps c cs vs → takeT h t cs = some (x, ids) → ids.Nodup →
    DCells c.w t x vs (fun b => ∃ id, id ∈ ids ∧ c.at id b) ∧ ∀ id, id ∈ ids → id < h.length ∧ ¬ c.dead id ∧ c.m id ≠ none := by
  intro t
  induction t with
  | int k =>
    intro cs vs x ids hr ht hn
    match cs, ht with
    | [], ht => simp [takeT] at ht
    | _ :: _ :: _, ht => simp [takeT] at ht
    | [v], ht =>
      cases v <;> simp only [takeT, reduceCtorEq] at ht
      obtain ⟨u, rfl, hu⟩ := hr.one_of
      split at ht
      · rename_i hk; subst hk; cases ht; exact ⟨by rw [hu.int]; rfl, by simp⟩
      · cases ht
  | bool =>
    intro cs vs x ids hr ht hn
    match cs, ht with
    | [], ht => simp [takeT] at ht
    | _ :: _ :: _, ht => simp [takeT] at ht
    | [v], ht =>
      cases v <;> simp only [takeT, reduceCtorEq] at ht
      obtain ⟨u, rfl, hu⟩ := hr.one_of
      cases ht; exact ⟨by rw [hu.bool]; rfl, by simp⟩
  | str =>
    intro cs vs x ids hr ht hn
    match cs, ht with
    | [], ht => simp [takeT] at ht
    | _ :: _ :: _, ht => simp [takeT] at ht
    | [v], ht =>
      cases v <;> simp only [takeT, reduceCtorEq] at ht
      obtain ⟨u, rfl, hu⟩ := hr.one_of
      cases ht; exact ⟨by rw [hu.str]; rfl, by simp⟩
  | unit =>
    intro cs vs x ids hr ht hn
    match cs, vs, hr with
    | [], [], _ => simp only [takeT, Option.some.injEq, Prod.mk.injEq] at ht; obtain ⟨_, rfl⟩ := ht; exact ⟨rfl, by simp⟩
    | _ :: _, _, _ => simp [takeT] at ht
  | node => intro cs vs x ids hr ht hn; simp [takeT] at ht
  | pair a b iha ihb =>
    intro cs vs x ids hr ht hn
    obtain ⟨i1, i2, h1, h2, rfl⟩ := take_pair ht
    have hn' := List.nodup_append.1 hn
    obtain ⟨q1, q2⟩ := iha (hr.take a.size) h1 hn'.1
    obtain ⟨p1, p2⟩ := ihb (hr.drop a.size) h2 hn'.2.1
    refine ⟨⟨_, _, _, _, (List.take_append_drop a.size vs).symm, fun k hk => ?_, fun k hk => ?_, fun k hk hk' => ?_, q1, p1⟩, fun id hid => ?_⟩
    · obtain ⟨id, h1, h2⟩ := hk; exact ⟨id, List.mem_append_left _ h1, h2⟩
    · obtain ⟨id, h1, h2⟩ := hk; exact ⟨id, List.mem_append_right _ h1, h2⟩
    · obtain ⟨id, h1, h2⟩ := hk
      obtain ⟨id', h1', h2'⟩ := hk'
      have := hs.at_inj (q2 id h1).2.1 (p2 id' h1').2.1 h2 h2'
      exact hn'.2.2 id h1 id' h1' this
    · rcases List.mem_append.1 hid with h | h
      · exact q2 id h
      · exact p2 id h
  | row e ih =>
    intro cs vs x ids hr ht hn
    rcases take_row ht with ⟨rfl, rfl, rfl, hp⟩ | ⟨id, i2, rfl, rfl, hg⟩
    · obtain ⟨u, rfl, hu⟩ := hr.one_of
      simp only [VRep] at hu
      obtain ⟨a, rfl⟩ := hu
      exact ⟨.inl ⟨rfl, a, rfl⟩, by simp⟩
    · obtain ⟨u, rfl, hu⟩ := hr.one_of
      simp only [VRep, slRep] at hu
      obtain ⟨hni, hn2⟩ := List.nodup_cons.1 hn
      obtain ⟨o, hob, hes, hlen⟩ : ∃ o, hget h id = some o ∧ o.c.es = e.size ∧ o.c.len = List.length x := by
        rcases hg with ⟨_, ⟨fx, f, hg⟩ | ⟨_, f, hg⟩⟩ | ⟨d, vs, f, hg, hL⟩
        · exact ⟨_, hg, rfl, rfl⟩
        · exact ⟨_, hg, rfl, rfl⟩
        · exact ⟨_, hg, rfl, (takeL_len hL).symm⟩
      have hid := hget_lt hob
      have hd := hs.alive hob
      obtain ⟨i, hi, hv⟩ := hu.2.resolve_left hd
      have rep := hs.rep hob hi
      have hl : i.len = List.length x := by rw [rep.len, hlen]
      have he : i.es = e.size := by rw [rep.es, hes]
      have hme : ∀ k, k ∈ [id] → k < h.length ∧ ¬ c.dead k ∧ c.m k ≠ none := fun k hk => by simp at hk; subst hk; exact ⟨hid, hd, by rw [hi]; simp⟩
      -- the elements
      have row : DRow c.w e.size (DCells c.w e) (fun b => ∃ j, j ∈ id :: i2 ∧ c.at j b) i.b i.base x ∧ ∀ k, k ∈ i2 → k < h.length ∧ ¬ c.dead k ∧ c.m k ≠ none := by
        rcases hg with ⟨rfl, ⟨fx, f, hg⟩ | ⟨hfl, f, hg⟩⟩ | ⟨d, ws, f, hg, hL⟩
        · exact ⟨(hs.deep id i fx e x f hid hi hd hg).row.mono (fun _ => rfl) (fun k hk => ⟨id, by simp, .inl hk⟩) fun _ _ _ _ q => q, by simp⟩
        · have hc := rep.cont
          rw [hg] at hob; cases hob
          simp only [contRep] at hc
          refine ⟨⟨fun _ _ => False, fun _ _ h => h.elim, fun _ _ _ h => h.elim, fun j y hj => ?_⟩, by simp⟩
          rcases hfl with hfl | rfl
          · obtain ⟨vs, q1, q2, q3⟩ := hc j y hj
            exact ⟨vs, q1, q2, flat_D hfl q3⟩
          · simp at hj
        · have hc := rep.cont
          rw [hg] at hob; cases hob
          simp only [contRep] at hc
          obtain ⟨_, _, hc⟩ := hc
          have key : ∀ (ws : List AV) (y : List e.C) (is : List Nat) (n : Nat), takeL (takeT h e) ws = some (y, is) → is.Nodup → (∀ j (w : AV), ws[j]? = some w → ∃ vs, vs.length = e.size ∧ Lies c.w i.b (i.base + (n + j) * e.size) vs ∧ VReps c w.cells vs) →
              ∃ G : Nat → Nat → Prop, (∀ j k, G j k → ∃ id', id' ∈ is ∧ c.at id' k) ∧ (∀ j j' k, G j k → G j' k → j = j') ∧ (∀ (j : Nat) (x : e.C), y[j]? = some x → ∃ vs, vs.length = e.size ∧ Lies c.w i.b (i.base + (n + j) * e.size) vs ∧ DCells c.w e x vs (G j)) ∧ ∀ k, k ∈ is → k < h.length ∧ ¬ c.dead k ∧ c.m k ≠ none := by
            intro ws
            induction ws with
            | nil =>
              intro y is n hy _ _
              simp only [takeL, Option.some.injEq, Prod.mk.injEq] at hy
              obtain ⟨rfl, rfl⟩ := hy
              exact ⟨fun _ _ => False, fun _ _ h => h.elim, fun _ _ _ h => h.elim, fun j x hj => by simp at hj, by simp⟩
            | cons w ws ihw =>
              intro y is n hy hnd hrep
              simp only [takeL] at hy
              obtain ⟨p, hp, hy⟩ := Option.bind_eq_some_iff.1 hy
              obtain ⟨q, hq, hy⟩ := Option.map_eq_some_iff.1 hy
              cases hy
              obtain ⟨n1, n2, n3⟩ := List.nodup_append.1 hnd
              obtain ⟨vs, v1, v2, v3⟩ := hrep 0 w rfl
              obtain ⟨d1, d2⟩ := ih v3 hp n1
              obtain ⟨G, g1, g2, g3, g4⟩ := ihw q.1 q.2 (n + 1) hq n2 fun j w' hj => by
                obtain ⟨vs, w1, w2, w3⟩ := hrep (j + 1) w' (by simpa using hj)
                exact ⟨vs, w1, by rw [show n + 1 + j = n + (j + 1) by omega]; exact w2, w3⟩
              refine ⟨fun j => match j with | 0 => fun b => ∃ id', id' ∈ p.2 ∧ c.at id' b | j + 1 => G j, fun j k hj => ?_, fun j j' k hj hj' => ?_, fun j x hj => ?_, fun k hk => ?_⟩
              · cases j with
                | zero => obtain ⟨id', h1, h2⟩ := hj; exact ⟨id', List.mem_append_left _ h1, h2⟩
                | succ j => obtain ⟨id', h1, h2⟩ := g1 j k hj; exact ⟨id', List.mem_append_right _ h1, h2⟩
              · have cross : ∀ j, (∃ id', id' ∈ p.2 ∧ c.at id' k) → G j k → False := fun j h1 h2 => by
                  obtain ⟨a, a1, a2⟩ := h1
                  obtain ⟨b, b1, b2⟩ := g1 j k h2
                  have := hs.at_inj (d2 a a1).2.1 (g4 b b1).2.1 a2 b2
                  exact n3 a a1 b b1 this
                cases j with
                | zero => cases j' with
                  | zero => rfl
                  | succ j' => exact (cross j' hj hj').elim
                | succ j => cases j' with
                  | zero => exact (cross j hj' hj).elim
                  | succ j' => rw [g2 j j' k hj hj']
              · cases j with
                | zero =>
                  simp only [List.getElem?_cons_zero, Option.some.injEq] at hj
                  subst hj
                  exact ⟨vs, v1, v2, d1⟩
                | succ j =>
                  obtain ⟨us, u1, u2, u3⟩ := g3 j x (by simpa using hj)
                  exact ⟨us, u1, by rw [show n + (j + 1) = n + 1 + j by omega]; exact u2, u3⟩
              · rcases List.mem_append.1 hk with hk | hk
                · exact d2 k hk
                · exact g4 k hk
          obtain ⟨G, g1, g2, g3, g4⟩ := key ws x i2 0 hL hn2 fun j w hj => by
            obtain ⟨_, _, vs, q1, q2, q3, _⟩ := hc j w hj
            exact ⟨vs, q1, by rw [Nat.zero_add]; exact q2, q3⟩
          refine ⟨⟨G, fun j k hk => ?_, g2, fun j y hj => ?_⟩, g4⟩
          · obtain ⟨id', h1, h2⟩ := g1 j k hk
            refine ⟨⟨id', List.mem_cons_of_mem _ h1, h2⟩, fun e' => ?_⟩
            have hloc : i.loc = true := by
              refine rep.loc ?_
              cases ws with
              | nil =>
                simp only [takeL, Option.some.injEq, Prod.mk.injEq] at hL
                obtain ⟨_, rfl⟩ := hL
                cases h1
              | cons w ws => rw [rep.len]; simp [Cont.len]
            have := hs.at_inj (g4 id' h1).2.1 hd h2 (.inr ⟨i, hi, hloc, e'.symm⟩)
            exact hni (this ▸ h1)
          · have := g3 j y hj
            simpa only [Nat.zero_add] using this
      refine ⟨?_, fun k hk => ?_⟩
      · rcases hv with ⟨hloc, cap, n, rfl, hle, hblk, hn', _⟩ | ⟨_, h0, a, rfl⟩
        · exact .inr ⟨i.b, i.base, cap, n, by rw [hl], by rw [← hl]; exact hle, ⟨id, by simp, .inr ⟨i, hi, hloc, rfl⟩⟩, hblk, by rw [← he]; exact hn', row.1⟩
        · exact .inl ⟨by rw [← hl]; exact h0, a, rfl⟩
      · rcases List.mem_cons.1 hk with rfl | hk
        · exact hme k (by simp)
        · exact row.2 k hk

theorem killAll_len : ∀ (ids : List Nat) (h : Heap), (killAll h ids).length = h.length
  | [], _ => rfl
  | id :: ids, h => by simp [killAll, killAll_len ids]
theorem killAll_get {k : Nat} : ∀ (ids : List Nat) (h : Heap), (k ∉ ids → hget (killAll h ids) k = hget h k) ∧ (k ∈ ids → hget (killAll h ids) k = none)
  | [], h => by simp [killAll]
  | id :: ids, h => by
    have ih := killAll_get (k := k) ids (h.set id none)
    simp only [killAll, List.mem_cons, not_or]
    refine ⟨fun ⟨h1, h2⟩ => (ih.1 h2).trans (hget_set_other h1), fun hk => ?_⟩
    by_cases hm : k ∈ ids
    · exact ih.2 hm
    · rw [ih.1 hm]
      have he : k = id := hk.resolve_right hm
      subst he
      by_cases hl : k < h.length
      · exact hget_set_same hl
      · simp [hget, List.getD, List.getElem?_eq_none (show (h.set k none).length ≤ k by simpa using hl)]

theorem DRow.rep {c : Ctx} {e : Ty} {F : Nat → Prop} {b base : Nat} {xs : List e.C} {fx : Bool} (h : DRow c.w e.size (DCells c.w e) F b base xs) : contRep c b base (.deep fx e xs) := by
  obtain ⟨G, _, _, h3⟩ := h
  intro j x hj
  obtain ⟨vs, q1, q2, q3⟩ := h3 j x hj
  exact ⟨vs, q1, q2, (q3.cells (G := G j) fun _ h => h).one⟩

/-- An element of a deep row is written. -/
theorem DRow.write {w : World} {e : Ty} {F F' : Nat → Prop} {b base n idx sub : Nat} {xs : List e.C} {us : List Value} {x' : e.C} {G G' : Nat → Nat → Prop}
    (h1 : ∀ j k, G j k → F k ∧ k ≠ b) (h3 : ∀ (j : Nat) (x : e.C), xs[j]? = some x → ∃ vs, vs.length = e.size ∧ Lies w b (base + j * e.size) vs ∧ DCells w e x vs (G j))
    (g1 : ∀ j k, G' j k → F' k ∧ k ≠ b) (g2 : ∀ j j' k, G' j k → G' j' k → j = j') (g3 : ∀ j, j ≠ idx → G' j = G j) (hidx : idx < List.length xs) (hb : Blk w b n) (hn : base + List.length xs * e.size ≤ n) (hus : sub + us.length ≤ e.size)
    (hx : ∀ vs, vs.length = e.size → Lies w b (base + idx * e.size) vs → DCells w e xs[idx] vs (G idx) → DCells w e x' (vs.take sub ++ (us ++ vs.drop (sub + us.length))) (G' idx)) :
    DRow (w.setCells b (base + idx * e.size + sub) us) e.size (DCells (w.setCells b (base + idx * e.size + sub) us) e) F' b base (xs.set idx x') := by
  have only := only_setCells b us (base + idx * e.size + sub) w
  refine ⟨G', g1, g2, fun j x hj => ?_⟩
  have hmul : ∀ k, k < List.length xs → k * e.size + e.size ≤ List.length xs * e.size := fun k hk => by
    have : (k + 1) * e.size ≤ List.length xs * e.size := Nat.mul_le_mul_right _ hk
    rwa [Nat.add_mul, Nat.one_mul] at this
  by_cases he : j = idx
  · subst he
    rw [List.getElem?_set_self hidx] at hj
    cases hj
    obtain ⟨vs, q1, q2, q3⟩ := h3 j xs[j] (by simp [hidx])
    have hm := hmul j hidx
    have hx' := hx vs q1 q2 q3
    refine ⟨_, by simp; omega, ?_, hx'.mono (fun k hk => only.other k (g1 j k hk).2) (fun _ h => h)⟩
    have htl : (vs.take sub).length = sub := by simp; omega
    refine Lies.append (lies_set_out (.inl (by rw [htl]; exact Nat.le_refl _)) (q2.take sub)) ?_
    rw [htl]
    refine Lies.append (lies_set_in hb (by omega)) ?_
    have := q2.drop (sub + us.length)
    rw [← Nat.add_assoc] at this
    exact lies_set_out (.inr (Nat.le_refl _)) this
  · rw [List.getElem?_set_ne (fun e => he e.symm)] at hj
    obtain ⟨vs, q1, q2, q3⟩ := h3 j x hj
    refine ⟨vs, q1, lies_set_out ?_ q2, by rw [g3 j he]; exact q3.mono (fun k hk => only.other k (h1 j k hk).2) (fun _ h => h)⟩
    rw [q1]
    rcases Nat.lt_or_gt_of_ne he with hlt | hgt
    · left
      have : (j + 1) * e.size ≤ idx * e.size := Nat.mul_le_mul_right _ hlt
      rw [Nat.add_mul, Nat.one_mul] at this; omega
    · right
      have : (idx + 1) * e.size ≤ j * e.size := Nat.mul_le_mul_right _ hgt
      rw [Nat.add_mul, Nat.one_mul] at this; omega

/-- A whole element put, with the rows that it takes. -/
theorem absorb_ok {c : Ctx} {h : Heap} (hs : Sim c h) {id : Nat} {i : Info} {e : Ty} {xs : List e.C} {full : Bool} (hob : hget h id = some ⟨.deep false e xs, full⟩) (hi : c.m id = some i) {idx : Nat} (hidx : idx < List.length xs)
    {cs : List AV} {us : List Value} {x : e.C} {ids : List Nat} (hr : VReps c cs us) (ht : takeT h e cs = some (x, ids)) (hn : ids.Nodup) (hni : id ∉ ids) (hus : us.length = e.size) :
    ∃ c', c'.w = c.w.setCells i.b (i.base + idx * e.size) us ∧ Ext c h c' ((killAll h ids).set id (some ⟨.deep false e (xs.set idx x), full⟩)) ∧ Sim c' ((killAll h ids).set id (some ⟨.deep false e (xs.set idx x), full⟩)) := by
  obtain ⟨hx, hids⟩ := take_rep hs hr ht hn
  have hid := hget_lt hob
  have hd := hs.alive hob
  have rep := hs.rep hob hi
  have D := hs.deep id i false e xs full hid hi hd hob
  have hlen : i.len = List.length xs := rep.len
  have hes : i.es = e.size := rep.es
  have hloc := rep.loc (by omega)
  obtain ⟨n, hblk, hbn⟩ := rep.blk hloc
  generalize hw : c.w.setCells i.b (i.base + idx * e.size) us = w'
  have only : Only c.w w' i.b := by rw [← hw]; exact only_setCells i.b us _ c.w
  let c' : Ctx := { c with w := w', dead := fun k => c.dead k ∨ k ∈ ids, own := fun k b => c.own k b ∨ (k = id ∧ ∃ j, j ∈ ids ∧ c.at j b) }
  have nd : ∀ {k}, ¬ c'.dead k → ¬ c.dead k ∧ k ∉ ids := fun {k} hk => ⟨fun h => hk (.inl h), fun h => hk (.inr h)⟩
  have ati : c.at id i.b := .inr ⟨i, hi, hloc, rfl⟩
  have hoff : ∀ {k b}, ¬ c.dead k → k ≠ id → c.at k b → b ≠ i.b := fun {k b} hk hne ha e => hne (hs.at_inj hk hd (e ▸ ha) ati)
  have hoffid : ∀ {b}, c.own id b → b ≠ i.b := fun {b} ha e => hs.own.off hi hd hloc id hd (e ▸ ha)
  have hjd : ∀ {j}, j ∈ ids → ¬ c.dead j := fun {j} hj => (hids j hj).2.1
  have t : Tells c c' := ⟨fun _ _ h => h, fun _ h => .inl h, ⟨fun _ h => h, fun b hb => only.other b fun e => hs.apart id i hi hd hloc (e ▸ hb)⟩, only.blk⟩
  have hsz : w'.heap.size = c.w.heap.size := only.size
  have hgo : ∀ k, k ≠ id → k ∉ ids → hget ((killAll h ids).set id (some ⟨.deep false e (xs.set idx x), full⟩)) k = hget h k := fun k h1 h2 => by
    rw [hget_set_other h1]; exact (killAll_get ids h).1 h2
  have hgs : hget ((killAll h ids).set id (some ⟨.deep false e (xs.set idx x), full⟩)) id = some ⟨.deep false e (xs.set idx x), full⟩ := hget_set_same (by rw [killAll_len]; exact hid)
  have hln : ((killAll h ids).set id (some ⟨.deep false e (xs.set idx x), full⟩)).length = h.length := by simp [killAll_len]
  have own' : ∀ {k b}, ¬ c'.dead k → c'.own k b → ∃ j, ¬ c.dead j ∧ c.at j b ∧ (j = k ∨ (k = id ∧ j ∈ ids)) := fun {k b} hk ho => by
    rcases ho with ho | ⟨rfl, j, hj, ha⟩
    · exact ⟨k, (nd hk).1, .inl ho, .inl rfl⟩
    · exact ⟨j, hjd hj, ha, .inr ⟨rfl, hj⟩⟩
  have hDR : DRow w' e.size (DCells w' e) (c'.own id) i.b i.base (xs.set idx x) := by
    obtain ⟨G, h1, h2, h3⟩ := D.row
    rw [← hw]
    refine DRow.write (sub := 0) (us := us) (G := G) (G' := fun j => if j = idx then (fun b => ∃ k, k ∈ ids ∧ c.at k b) else G j) h1 h3 (fun j k hk => ?_) (fun j j' k hk hk' => ?_) (fun j hj => by simp [hj]) hidx hblk (by rw [← hlen, ← hes]; exact hbn) (by omega) (fun vs q1 q2 q3 => ?_)
    · by_cases hj : j = idx
      · simp only [hj, if_true] at hk
        obtain ⟨k', hk1, hk2⟩ := hk
        exact ⟨.inr ⟨rfl, k', hk1, hk2⟩, hoff (hjd hk1) (fun e => hni (e ▸ hk1)) hk2⟩
      · simp only [hj, if_false] at hk
        exact ⟨.inl (h1 j k hk).1, (h1 j k hk).2⟩
    · by_cases hj : j = idx
      · by_cases hj' : j' = idx
        · rw [hj, hj']
        · simp only [hj, if_true] at hk
          simp only [hj', if_false] at hk'
          obtain ⟨k', hk1, hk2⟩ := hk
          exact absurd (hs.at_inj (hjd hk1) hd hk2 (.inl (h1 j' k hk').1)) (fun e => hni (e ▸ hk1))
      · simp only [hj, if_false] at hk
        by_cases hj' : j' = idx
        · simp only [hj', if_true] at hk'
          obtain ⟨k', hk1, hk2⟩ := hk'
          exact absurd (hs.at_inj (hjd hk1) hd hk2 (.inl (h1 j k hk).1)) (fun e => hni (e ▸ hk1))
        · simp only [hj', if_false] at hk'
          exact h2 j j' k hk hk'
    · simp only [if_true, List.take_zero, List.nil_append]
      rw [List.drop_eq_nil_of_le (by omega), List.append_nil]
      exact hx
  refine ⟨c', rfl, ⟨⟨fun _ h => h, Nat.le_of_eq hsz.symm, t.k.keep, only.blk, fun b _ hnb => ?_, ?_, fun _ h => .inl h, only.os, only.tape, only.output⟩, by rw [hln]; exact Nat.le_refl _, fun _ _ h => h, fun k j h1 h2 => absurd (h2.symm.trans h1) (by simp), fun _ h => .inl h, fun k hk => ?_⟩,
    ⟨fun k j h1 h2 h3 => ?_, fun k h1 h2 => ?_, fun k j h1 h2 h3 => ?_, fun a b j j' h1 h2 h3 h4 => hs.inj a b j j' h1 h2 (nd h3).1 (nd h4).1, fun b hb => by simp only [c', hsz]; exact hs.plow b hb, fun k j h1 h2 h3 => hs.apart k j h1 (nd h2).1 h3, ⟨?_, ?_, ?_, ?_, ?_⟩, ?_⟩⟩
  · exact only.other b fun e => hnb ⟨id, hid, hd, e ▸ ati⟩
  · rintro b ⟨k, h1, h2, h3 | h3⟩
    · obtain ⟨j, q1, q2, q3⟩ := own' h2 h3
      refine .inr ⟨j, ?_, q1, q2⟩
      rcases q3 with rfl | ⟨_, q3⟩
      · rw [hln] at h1; exact h1
      · exact (hids j q3).1
    · exact .inr ⟨k, by rw [hln] at h1; exact h1, (nd h2).1, .inr h3⟩
  · rcases hk with hk | hk
    · exact .inl hk
    · exact .inr (by rw [hln]; exact (hids k hk).1)
  · rw [hln] at h1
    by_cases he : k = id
    · subst he
      have : j = i := by rw [hi] at h2; exact (Option.some.inj h2).symm
      subst this
      refine ⟨_, hgs, ⟨by rw [hlen]; simp [Cont.len], hes, rep.pos, rep.full, rep.loc, fun hl => by obtain ⟨m, hm, hm'⟩ := rep.blk hl; exact ⟨m, only.blk _ _ hm, hm'⟩, DRow.rep (c := c') hDR⟩⟩
    · obtain ⟨o, ho, hr'⟩ := hs.obj k j h1 h2 (nd h3).1
      exact ⟨o, by rw [hgo k he (nd h3).2]; exact ho, hr'.mono t fun hl => only.other _ (hoff (nd h3).1 he (.inr ⟨j, h2, hl, rfl⟩))⟩
  · rw [hln] at h1
    by_cases he : k = id
    · subst he; exact absurd h2 (fun h => h.elim hd hni)
    · rw [hget_set_other he]
      by_cases hk : k ∈ ids
      · exact (killAll_get ids h).2 hk
      · rw [(killAll_get ids h).1 hk]; exact hs.gone k h1 (h2.resolve_right hk)
  · simp only [c', hsz]; exact hs.low k j h1 (nd h2).1 h3
  · intro k b h1 h2
    obtain ⟨j, q1, q2, _⟩ := own' h1 h2
    simp only [c', hsz]; exact hs.at_low q1 q2
  · intro k k' b h1 h2 h3 h4
    obtain ⟨j, q1, q2, q3⟩ := own' h1 h3
    obtain ⟨j', p1, p2, p3⟩ := own' h2 h4
    have := hs.at_inj q1 p1 q2 p2
    subst this
    rcases q3 with rfl | ⟨rfl, q3⟩
    · rcases p3 with rfl | ⟨rfl, p3⟩
      · rfl
      · exact absurd p3 (nd h1).2
    · rcases p3 with rfl | ⟨rfl, p3⟩
      · exact absurd q3 (nd h2).2
      · rfl
  · intro k k' j h1 h2 h3 h4 h5
    obtain ⟨j', q1, q2, q3⟩ := own' h1 h5
    have := hs.at_inj q1 (nd h2).1 q2 (.inr ⟨j, h3, h4, rfl⟩)
    subst this
    rcases q3 with rfl | ⟨rfl, q3⟩
    · rcases h5 with h5 | ⟨rfl, j2, p1, p2⟩
      · exact hs.own.off h3 (nd h2).1 h4 _ (nd h2).1 h5
      · have := hs.at_inj (hjd p1) (nd h2).1 p2 (.inr ⟨j, h3, h4, rfl⟩)
        subst this; exact hni p1
    · exact (nd h2).2 q3
  · intro k b h1 h2
    obtain ⟨j, q1, q2, _⟩ := own' h1 h2
    exact hs.at_apart q1 q2
  · intro k b h1
    rcases h1 with h1 | ⟨rfl, _⟩
    · exact hs.own.told k b h1
    · show c.m k ≠ none; rw [hi]; simp
  · intro k j fx f ys fl h1 h2 h3 h4
    rw [hln] at h1
    by_cases he : k = id
    · subst he
      have : j = i := by rw [hi] at h2; exact (Option.some.inj h2).symm
      subst this
      rw [hgs] at h4; cases h4
      exact ⟨hDR, fun h => (by cases h), fun a b v hv => (by have := (D.hd' a b v hv).1; cases this)⟩
    · rw [hgo k he (nd h3).2] at h4
      exact hs.deepStay h1 h2 (nd h3).1 h4 (fun _ h => .inl h) fun b hb => only.other b (hoff (nd h3).1 he hb)

section
variable {ρ : Type} {P : Program} {E : Env} {s : List AV} {h : Heap} {o : Oper} {x : ρ}

theorem set_splice {α : Type} (l : List α) (n : Nat) (u : α) (hn : n < l.length) : l.take n ++ ([u] ++ l.drop (n + [u].length)) = l.set n u := by
  rw [List.set_eq_take_append_cons_drop, if_pos hn]; rfl

theorem rowAt_lt : ∀ {t : Ty} {sub : Nat}, (rowAt t sub).isSome = true → sub < t.size := by
  intro t
  induction t with
  | pair a b iha ihb =>
    intro sub h
    unfold rowAt at h
    by_cases hlt : (Nat.blt sub a.size) = true
    · rw [hlt, cond_true] at h
      have := iha h
      simp only [Ty.size]; omega
    · simp only [Bool.not_eq_true] at hlt
      rw [hlt, cond_false] at h
      have := ihb h
      simp only [Ty.size]; omega
  | row e _ => intro sub h; cases sub <;> simp [rowAt, Ty.size] at h ⊢
  | _ => intro sub h; simp [rowAt] at h

theorem storeD_len {ti : TI} {id idx sub : Nat} {fx : Bool} {e : Ty} {xs : List e.C} {full : Bool} {v : AV} {h' : Heap} (hst : storeD ti h id idx sub fx e xs full v = some h') : h'.length = h.length := by
  unfold storeD at hst
  split at hst
  · by_cases h2 : ((ti.size == 1) && !ti.agg) = true
    · rw [h2, cond_true] at hst; cases hst; simp
    · simp only [Bool.not_eq_true] at h2; rw [h2] at hst; cases hst
  · by_cases h2 : (!fx && (sub == 0) && (ti.size == e.size) && (ti.agg == e.isAgg) && (v.size == e.size) && (v.isAgg == e.isAgg)) = true
    · rw [h2, cond_true] at hst
      split at hst
      · rename_i x' ids _
        by_cases h3 : (once ids && !ids.contains id) = true
        · rw [h3, cond_true] at hst; cases hst; simp [killAll_len]
        · simp only [Bool.not_eq_true] at h3; rw [h3] at hst; cases hst
      · cases hst
    · simp only [Bool.not_eq_true] at h2; rw [h2] at hst; cases hst

theorem takeT_ids {h : Heap} : ∀ {t : Ty} {cs : List AV} {x : t.C} {ids : List Nat}, takeT h t cs = some (x, ids) → (∀ c ∈ cs, isRaw h c = false) → ∀ j ∈ ids, AV.sl j ∈ cs := by
  intro t
  induction t with
  | pair a b iha ihb =>
    intro cs x ids ht hr j hj
    obtain ⟨i1, i2, h1, h2, rfl⟩ := take_pair ht
    rcases List.mem_append.1 hj with hj | hj
    · exact List.mem_of_mem_take (iha h1 (fun c hc => hr c (List.mem_of_mem_take hc)) j hj)
    · exact List.mem_of_mem_drop (ihb h2 (fun c hc => hr c (List.mem_of_mem_drop hc)) j hj)
  | row e _ =>
    intro cs x ids ht hr j hj
    rcases take_row ht with ⟨_, _, rfl, _⟩ | ⟨id, i2, rfl, rfl, ⟨rfl, _⟩ | ⟨d, vs, f, hg, _⟩⟩
    · cases hj
    · simp only [List.mem_singleton] at hj; subst hj; simp
    · have := hr (.sl id) (by simp)
      simp [isRaw, hg] at this
  | node => intro cs x ids ht; simp [takeT] at ht
  | unit =>
    intro cs x ids ht _ j hj
    match cs, ht with
    | [], ht => simp only [takeT] at ht; cases ht; cases hj
    | _ :: _, ht => simp [takeT] at ht
  | _ =>
    intro cs x ids ht _ j hj
    match cs, ht with
    | [], ht => simp [takeT] at ht
    | _ :: _ :: _, ht => simp [takeT] at ht
    | [v], ht =>
      cases v <;> simp only [takeT, reduceCtorEq] at ht
      first
        | (cases ht; cases hj; done)
        | (split at ht
           · cases ht; cases hj
           · cases ht)
theorem cells_tells {v : AV} {j : Nat} (h : AV.sl j ∈ v.cells) : tells j 4 v = true := by
  have no : ∀ {t : Ty} {x : t.C}, AV.sl j ∉ cellsT t x := by
    intro t
    induction t with
    | pair a b iha ihb => intro x hm; simp only [cellsT, List.mem_append] at hm; exact hm.elim iha ihb
    | _ => intro x hm; simp [cellsT] at hm
  cases v with
  | agg cs => simp only [AV.cells] at h; simp only [tells]; exact List.any_eq_true.2 ⟨_, h, by simp [tells]⟩
  | tv t x =>
    simp only [AV.cells] at h
    cases hc : t.isAgg with
    | true => rw [hc, cond_true] at h; exact absurd h no
    | false => rw [hc, cond_false] at h; simp at h
  | sl i => simp [AV.cells] at h; subst h; simp [tells]
  | _ => simp [AV.cells] at h
theorem killAll_ne {j : Nat} : ∀ {ids : List Nat} {h : Heap}, j ∉ ids → hget (killAll h ids) j = hget h j
  | [], _, _ => rfl
  | i :: ids, h, hn => by
    simp only [List.mem_cons, not_or] at hn
    rw [killAll, killAll_ne hn.2, hget_set_ne hn.1]
theorem storeD_keep {ti : TI} {id idx sub : Nat} {fx : Bool} {e : Ty} {xs : List e.C} {full : Bool} {v : AV} {h' : Heap} (hst : storeD ti h id idx sub fx e xs full v = some h') {j : Nat} (h1 : j ≠ id) (h2 : tells j 4 v = false) (hr : ∀ c ∈ v.cells, isRaw h c = false) : hget h' j = hget h j := by
  unfold storeD at hst
  split at hst
  · by_cases h2 : ((ti.size == 1) && !ti.agg) = true
    · rw [h2, cond_true] at hst; cases hst; exact hget_set_ne h1
    · simp only [Bool.not_eq_true] at h2; rw [h2] at hst; cases hst
  · by_cases h2' : (!fx && (sub == 0) && (ti.size == e.size) && (ti.agg == e.isAgg) && (v.size == e.size) && (v.isAgg == e.isAgg)) = true
    · rw [h2', cond_true] at hst
      split at hst
      · rename_i x' ids ht
        by_cases h3 : (once ids && !ids.contains id) = true
        · rw [h3, cond_true] at hst; cases hst
          rw [hget_set_ne h1]
          refine killAll_ne fun hm => ?_
          have := cells_tells (takeT_ids ht hr j hm)
          rw [h2] at this; cases this
        · simp only [Bool.not_eq_true] at h3; rw [h3] at hst; cases hst
      · cases hst
    · simp only [Bool.not_eq_true] at h2'; rw [h2'] at hst; cases hst

theorem told_storeD (hT : TOk P E) {t : TypeId} {y z : Operand} (ho : o.op = .store t y z) {ti : TI} (hti : E.ty t = some ti) {id idx sub : Nat} (hya : aeval s y = .ptr id idx sub) {fx : Bool} {e : Ty} {xs : List e.C} {full : Bool} (hob : hget h id = some ⟨.deep fx e xs, full⟩)
    {h' : Heap} (hst : storeD ti h id idx sub fx e xs full (aeval s z) = some h') {K : AV → Heap → Bool → Option ρ} (hk : K .undef h' true = some x) : Told P s h o K x := by
  have ty := hT.is hti
  have hlen' := storeD_len hst
  have hy : AV.ptr id idx sub ∈ opVals s h o.op := mem_vals (by rw [ho, ← hya]; simp [Op.operands])
  have hz : aeval s z ∈ opVals s h o.op := mem_vals (by rw [ho]; simp [Op.operands])
  refine ⟨_, _, _, hk, ?_, by omega, fun h => (by cases h), fun j _ hj => storeD_keep hst (touch_ptr hj hy) (touch_of hj hz) fun q hq => by
    cases hr : isRaw h q with
    | false => rfl
    | true => rw [all_vals (v := aeval s z) (by rw [ho]; simp [Op.operands]) hq hr j] at hj; cases hj⟩
  intro c ac hs hf hsl next Q hn
  have hid := hget_lt hob
  have hd := hs.alive hob
  have hr := hsl.eval y; rw [hya] at hr
  simp only [VRep, ptrRep] at hr
  obtain ⟨i, hi, hix, hp⟩ := hr.2.resolve_left hd
  have rep := hs.rep hob hi
  have hlen : i.len = List.length xs := rep.len
  have hes : i.es = e.size := rep.es
  have hloc := rep.loc (by omega)
  obtain ⟨n, hblk, hbn⟩ := rep.blk hloc
  have hidx : idx < List.length xs := by omega
  have D := hs.deep id i fx e xs full hid hi hd hob
  have hmul : idx * e.size + e.size ≤ List.length xs * e.size := by
    have : (idx + 1) * e.size ≤ List.length xs * e.size := Nat.mul_le_mul_right _ hidx
    rwa [Nat.add_mul, Nat.one_mul] at this
  have hx0 : xs.getD idx e.dflt = xs[idx] := by simp [List.getD, hidx]
  have run : ∀ us : List Value, (ac.eval z).cells.toList = us → us.length = ti.size → sub + us.length ≤ e.size → (∀ u ∈ us, u.oneCell' = true) → (execOp ac.eval o).run P c.w = .ok .skip (c.w.setCells i.b (i.base + idx * e.size + sub) us) := by
    intro us hu h1 h2 h3
    have hrun := run_store_blk (P := P) hblk (o := i.base + idx * e.size + sub) (vs := us) (by rw [hlen, hes] at hbn; omega) h3
    have hsz := ty.size c.w
    have hcs : (ac.eval z).cells.size = ti.size := by rw [← h1, ← hu]; simp
    rw [hes] at hp
    simp [execOp, ho, hp, Instr.storeAt, Instr.sureAddr, storeVar, hsz, hcs, hu, hrun]
  unfold storeD at hst
  rw [hx0] at hst
  split at hst
  · rename_i x' hx'
    by_cases hc : ((ti.size == 1) && !ti.agg) = true
    · rw [hc, cond_true] at hst; cases hst
      simp only [Bool.and_eq_true, beq_iff_eq, Bool.not_eq_true'] at hc
      obtain ⟨w1, w2, w3⟩ := setW_word hx'
      obtain ⟨q1, q2⟩ := (hsl.eval z).cells (a := aeval s z) (by rw [w3]; simp [w2])
      rw [w3] at q1
      obtain ⟨u, hu, hur⟩ := q1.one_of
      rw [hu] at q2
      obtain ⟨G, h1, h2, h3⟩ := D.row
      obtain ⟨vs0, v1, v2, v3⟩ := h3 idx xs[idx] (by simp [hidx])
      have hsub : sub + [u].length ≤ e.size := by
        have := (setW_ok v3 hx' hur).1
        simp only [List.length_cons, List.length_nil]; omega
      have only := only_setCells i.b [u] (i.base + idx * e.size + sub) c.w
      have htell := only.keeps (c := c) (hs.apart id i hi hd hloc)
      have hDR : DRow (c.w.setCells i.b (i.base + idx * e.size + sub) [u]) e.size (DCells (c.w.setCells i.b (i.base + idx * e.size + sub) [u]) e) (c.own id) i.b i.base (xs.set idx x') :=
        DRow.write (us := [u]) (G := G) (G' := G) h1 h3 h1 h2 (fun _ _ => rfl) hidx hblk (by rw [← hlen, ← hes]; exact hbn) hsub fun vs q1 q2 q3 => by
          obtain ⟨p1, p2⟩ := setW_ok q3 hx' hur
          rw [set_splice vs sub u p1]; exact p2
      have hrep' : ObjRep { c with w := c.w.setCells i.b (i.base + idx * e.size + sub) [u] } i ⟨.deep fx e (xs.set idx x'), full⟩ :=
        ⟨by rw [hlen]; simp [Cont.len], hes, rep.pos, rep.full, rep.loc, fun hl => by obtain ⟨m, hm, hm'⟩ := rep.blk hl; exact ⟨m, only.blk _ _ hm, hm'⟩, DRow.rep (c := { c with w := c.w.setCells i.b (i.base + idx * e.size + sub) [u] }) hDR⟩
      have hrow := setW_row hx'
      have hcell : ∀ a b, (rowAt e b).isSome = true → cellAt (c.w.setCells i.b (i.base + idx * e.size + sub) [u]) i.b (i.base + a * e.size + b) = cellAt c.w i.b (i.base + a * e.size + b) := by
        intro a b hb
        have hb' := rowAt_lt hb
        simp only [List.length_cons, List.length_nil] at hsub
        refine World.cell?_setCells_out i.b [u] _ c.w ⟨i.b, i.base + a * e.size + b, none⟩ fun _ _ => ?_
        simp only [List.length_cons, List.length_nil]
        by_cases hab : a = idx
        · subst hab
          have : b ≠ sub := fun e => by rw [e, hrow] at hb; cases hb
          omega
        · rcases Nat.lt_or_gt_of_ne hab with hlt | hgt
          · have : (a + 1) * e.size ≤ idx * e.size := Nat.mul_le_mul_right _ hlt
            rw [Nat.add_mul, Nat.one_mul] at this; omega
          · have : (idx + 1) * e.size ≤ a * e.size := Nat.mul_le_mul_right _ hgt
            rw [Nat.add_mul, Nat.one_mul] at this; omega
      obtain ⟨g1, g2⟩ := write_ok hs hi hd hid (.inl hloc) only (h' := h.set id (some ⟨.deep fx e (xs.set idx x'), full⟩)) (by simp) (fun k hk => hget_set_other hk) (hget_set_same hid) hrep' (fun fx' e' xs' hc' => by
        cases hc'
        exact ⟨hDR, fun hf a b v p1 p2 p3 => D.hd hf a b v (by simpa using p1) p2 (by rw [← hcell a b p2]; exact p3), fun a b v hv => by
          obtain ⟨p1, p2, p3, p4⟩ := D.hd' a b v hv
          exact ⟨p1, by simpa using p2, p3, (hcell a b p3).trans p4⟩⟩)
      unfold Oper.wp
      rw [run [u] hu (by simp [hc.1]) hsub q2]
      exact hn _ Go.undef g1 g2 (by simp [VRep]) (by simp)
    · simp only [Bool.not_eq_true] at hc; rw [hc] at hst; cases hst
  · by_cases hc : (!fx && (sub == 0) && (ti.size == e.size) && (ti.agg == e.isAgg) && ((aeval s z).size == e.size) && ((aeval s z).isAgg == e.isAgg)) = true
    · rw [hc, cond_true] at hst
      simp only [Bool.and_eq_true, beq_iff_eq, Bool.not_eq_true'] at hc
      obtain ⟨⟨⟨⟨⟨rfl, rfl⟩, c3⟩, c4⟩, c5⟩, c6⟩ := hc
      split at hst
      · rename_i x' ids htk
        by_cases ho' : (once ids && !ids.contains id) = true
        · rw [ho', cond_true] at hst; cases hst
          simp only [Bool.and_eq_true, Bool.not_eq_true', List.contains_eq_mem, decide_eq_false_iff_not] at ho'
          obtain ⟨q1, q2⟩ := (hsl.eval z).cells (a := aeval s z) (take_one htk)
          have hul : (ac.eval z).cells.toList.length = e.size := by rw [← q1.length, ← AV.size_cells, c5]
          obtain ⟨c', e1, e2, e3⟩ := absorb_ok hs hob hi hidx q1 htk (once_ok ho'.1) ho'.2 hul
          unfold Oper.wp
          rw [run _ rfl (by rw [hul, c3]) (by omega) q2, Nat.add_zero, ← e1]
          exact hn c' Go.undef e2 e3 (by simp [VRep]) (by simp)
        · simp only [Bool.not_eq_true] at ho'; rw [ho'] at hst; cases hst
      · cases hst
    · simp only [Bool.not_eq_true] at hc; rw [hc] at hst; cases hst
end
end Go.AM
namespace Go.AM

/-! Soundness: stores. -/
section
variable {ρ : Type} {P : Program} {E : Env} {s : List AV} {h : Heap} {o : Oper} {x : ρ}

theorem ContV.get {c : Ctx} {ct : Cont} {L : List (List Value)} (hnd : ct.isDeep = false) (h : ContV c ct L) {i : Nat} (hi : i < ct.len) : ∃ vs, L[i]? = some vs ∧ VReps c (ct.get i).cells vs ∧ (∀ v ∈ vs, v.oneCell' = true) ∧ (ct.get i).cells.length = ct.es := by
  cases ct with
  | typed e xs =>
    have h' : All2 (ElemT c e) xs L := h
    have hlt : i < xs.length := hi
    have hx : xs[i]? = some xs[i] := List.getElem?_eq_getElem hlt
    obtain ⟨vs, hvs, h1, h2⟩ := h'.get hx
    refine ⟨vs, hvs, ?_, h2.one, ?_⟩
    · have hd : xs.getD i e.dflt = xs[i] := by rw [List.getD_eq_getElem?_getD, hx]; rfl
      simp only [Cont.get, hd]
      have := h2.vreps
      cases e <;> exact this
    · have : ∀ (y : e.C), (tvn e y).cells.length = e.size := fun y => by
        cases e <;> simp [tvn, AV.cells, Ty.size, Ty.isAgg, cellsT, cellsT_len]
      simp only [Cont.get, Cont.es]; exact this _
  | raw a es d xs =>
    have hlt : i < xs.length := hi
    have hx : xs[i]? = some xs[i] := List.getElem?_eq_getElem hlt
    obtain ⟨vs, hvs, h1, h2, h3, h4, h5⟩ := h.2.2.get hx
    have hd : xs.getD i d = xs[i] := by rw [List.getD_eq_getElem?_getD, hx]; rfl
    simp only [Cont.get, hd, Cont.es]
    exact ⟨vs, hvs, h4, h5, by rw [← AV.size_cells, h2]⟩
  | deep fx e xs => cases hnd

/-- An element put anew. -/
theorem ContV.set {c : Ctx} {ct ct' : Cont} {L : List (List Value)} (h : ContV c ct L) {i : Nat} {v : AV} {vs : List Value} (hs : ct.set i v = some ct') (hv : VReps c v.cells vs) (h1 : ∀ u ∈ vs, u.oneCell' = true) :
    ContV c ct' (L.set i vs) ∧ ct'.len = ct.len ∧ ct'.es = ct.es ∧ vs.length = ct.es := by
  cases ct with
  | typed e xs =>
    simp only [Cont.set, Option.map_eq_some_iff] at hs
    obtain ⟨y, hy, rfl⟩ := hs
    have hc := as_ok hy hv
    exact ⟨All2.set (R := ElemT c e) i h ⟨hc.len, hc⟩, by simp [Cont.len], rfl, hc.len⟩
  | raw a es d xs =>
    simp only [Cont.set] at hs
    by_cases hb : ((v.isAgg == a) && (v.size == es)) = true
    · simp only [hb, cond_true, Option.some.injEq] at hs
      subst hs
      simp only [Bool.and_eq_true, beq_iff_eq] at hb
      have hl : vs.length = es := by rw [← hv.length, ← AV.size_cells, hb.2]
      exact ⟨⟨h.1, h.2.1, h.2.2.set i ⟨hb.1, hb.2, hl, hv, h1⟩⟩, by simp [Cont.len], rfl, hl⟩
    · simp only [Bool.not_eq_true] at hb; simp [hb] at hs
  | deep fx e xs => simp [Cont.set] at hs

theorem Cont.set_plain {ct ct' : Cont} {i : Nat} {v : AV} (hs : ct.set i v = some ct') : ct'.isDeep = false := by
  cases ct with
  | typed e xs =>
    simp only [Cont.set, Option.map_eq_some_iff] at hs
    obtain ⟨y, hy, rfl⟩ := hs; rfl
  | raw a es d xs =>
    simp only [Cont.set] at hs
    by_cases hb : ((v.isAgg == a) && (v.size == es)) = true
    · simp only [hb, cond_true, Option.some.injEq] at hs; subst hs; rfl
    · simp only [Bool.not_eq_true] at hb; simp [hb] at hs
  | deep fx e xs => simp [Cont.set] at hs

theorem stored_rep {c : Ctx} {ti : TI} {es sub : Nat} {e v : AV} {vs us : List Value} (he : VReps c e.cells vs) (hes : e.cells.length = es) (hv : VReps c v.cells us) (hvs : v.size = ti.size) (hle : sub + ti.size ≤ es) :
    VReps c (stored ti es e sub v).cells (vs.take sub ++ (us ++ vs.drop (sub + us.length))) := by
  have hul : us.length = ti.size := by rw [← hv.length, ← AV.size_cells, hvs]
  have hvl := he.length
  unfold stored
  by_cases hb : ((sub == 0) && (ti.size == es) && (ti.agg == e.isAgg)) = true
  · simp only [hb, cond_true]
    simp only [Bool.and_eq_true, beq_iff_eq] at hb
    obtain ⟨⟨rfl, h2⟩, _⟩ := hb
    rw [List.take_zero, List.nil_append, List.drop_eq_nil_of_le (by omega), List.append_nil]
    exact hv
  · simp only [Bool.not_eq_true] at hb
    simp only [hb, cond_false]
    have e1 : v.cells.length = us.length := hv.length
    show VReps c (splice e.cells sub v.cells) _
    unfold splice
    rw [e1]
    exact (he.take _).append (hv.append (he.drop _))

theorem told_store (hT : TOk P E) {t : TypeId} {y z : Operand} (ho : o.op = .store t y z) {K : AV → Heap → Bool → Option ρ}
    (hk : astore E t (aeval s y) (aeval s z) h (fun h' => K .undef h' true) = some x) : Told P s h o K x := by
  generalize hya : aeval s y = a at hk
  unfold astore at hk
  split at hk
  · rename_i ti id idx sub hti
    have ty := hT.is hti
    split at hk
    · rename_i fx e xs full hob
      split at hk
      · rename_i h' hst
        exact told_storeD hT ho hti hya hob hst hk
      · cases hk
    · rename_i ob hndp hob
      have hnd : ob.c.isDeep = false := by
        rcases ob with ⟨ct, f⟩
        cases ct with
        | deep fx e xs => exact (hndp fx e xs f rfl).elim
        | _ => rfl
      by_cases hb : (((aeval s z).size == ti.size) && ((aeval s z).isAgg == ti.agg) && (aeval s z).cells.all AV.one && Nat.ble (sub + ti.size) ob.c.es) = true
      · simp only [hb, cond_true] at hk
        simp only [Bool.and_eq_true, beq_iff_eq, Nat.ble_eq] at hb
        obtain ⟨⟨⟨h1, h2⟩, h3⟩, h4⟩ := hb
        split at hk
        · rename_i ct hct
          have hy : AV.ptr id idx sub ∈ opVals s h o.op := mem_vals (by rw [ho, ← hya]; simp [Op.operands])
          refine ⟨_, _, _, hk, ?_, sta_set fun j hj => touch_ptr hj hy⟩
          intro c ac hs hf hsl next Q hn
          have hid := hget_lt hob
          have hr := hsl.eval y; rw [hya] at hr
          simp only [VRep, ptrRep] at hr
          have hd := hs.alive hob
          obtain ⟨i, hi, hix, hp⟩ := hr.2.resolve_left hd
          have rep := hs.rep hob hi
          have hloc := rep.loc (by omega)
          obtain ⟨n, hblk, hn'⟩ := rep.blk hloc
          obtain ⟨L, hL, hlies⟩ := contRep_iff.1 rep.cont
          obtain ⟨q1, q2⟩ := (hsl.eval z).cells h3
          have hulen : (ac.eval z).cells.toList.length = ti.size := by rw [← q1.length, ← AV.size_cells, h1]
          obtain ⟨vs, hvs, hg1, hg2, hg3⟩ := hL.get hnd (i := idx) (by rw [← rep.len]; exact hix)
          have hes : i.es = ob.c.es := rep.es
          have hvl : vs.length = ob.c.es := by rw [← hg1.length, hg3]
          have hst := stored_rep (ti := ti) (sub := sub) hg1 hg3 q1 h1 h4
          obtain ⟨hL', hlen', hes', hnl⟩ := hL.set hct hst (by
            intro u hu
            rcases List.mem_append.1 hu with hu | hu
            · exact hg2 u (List.mem_of_mem_take hu)
            · rcases List.mem_append.1 hu with hu | hu
              · exact q2 u hu
              · exact hg2 u (List.mem_of_mem_drop hu))
          have hmul : idx * i.es + i.es ≤ i.len * i.es := by
            have : (idx + 1) * i.es ≤ i.len * i.es := Nat.mul_le_mul_right _ hix
            rwa [Nat.add_mul, Nat.one_mul] at this
          have hroom : i.base + idx * i.es + sub + (ac.eval z).cells.toList.length ≤ n := by rw [hulen]; omega
          have hrun := run_store_blk (P := P) hblk hroom q2
          have hxrun : (execOp ac.eval o).run P c.w = .ok .skip (c.w.setCells i.b (i.base + idx * i.es + sub) (ac.eval z).cells.toList) := by
            have hsz := ty.size c.w
            have hcs : (ac.eval z).cells.size = ti.size := by rw [← hulen]; simp
            simp [execOp, ho, hp, Instr.storeAt, Instr.sureAddr, storeVar, hsz, hcs, hrun]
          have only := only_setCells i.b (ac.eval z).cells.toList (i.base + idx * i.es + sub) c.w
          have hnp := hs.apart id i hi hd hloc
          have htell := only.keeps (c := c) hnp
          have hlies2 : Lies (c.w.setCells i.b (i.base + idx * i.es + sub) (ac.eval z).cells.toList) i.b i.base (L.set idx (vs.take sub ++ ((ac.eval z).cells.toList ++ vs.drop (sub + (ac.eval z).cells.toList.length)))).flatten := by
            have hall : ∀ us ∈ L.set idx (vs.take sub ++ ((ac.eval z).cells.toList ++ vs.drop (sub + (ac.eval z).cells.toList.length))), us.length = i.es := by
              have := hL'.es; intro us hu; rw [this us hu, hes', hes]
            have hallL : ∀ us ∈ L, us.length = i.es := by intro us hu; rw [hL.es us hu, hes]
            have hl0 := (lies_flat (base := i.base) hallL).1 hlies
            refine (lies_flat (base := i.base) hall).2 fun k us hk => ?_
            by_cases hki : k = idx
            · subst hki
              have hlt : k < L.length := (List.getElem?_eq_some_iff.1 hvs).1
              rw [List.getElem?_set_self hlt] at hk
              cases hk
              have hold := hl0 k vs hvs
              have htl : (vs.take sub).length = sub := by simp; omega
              refine Lies.append ?_ ?_
              · exact lies_set_out (.inl (by rw [htl]; exact Nat.le_refl _)) (hold.take sub)
              · rw [htl]
                refine Lies.append (lies_set_in hblk hroom) ?_
                have := hold.drop (sub + (ac.eval z).cells.toList.length)
                rw [← Nat.add_assoc] at this
                exact lies_set_out (.inr (Nat.le_refl _)) this
            · rw [List.getElem?_set_ne (fun e => hki e.symm)] at hk
              have hold := hl0 k us hk
              have hul : us.length = i.es := hallL us (List.mem_of_getElem? hk)
              refine lies_set_out ?_ hold
              rw [hul, hulen]
              rcases Nat.lt_or_gt_of_ne hki with hlt | hgt
              · left
                have : (k + 1) * i.es ≤ idx * i.es := Nat.mul_le_mul_right _ hlt
                rw [Nat.add_mul, Nat.one_mul] at this; omega
              · right
                have : (idx + 1) * i.es ≤ k * i.es := Nat.mul_le_mul_right _ hgt
                rw [Nat.add_mul, Nat.one_mul] at this; omega
          have hrep' : ObjRep { c with w := c.w.setCells i.b (i.base + idx * i.es + sub) (ac.eval z).cells.toList } i { ob with c := ct } :=
            ⟨by rw [rep.len]; exact hlen'.symm, by rw [rep.es]; exact hes'.symm, rep.pos, rep.full, rep.loc, fun hl => by obtain ⟨m, hm, hm'⟩ := rep.blk hl; exact ⟨m, only.blk _ _ hm, hm'⟩,
              contRep_iff.2 ⟨_, hL'.mono htell, hlies2⟩⟩
          obtain ⟨g1, g2⟩ := write_ok hs hi hd hid (.inl hloc) only (h' := h.set id (some { ob with c := ct })) (by simp) (fun k hk => hget_set_other hk) (hget_set_same hid) hrep' (fun fx e xs hc => by have := Cont.set_plain hct; rw [show ct = _ from hc] at this; cases this)
          unfold Oper.wp
          rw [hxrun]
          exact hn _ Go.undef g1 g2 (by simp [VRep]) (by simp)
        · cases hk
      · simp only [Bool.not_eq_true] at hb; simp [hb] at hk
    · cases hk
  · cases hk
end
end Go.AM
namespace Go.AM

/-! Soundness: rows that are made. -/
theorem flat_get {es : Nat} {L : List (List Value)} (h : ∀ vs ∈ L, vs.length = es) {i r : Nat} (hr : r < es) : L.flatten[i * es + r]? = (L[i]?).bind (·[r]?) := by
  have h1 : L.flatten[i * es + r]? = (L.drop i).flatten[r]? := by rw [← flat_drop i h, List.getElem?_drop]
  rw [h1]
  cases hd : L[i]? with
  | none =>
    have : L.drop i = [] := List.drop_eq_nil_of_le (by simpa using hd)
    simp [this]
  | some vs =>
    have hlt : i < L.length := (List.getElem?_eq_some_iff.1 hd).1
    have hm : vs.length = es := h vs (List.mem_of_getElem? hd)
    rw [List.drop_eq_getElem_cons hlt, List.flatten_cons]
    have : L[i] = vs := (List.getElem?_eq_some_iff.1 hd).2
    rw [this, List.getElem?_append_left (by omega)]
    rfl

theorem made_flat (z : Array Value) (hz : 0 < z.size) (k : Nat) : (madeCells z (k * z.size)).toList = (List.replicate k z.toList).flatten := by
  have hall : ∀ vs ∈ List.replicate k z.toList, vs.length = z.size := by
    intro vs hv; rw [List.eq_of_mem_replicate hv]; simp
  apply List.ext_getElem?
  intro j
  have hj : j = j / z.size * z.size + j % z.size := by rw [Nat.mul_comm]; exact (Nat.div_add_mod j z.size).symm
  have hm : j % z.size < z.size := Nat.mod_lt _ hz
  have e1 : (List.replicate k z.toList).flatten[j]? = ((List.replicate k z.toList)[j / z.size]?).bind (·[j % z.size]?) := by
    have := flat_get hall (i := j / z.size) hm
    rwa [← hj] at this
  rw [e1]
  by_cases hlt : j < k * z.size
  · have hq : j / z.size < k := Nat.div_lt_of_lt_mul (by rwa [Nat.mul_comm])
    simp [madeCells, hlt, hq, hm]
  · have hq : ¬ j / z.size < k := fun h => hlt (by
      have : (j / z.size + 1) * z.size ≤ k * z.size := Nat.mul_le_mul_right _ h
      rw [Nat.add_mul, Nat.one_mul] at this; omega)
    simp [madeCells, hlt, hq]

theorem zero_flat (z : Array Value) (hz : 0 < z.size) (k : Nat) : (Builtin.zeroCells z k).toList = (List.replicate k z.toList).flatten := made_flat z hz k

/-- The zero of a code. -/
theorem cz_rep {c : Ctx} : ∀ {t : Ty} {as : List AV} {vs : List Value}, czOk t as = true → VReps c as vs → CellsRep c.pr c.w t t.dflt vs := by
  intro t
  induction t with
  | int k =>
    intro as vs h hr
    match as, h with
    | [.int k' n], h =>
      simp only [czOk, Bool.and_eq_true, decide_eq_true_eq, beq_iff_eq] at h
      obtain ⟨u, rfl, hu⟩ := hr.one_of
      simp only [CellsRep, Ty.dflt]; rw [hu.int, h.1, h.2]
  | bool =>
    intro as vs h hr
    match as, h with
    | [.bool b], h =>
      obtain ⟨u, rfl, hu⟩ := hr.one_of
      simp only [czOk, Bool.not_eq_true'] at h
      simp only [CellsRep, Ty.dflt]; rw [hu.bool, h]
  | str =>
    intro as vs h hr
    match as, h with
    | [.str b], h =>
      obtain ⟨u, rfl, hu⟩ := hr.one_of
      simp only [czOk, beq_iff_eq] at h
      simp only [CellsRep, Ty.dflt]
      rw [hu.str, bytes_ext (a := b) (b := ByteArray.empty) (by rw [h]; simp)]
  | row e _ =>
    intro as vs h hr
    match as, h with
    | [.nils], h =>
      obtain ⟨u, rfl, hu⟩ := hr.one_of
      simp only [VRep] at hu
      obtain ⟨a, rfl⟩ := hu
      exact ⟨_, rfl, a, 0, rfl, Nat.le_refl _, fun _ => rfl, fun h => absurd rfl h⟩
  | unit =>
    intro as vs h hr
    match as, h with
    | [], h => match vs, hr with
      | [], _ => simp [CellsRep]
      | _ :: _, hr => simp [VReps] at hr
  | pair a b iha ihb =>
    intro as vs h hr
    simp only [czOk, Bool.and_eq_true] at h
    exact ⟨_, _, (List.take_append_drop a.size vs).symm, iha h.1 (hr.take _), ihb h.2 (hr.drop _)⟩
  | node =>
    intro as vs h hr
    unfold czOk at h
    split at h <;> first | (cases h; done) | (simp_all; done) | skip
    simp only [Bool.and_eq_true, beq_iff_eq] at h
    obtain ⟨⟨h1, h2⟩, h3⟩ := h
    refine CellsRep.of_vreps (t := .node) ?_
    match vs, hr with
    | [v1, v2, v3, v4], hr =>
      simp only [VReps, and_true] at hr
      obtain ⟨q1, q2, q3, q4⟩ := hr
      simp only [cellsT, VReps, and_true, Node.op, Node.s, Node.n, Node.kids, Ty.dflt]
      refine ⟨by rw [← h1]; exact q1, ?_, by rw [← h3]; exact q3, ?_⟩
      · rw [← bytes_ext (b := ByteArray.empty) (h2.trans (by simp))]; exact q2
      · simp only [VRep] at q4
        obtain ⟨a, rfl⟩ := q4
        simp only [VRep, TRep, Ty.isAgg, Bool.false_eq_true, if_false]
        exact ⟨_, rfl, a, 0, rfl, Nat.le_refl _, fun _ => rfl, fun h => absurd rfl h⟩

section
variable {ρ : Type} {P : Program} {E : Env} {s : List AV} {h : Heap} {o : Oper} {x : ρ}

theorem fill_es {t : TypeId} {ti : TI} (ty : TyIs P t ti) (n : Nat) : (Cont.fill ti n).es = ti.size ∧ (Cont.fill ti n).len = n := by
  unfold Cont.fill
  cases hc : ti.code with
  | none => exact ⟨rfl, by simp [Cont.len]⟩
  | some e =>
    simp only
    cases hd : (ti.deep && (!flatT e && nodeless e))
    · exact ⟨(ty.code e hc).1, by simp [Cont.len]⟩
    · exact ⟨(ty.code e hc).1, by simp [Cont.len]⟩

theorem fill_rep {t : TypeId} {ti : TI} (ty : TyIs P t ti) {c : Ctx} {zs : List Value} (hz : VReps c ti.zero.cells zs) (h1 : ∀ v ∈ zs, v.oneCell' = true) (n : Nat) : ContV c (Cont.fill ti n) (List.replicate n zs) := by
  have hl : zs.length = ti.size := by rw [← hz.length, ty.zlen]
  unfold Cont.fill
  cases hc : ti.code with
  | none => exact ⟨ty.zagg, ty.zsize, All2.replicate ⟨ty.zagg, ty.zsize, hl, hz, h1⟩ n⟩
  | some e =>
    obtain ⟨q1, q2, q3⟩ := ty.code e hc
    simp only
    cases hd : (ti.deep && (!flatT e && nodeless e))
    · exact All2.replicate (R := ElemT c e) ⟨by rw [hl, q1], cz_rep q3 hz⟩ n
    · exact All2.replicate (R := ElemD e.size) ⟨by rw [hl, q1], h1⟩ n

theorem cz_D {c : Ctx} {w : World} {F : Nat → Prop} : ∀ {t : Ty} {as : List AV} {vs : List Value}, czOk t as = true → nodeless t = true → VReps c as vs → DCells w t t.dflt vs F := by
  intro t
  induction t generalizing F with
  | int k => intro as vs h _ hr; exact cz_rep (t := .int k) h hr
  | bool => intro as vs h _ hr; exact cz_rep (t := .bool) h hr
  | str => intro as vs h _ hr; exact cz_rep (t := .str) h hr
  | unit => intro as vs h _ hr; exact cz_rep (t := .unit) h hr
  | node => intro as vs h hn; cases hn
  | row e _ =>
    intro as vs h _ hr
    match as, h with
    | [.nils], h =>
      obtain ⟨u, rfl, hu⟩ := hr.one_of
      simp only [VRep] at hu
      obtain ⟨a, rfl⟩ := hu
      exact .inl ⟨rfl, a, rfl⟩
  | pair a b iha ihb =>
    intro as vs h hn hr
    simp only [czOk, Bool.and_eq_true] at h
    simp only [nodeless, Bool.and_eq_true] at hn
    exact ⟨_, _, fun _ => False, fun _ => False, (List.take_append_drop a.size vs).symm, fun _ h => h.elim, fun _ h => h.elim, fun _ h => h.elim, iha h.1 hn.1 (hr.take _), ihb h.2 hn.2 (hr.drop _)⟩

theorem fill_D {t : TypeId} {ti : TI} (ty : TyIs P t ti) {c : Ctx} {h : Heap} {zs : List Value} (hz : VReps c ti.zero.cells zs) {n : Nat} {w' : World} {D : List Value} (hp : Pushed c.w w' ((List.replicate n zs).flatten ++ D)) {fx : Bool} {e : Ty} {xs : List e.C}
    (hc : Cont.fill ti n = .deep fx e xs) {i : Info} (hb : i.b = c.w.heap.size) (h0 : i.base = 0) (hhd : i.hd = fun _ _ _ => False) {c' : Ctx} (hw : c'.w = w') {id : Nat} : DeepRow c' id i fx e xs := by
  unfold Cont.fill at hc
  cases hcd : ti.code with
  | none => simp [hcd] at hc
  | some f =>
    rw [hcd] at hc
    cases hd : ti.deep && (!flatT f && nodeless f) with
    | false => simp [hd] at hc
    | true =>
      simp only [hd, cond_true] at hc
      cases hc
      simp only [Bool.and_eq_true] at hd
      obtain ⟨q1, q2, q3⟩ := ty.code e hcd
      have hl : zs.length = e.size := by rw [← hz.length, ty.zlen, q1]
      refine ⟨⟨fun _ _ => False, fun _ _ h => h.elim, fun _ _ _ h => h.elim, fun j x hj => ⟨zs, hl, ?_, ?_⟩⟩, fun h => (by cases h), fun a b v hv => (by rw [hhd] at hv; exact hv.elim)⟩
      · have hlj : j < n := by have := (List.getElem?_eq_some_iff.1 hj).1; simpa using this
        have := (lies_flat (w := c'.w) (b := i.b) (base := i.base) (es := e.size) (L := List.replicate n zs) (fun vs hv => by rw [(List.mem_replicate.1 hv).2, hl])).1 (by rw [hw, hb, h0]; exact hp.lies)
        exact this j zs (by simp [hlj])
      · have : x = e.dflt := by
          have hm := List.mem_of_getElem? hj
          exact (List.mem_replicate.1 hm).2
        rw [this]
        exact cz_D q3 hd.2.2 hz

/-- A new row as a slice. -/
theorem sl_new {c c' : Ctx} {w' : World} {C : List Value} {len es cap : Nat} {full : Bool} (hp : Pushed c.w w' C) (hw : c'.w = w') (hm : c'.m h.length = some (inf true c.w.heap.size 0 len es full))
    (hcap : len ≤ cap) (hfit : cap * es ≤ C.length) (hfull : full = true → cap = len) : VRep c' (.sl h.length) (.slice (some ⟨c.w.heap.size, 0, none⟩) len cap) := by
  simp only [VRep, slRep]
  exact ⟨⟨_, _, _, rfl⟩, .inr ⟨_, hm, .inl ⟨rfl, cap, C.length, rfl, hcap, by rw [hw]; exact hp.blkNew, by simpa using hfit, hfull⟩⟩⟩

theorem told_makeSlice (hT : TOk P E) {t : TypeId} {l m : Operand} (ho : o.op = .makeSlice t l m) {K : AV → Heap → Bool → Option ρ}
    (hk : (match kindOf E t, aeval s l, aeval s m with
     | some (.slice e), .int _ n, .int _ m =>
       (match E.ty e with
        | some ti =>
          bif decide (0 ≤ n) then bif decide (n ≤ m) then bif decide (m * ti.bytes ≤ (lim : Int)) then bif decide (m ≤ (lim : Int)) && Nat.blt 0 ti.size then
          K (.sl h.length) (h ++ [some ⟨Cont.fill ti n.toNat, false⟩]) false else none else none else none else none
        | none => none)
     | _, _, _ => none) = some x) : Told P s h o K x := by
  generalize hla : aeval s l = al at hk
  generalize hma : aeval s m = am at hk
  split at hk
  · rename_i e k1 n k2 m' hkt
    split at hk
    · rename_i ti hti
      by_cases h0 : 0 ≤ n
      · by_cases h1 : n ≤ m'
        · by_cases h2 : m' * ti.bytes ≤ (lim : Int)
          · by_cases h3 : m' ≤ (lim : Int)
            · have ty := hT.is hti
              have hpos : Nat.blt 0 ti.size = true := by simpa [Nat.blt_eq] using ty.pos
              simp only [h0, h1, h2, h3, hpos, decide_true, cond_true, Bool.and_true] at hk
              obtain ⟨i, z, hi, hz, hsz, hb, hrun, hzc, hzr, hz1⟩ := ty.zrun
              have hf := fill_es ty n.toNat
              have hzpos : 0 < z.cells.size := by rw [hzc]; exact ty.pos
              have hlim : (lim : Int) = 35184372088832 := rfl
              refine ⟨_, _, _, hk, OpOk.growQ (hpos := by rw [hf.1]; exact ty.pos) (Q := fun c L => ∃ zs, VReps c ti.zero.cells zs ∧ L = List.replicate n.toNat zs) (fun c w' L D hp hq fx e' xs hc => by
                obtain ⟨zs, hz', rfl⟩ := hq
                exact fill_D ty hz' hp hc rfl rfl rfl rfl (h := h)) fun c a hs hsl => ?_⟩
              have hl := hsl.eval l; rw [hla] at hl
              have hm := hsl.eval m; rw [hma] at hm
              have hrun2 := run_make (P := P) c.w t e i z (hT.slice hkt) hi hz k1 k2 n m' h0 h1 (by rw [hb, Int.mul_comm]; omega) (by omega)
              have hC : (madeCells z.cells (m'.toNat * i.size)).toList = (List.replicate n.toNat z.cells.toList).flatten ++ (List.replicate (m'.toNat - n.toNat) z.cells.toList).flatten := by
                rw [hsz, ← hzc, made_flat z.cells hzpos, ← List.flatten_append, List.replicate_append_replicate]
                congr 2; omega
              have hp := pushed_alloc c.w (madeCells z.cells (m'.toNat * i.size)) e
              rw [hC] at hp
              refine ⟨.slice (some ⟨c.w.heap.size, 0, none⟩) n.toNat m'.toNat, _, _, _, ?_, hp, fill_rep ty (hzr c) hz1 _, ⟨_, hzr c, rfl⟩, fun c' _ hw hm' => ?_⟩
              · have e1 : a.eval l = .int k1 n := hl.int
                have e2 : a.eval m = .int k2 m' := hm.int
                simp [execOp, ho, e1, e2, hrun2]
              · simp only [hf.1, hf.2] at hm'
                exact sl_new hp hw hm' (by omega) (by rw [← hC, Array.length_toList, size_madeCells, hsz]; exact Nat.le_refl _) (by simp)
            · simp [h0, h1, h2, h3] at hk
          · simp [h0, h1, h2] at hk
        · simp [h0, h1] at hk
      · simp [h0] at hk
    · cases hk
  · cases hk
end
end Go.AM
namespace Go.AM

/-! Soundness: what is built of parts. -/
theorem set_all (off : Nat) : ∀ (vs : List Value) (k : Nat) (A : Array Value), off + k + vs.length ≤ A.size →
    ((vs.zipIdx k).foldl (fun cs (p : Value × Nat) => cs.setIfInBounds (off + p.2) p.1) A).toList = A.toList.take (off + k) ++ (vs ++ A.toList.drop (off + k + vs.length))
  | [], k, A, h => by simp
  | v :: vs, k, A, h => by
    simp only [List.zipIdx_cons, List.foldl_cons]
    simp only [List.length_cons] at h
    rw [set_all off vs (k + 1) _ (by simp; omega)]
    have hlt : off + k < A.toList.length := by simp; omega
    simp only [Array.toList_setIfInBounds]
    rw [show off + (k + 1) = off + k + 1 by omega, show off + k + 1 + vs.length = off + k + (vs.length + 1) by omega, List.length_cons]
    rw [List.drop_set_of_lt (by omega)]
    have : (A.toList.set (off + k) v).take (off + k + 1) = A.toList.take (off + k) ++ [v] := by
      rw [List.take_add_one, List.getElem?_set_self hlt, List.take_set, List.set_eq_of_length_le (by simp; omega)]
      simp
    rw [this]
    simp

theorem fill_part (v : Value) (off : Nat) (A : Array Value) (h : off + v.cells.size ≤ A.size) :
    (v.cells.zipIdx.foldl (fun cs (p : Value × Nat) => cs.setIfInBounds (off + p.2) p.1) A).toList = A.toList.take off ++ (v.cells.toList ++ A.toList.drop (off + v.cells.size)) := by
  have := set_all off v.cells.toList 0 A (by simpa using h)
  rw [← Array.foldl_toList]
  simpa using this

section
variable {ρ : Type} {P : Program} {E : Env} {s : List AV} {h : Heap} {o : Oper} {x : ρ}

theorem empty_rep {t : TypeId} {ti : TI} (ty : TyIs P t ti) (c : Ctx) : ContV c (Cont.empty ti) [] := by
  unfold Cont.empty
  cases hc : ti.code with
  | none => exact ⟨ty.zagg, ty.zsize, trivial⟩
  | some e => trivial

theorem empty_es {t : TypeId} {ti : TI} (ty : TyIs P t ti) : (Cont.empty ti).es = ti.size ∧ (Cont.empty ti).len = 0 := by
  unfold Cont.empty
  cases hc : ti.code with
  | none => exact ⟨rfl, rfl⟩
  | some e => exact ⟨(ty.code e hc).1, rfl⟩

/-- One element more. -/
theorem ContV.snoc {c : Ctx} {ct ct' : Cont} {L : List (List Value)} (h : ContV c ct L) {v : AV} {u : Value} (hs : ct.snoc v = some ct') (hv : VRep c v u) :
    ContV c ct' (L ++ [u.cells.toList]) ∧ ct'.len = ct.len + 1 ∧ ct'.es = ct.es ∧ u.cells.toList.length = ct.es := by
  cases ct with
  | typed e xs =>
    simp only [Cont.snoc] at hs
    by_cases hb : v.cells.all AV.one = true
    · obtain ⟨q1, q2⟩ := hv.cells hb
      simp only [hb, cond_true, Option.map_eq_some_iff] at hs
      obtain ⟨y, hy, rfl⟩ := hs
      have hc := as_ok hy q1
      exact ⟨All2.append (R := ElemT c e) h ⟨⟨hc.len, hc⟩, trivial⟩, by simp [Cont.len], rfl, hc.len⟩
    · simp only [Bool.not_eq_true] at hb; simp [hb] at hs
  | raw a es d xs =>
    simp only [Cont.snoc] at hs
    by_cases hb : ((v.isAgg == a) && (v.size == es) && v.cells.all AV.one) = true
    · simp only [hb, cond_true, Option.some.injEq] at hs
      subst hs
      simp only [Bool.and_eq_true, beq_iff_eq] at hb
      obtain ⟨q1, q2⟩ := hv.cells hb.2
      have hl : u.cells.toList.length = es := by rw [← q1.length, ← AV.size_cells, hb.1.2]
      exact ⟨⟨h.1, h.2.1, h.2.2.append ⟨⟨hb.1.1, hb.1.2, hl, q1, q2⟩, trivial⟩⟩, by simp [Cont.len], rfl, hl⟩
    · simp only [Bool.not_eq_true] at hb; simp [hb] at hs
  | deep fx e xs => simp [Cont.snoc] at hs

theorem Cont.snoc_plain {ct ct' : Cont} {v : AV} (hs : ct.snoc v = some ct') : ct'.isDeep = false := by
  cases ct with
  | typed e xs =>
    simp only [Cont.snoc] at hs
    by_cases hb : v.cells.all AV.one = true
    · simp only [hb, cond_true, Option.map_eq_some_iff] at hs
      obtain ⟨y, hy, rfl⟩ := hs; rfl
    · simp only [Bool.not_eq_true] at hb; simp [hb] at hs
  | raw a es d xs =>
    simp only [Cont.snoc] at hs
    by_cases hb : ((v.isAgg == a) && (v.size == es) && v.cells.all AV.one) = true
    · simp only [hb, cond_true, Option.some.injEq] at hs; subst hs; rfl
    · simp only [Bool.not_eq_true] at hb; simp [hb] at hs
  | deep fx e xs => simp [Cont.snoc] at hs
theorem Cont.ofL_plain : ∀ (l : List AV) {ct ct' : Cont}, ct.isDeep = false → Cont.ofL l ct = some ct' → ct'.isDeep = false
  | [], ct, ct', h, ho => by simp only [Cont.ofL, Option.some.injEq] at ho; subst ho; exact h
  | v :: l, ct, ct', h, ho => by
    simp only [Cont.ofL, Option.bind_eq_some_iff] at ho
    obtain ⟨c1, h1, h2⟩ := ho
    exact Cont.ofL_plain l (Cont.snoc_plain h1) h2
theorem Cont.empty_plain (ti : TI) : (Cont.empty ti).isDeep = false := by
  unfold Cont.empty; cases ti.code <;> rfl

theorem litC_es {t : TypeId} {ti : TI} (ty : TyIs P t ti) (b : Bool) : (bif b then Cont.raw ti.agg ti.size ti.zero [] else Cont.empty ti).es = ti.size ∧ (bif b then Cont.raw ti.agg ti.size ti.zero [] else Cont.empty ti).len = 0 := by
  cases b with
  | true => exact ⟨rfl, rfl⟩
  | false => exact empty_es ty
theorem litC_plain (ti : TI) (b : Bool) : (bif b then Cont.raw ti.agg ti.size ti.zero [] else Cont.empty ti).isDeep = false := by
  cases b with
  | true => rfl
  | false => exact Cont.empty_plain ti
theorem litC_rep {t : TypeId} {ti : TI} (ty : TyIs P t ti) (c : Ctx) (b : Bool) : ContV c (bif b then Cont.raw ti.agg ti.size ti.zero [] else Cont.empty ti) [] := by
  cases b with
  | true => exact ⟨ty.zagg, ty.zsize, trivial⟩
  | false => exact empty_rep ty c
theorem ContV.ofL {c : Ctx} {ac : Act} (hsl : Slots c s ac) : ∀ (l : List Operand) {ct ct' : Cont} {L : List (List Value)}, ContV c ct L → Cont.ofL (l.map (aeval s)) ct = some ct' →
    ContV c ct' (L ++ l.map fun y => (ac.eval y).cells.toList) ∧ ct'.len = ct.len + l.length ∧ ct'.es = ct.es ∧ ∀ y ∈ l, (ac.eval y).cells.toList.length = ct.es
  | [], ct, ct', L, h, ho => by
    simp only [List.map_nil, Cont.ofL, Option.some.injEq] at ho
    subst ho
    exact ⟨by simpa using h, by simp, rfl, by simp⟩
  | y :: l, ct, ct', L, h, ho => by
    simp only [List.map_cons, Cont.ofL, Option.bind_eq_some_iff] at ho
    obtain ⟨c1, h1, h2⟩ := ho
    obtain ⟨q1, q2, q3, q4⟩ := h.snoc h1 (hsl.eval y)
    obtain ⟨r1, r2, r3, r4⟩ := ContV.ofL hsl l q1 h2
    refine ⟨by simpa using r1, by simp only [List.length_cons]; omega, r3.trans q3, fun z hz => ?_⟩
    rcases List.mem_cons.1 hz with rfl | hz
    · exact q4
    · rw [r4 z hz, q3]

/-- Elements in their order. -/
theorem fill_row (ac : Act) (size : Nat) : ∀ (l : List (Nat × Operand)) (k : Nat) (A : Array Value) (pre : List Value), ascending (l.map fun p => (p.1, aeval s p.2)) k = true → (∀ p ∈ l, (ac.eval p.2).cells.toList.length = size) →
    pre.length = k * size → A.size = k * size + l.length * size → A.toList.take (k * size) = pre →
    ∃ B, Instr.fill (fun i => some (i * size, size)) A (l.map fun p => (p.1, ac.eval p.2)) = some B ∧ B.toList = pre ++ (l.map fun p => (ac.eval p.2).cells.toList).flatten
  | [], k, A, pre, _, _, hp, hA, ht => by
    refine ⟨A, rfl, ?_⟩
    simp only [List.length_nil, Nat.zero_mul, Nat.add_zero] at hA
    simp only [List.map_nil, List.flatten_nil, List.append_nil]
    rw [← ht, ← hA, ← Array.length_toList, List.take_length]
  | (i, y) :: l, k, A, pre, ha, hs, hp, hA, ht => by
    simp only [List.map_cons, ascending, Bool.and_eq_true, beq_iff_eq] at ha
    obtain ⟨rfl, ha⟩ := ha
    have hsz : (ac.eval y).cells.size = size := by have := hs (i, y) (by simp); simpa using this
    simp only [List.length_cons, Nat.add_mul, Nat.one_mul] at hA
    have hle : i * size + (ac.eval y).cells.size ≤ A.size := by omega
    have hfp := fill_part (ac.eval y) (i * size) A hle
    simp only [List.map_cons, Instr.fill, hsz]
    rw [if_neg (by simp; omega)]
    generalize hB : (ac.eval y).cells.zipIdx.foldl (fun cs (p : Value × Nat) => cs.setIfInBounds (i * size + p.2) p.1) A = B1 at hfp
    have hB1 : B1.size = A.size := by
      have := congrArg List.length hfp
      simp only [Array.length_toList, List.length_append, List.length_take, List.length_drop] at this
      omega
    have hcl : (ac.eval y).cells.toList.length = size := by simpa using hsz
    obtain ⟨B, hf, hBl⟩ := fill_row ac size l (i + 1) B1 (pre ++ (ac.eval y).cells.toList) ha (fun p hp => hs p (by simp [hp]))
      (by rw [List.length_append, hp, hcl, Nat.add_mul, Nat.one_mul]) (by rw [hB1, hA, Nat.add_mul, Nat.one_mul]; omega)
      (by
        rw [hfp, ht, ← List.append_assoc, Nat.add_mul, Nat.one_mul]
        rw [List.take_append_of_le_length (by rw [List.length_append, hp, hcl]; exact Nat.le_refl _)]
        rw [List.take_of_length_le (by rw [List.length_append, hp, hcl]; exact Nat.le_refl _)])
    refine ⟨B, ?_, by rw [hBl]; simp⟩
    rw [← hf, ← hB]

theorem ofL_shape : ∀ (l : List AV) {ct ct' : Cont}, Cont.ofL l ct = some ct' → ct'.es = ct.es ∧ ct'.len = ct.len + l.length
  | [], ct, ct', h => by simp only [Cont.ofL, Option.some.injEq] at h; subst h; simp
  | v :: l, ct, ct', h => by
    simp only [Cont.ofL, Option.bind_eq_some_iff] at h
    obtain ⟨c1, h1, h2⟩ := h
    have hs : c1.es = ct.es ∧ c1.len = ct.len + 1 := by
      cases ct with
      | typed e xs =>
        simp only [Cont.snoc] at h1
        by_cases hb : v.cells.all AV.one = true
        · simp only [hb, cond_true, Option.map_eq_some_iff] at h1
          obtain ⟨y, _, rfl⟩ := h1
          exact ⟨rfl, by simp [Cont.len]⟩
        · simp only [Bool.not_eq_true] at hb; simp [hb] at h1
      | raw a es d xs =>
        simp only [Cont.snoc] at h1
        by_cases hb : ((v.isAgg == a) && (v.size == es) && v.cells.all AV.one) = true
        · simp only [hb, cond_true, Option.some.injEq] at h1
          subst h1
          exact ⟨rfl, by simp [Cont.len]⟩
        · simp only [Bool.not_eq_true] at hb; simp [hb] at h1
      | deep fx e xs => simp [Cont.snoc] at h1
    obtain ⟨r1, r2⟩ := ofL_shape l h2
    exact ⟨r1.trans hs.1, by simp only [List.length_cons]; omega⟩

theorem told_buildSlice (hT : TOk P E) {t : TypeId} {n : Nat} {ps : Array (Nat × Operand)} (ho : o.op = .buildSlice t n ps) {K : AV → Heap → Bool → Option ρ}
    (hk : (match kindOf E t with
     | some (.slice e) =>
       (match E.ty e with
        | some ti =>
          bif ascending (ps.toList.map fun p => (p.1, aeval s p.2)) 0 && (ps.size == n) && Nat.ble (n * ti.size) 16777216 then
          (match Cont.ofL (ps.toList.map fun p => aeval s p.2) (bif ti.rich && Nat.blt 0 n then Cont.raw ti.agg ti.size ti.zero [] else Cont.empty ti) with
           | some c => K (.sl h.length) (h ++ [some ⟨c, true⟩]) false
           | none => none) else none
        | none => none)
     | _ => none) = some x) : Told P s h o K x := by
  split at hk
  · rename_i e hkt
    split at hk
    · rename_i ti hti
      by_cases hb : (ascending (ps.toList.map fun p => (p.1, aeval s p.2)) 0 && (ps.size == n) && Nat.ble (n * ti.size) 16777216) = true
      · simp only [hb, cond_true] at hk
        simp only [Bool.and_eq_true, beq_iff_eq, Nat.ble_eq] at hb
        obtain ⟨⟨h1, h2⟩, h3⟩ := hb
        split at hk
        · rename_i ct hct
          have ty := hT.is hti
          obtain ⟨i, z, hi, hz, hsz, hby, hrun, hzc, hzr, hz1⟩ := ty.zrun
          have hee := litC_es ty (ti.rich && Nat.blt 0 n)
          have hlist : (ps.toList.map fun p => aeval s p.2) = (ps.toList.map (·.2)).map (aeval s) := by simp
          rw [hlist] at hct
          obtain ⟨hes, hlen⟩ := ofL_shape _ hct
          rw [hee.1] at hes
          have hsize : ps.toList.length = n := by simpa using h2
          have hct0 : ct.len = n := by rw [hlen, hee.2, List.length_map, List.length_map, hsize, Nat.zero_add]
          refine ⟨_, _, _, hk, OpOk.grow (ob := ⟨ct, true⟩) (hpos := by show 0 < ct.es; rw [hes]; exact ty.pos) (Cont.ofL_plain _ (litC_plain ti _) hct) fun c a hs hsl => ?_⟩
          obtain ⟨g1, g2, g3, g4⟩ := ContV.ofL hsl _ (litC_rep ty c _) hct
          have hzpos : 0 < z.cells.size := by rw [hzc]; exact ty.pos
          obtain ⟨B, hB, hBl⟩ := fill_row a ti.size ps.toList 0 (madeCells z.cells (n * ti.size)) [] h1 (fun p hp => by rw [g4 p.2 (List.mem_map_of_mem hp), hee.1]) (by simp) (by rw [size_madeCells, hsize]; simp) (by simp)
          have hBl' : B.toList = (ps.toList.map fun p => (a.eval p.2).cells.toList).flatten := by simpa using hBl
          have hL : (ps.toList.map (·.2)).map (fun y => (a.eval y).cells.toList) = ps.toList.map fun p => (a.eval p.2).cells.toList := by simp
          rw [List.nil_append, hL] at g1
          have hBsz : B.size = n * ti.size := by
            have := flat_len g1.es
            rw [← Array.length_toList, hBl', this, g1.len, hct0, hes]
          have hp : Pushed c.w (c.w.alloc (.cells B e)) ((ps.toList.map fun p => (a.eval p.2).cells.toList).flatten ++ []) := by
            rw [List.append_nil, ← hBl']; exact pushed_alloc c.w B e
          have hrun2 : (Instr.buildSlice t n (ps.map fun p => (p.1, a.eval p.2))).run P c.w = .ok (.slice (some ⟨c.w.heap.size, 0, none⟩) n n) (c.w.alloc (.cells B e)) := by
            have hmade : (Array.range (n * ti.size)).map (fun j => z.cells[j % z.cells.size]!) = madeCells z.cells (n * ti.size) := rfl
            have hsz' := ty.size c.w
            have hnot : ¬ 16777216 < n * ti.size := by omega
            by_cases h0 : n * ti.size = 0
            · have hn0 : n = 0 := by rcases Nat.mul_eq_zero.1 h0 with h | h; exact h; have := ty.pos; omega
              have hps : ps = #[] := by apply Array.eq_empty_of_size_eq_zero; omega
              subst hps
              subst hn0
              have hBe : B = #[] := by apply Array.eq_empty_of_size_eq_zero; simpa using hBsz
              subst hBe
              simp [Instr.buildSlice, run_underlying (hT.slice hkt), hsz', Instr.fill, newRow, Array.range_zero']
            · simp [Instr.buildSlice, run_underlying (hT.slice hkt), hsz', hnot, h0, hrun, hmade, hB, newRow]
          refine ⟨.slice (some ⟨c.w.heap.size, 0, none⟩) n n, _, _, _, ?_, hp, g1, fun c' _ hw hm' => ?_⟩
          · simp [execOp, ho, hrun2]
          · simp only [hes, hct0] at hm'
            exact sl_new hp hw hm' (Nat.le_refl _) (by rw [List.append_nil, ← hBl', Array.length_toList, hBsz]; exact Nat.le_refl _) (fun _ => rfl)
        · cases hk
      · simp only [Bool.not_eq_true] at hb; simp [hb] at hk
    · cases hk
  · cases hk
end
end Go.AM
namespace Go.AM

/-! Soundness: structs that are built; conversions; cuts; lengths. -/
section
variable {ρ : Type} {P : Program} {E : Env} {s : List AV} {h : Heap} {o : Oper} {x : ρ}

theorem places_ok : ∀ (gs : List Field), (∀ g ∈ gs, P.cellsOf g.type ≠ 0) → ∃ places, gs.mapM (fun f => (P.info? f.type).map fun i => (f.offset, i.size)) = some places ∧
    ∀ (i : Nat) (g : Field), gs[i]? = some g → ∃ it, P.info? g.type = some it ∧ places[i]? = some (g.offset, it.size)
  | [], _ => ⟨[], rfl, by simp⟩
  | g :: gs, h => by
    obtain ⟨pl, h1, h2⟩ := places_ok gs (fun g hg => h g (by simp [hg]))
    have hc := h g (by simp)
    cases hq : P.info? g.type with
    | none => simp [Program.cellsOf, hq] at hc
    | some it =>
      refine ⟨(g.offset, it.size) :: pl, ?_, fun i g' hg' => ?_⟩
      · simp [List.mapM_cons, hq, h1]
      · cases i with
        | zero => simp at hg'; subst hg'; exact ⟨it, hq, by simp⟩
        | succ i => simp at hg'; simpa using h2 i g' hg'

theorem foldParts_ok (hT : TOk P E) {gs : List Field} {fs : List (Nat × TypeId)} {places : List (Nat × Nat)} (hfs : gs.map (fun g => (g.offset, g.type)) = fs)
    (hpl : ∀ (i : Nat) (g : Field), gs[i]? = some g → ∃ it, P.info? g.type = some it ∧ places[i]? = some (g.offset, it.size)) {c : Ctx} {ac : Act} (hsl : Slots c s ac) :
    ∀ (l : List (Nat × Operand)) {cs cs' : List AV} {A : Array Value}, foldParts fs E (l.map fun p => (p.1, aeval s p.2)) cs = some cs' → VReps c cs A.toList →
      ∃ B, Instr.fill (places.toArray[·]?) A (l.map fun p => (p.1, ac.eval p.2)) = some B ∧ VReps c cs' B.toList
  | [], cs, cs', A, hf, hA => by
    simp only [List.map_nil, foldParts, Option.some.injEq] at hf
    subst hf
    exact ⟨A, rfl, hA⟩
  | (i, y) :: l, cs, cs', A, hf, hA => by
    simp only [List.map_cons, foldParts] at hf
    split at hf
    · cases hf
    · rename_i off t' hi
      rw [← hfs, List.getElem?_map, Option.map_eq_some_iff] at hi
      obtain ⟨g, hg, he⟩ := hi
      simp only [Prod.mk.injEq] at he
      obtain ⟨rfl, rfl⟩ := he
      obtain ⟨it, hit, hpi⟩ := hpl i g hg
      split at hf
      · cases hf
      · rename_i ti hti
        by_cases hb : (((aeval s y).size == ti.size) && (aeval s y).cells.all AV.one && Nat.ble (g.offset + (aeval s y).size) cs.length) = true
        · simp only [hb, cond_true] at hf
          simp only [Bool.and_eq_true, beq_iff_eq, Nat.ble_eq] at hb
          obtain ⟨⟨h1, h2⟩, h3⟩ := hb
          obtain ⟨q1, q2⟩ := (hsl.eval y).cells h2
          have hsz : it.size = ti.size := by
            obtain ⟨it', h', h'', _⟩ := (hT.is hti).tinfo
            rw [hit] at h'; cases h'; exact h''
          have hcl : (ac.eval y).cells.size = ti.size := by rw [← Array.length_toList, ← q1.length, ← AV.size_cells, h1]
          have hlen : cs.length = A.size := by rw [hA.length]; simp
          have hle : g.offset + (ac.eval y).cells.size ≤ A.size := by omega
          have hfp := fill_part (ac.eval y) g.offset A hle
          have hB : VReps c (splice cs g.offset (aeval s y).cells) ((ac.eval y).cells.zipIdx.foldl (fun cs (p : Value × Nat) => cs.setIfInBounds (g.offset + p.2) p.1) A).toList := by
            rw [hfp]
            unfold splice
            have : (aeval s y).cells.length = (ac.eval y).cells.size := by rw [q1.length]; simp
            rw [this]
            exact (hA.take _).append (q1.append (hA.drop _))
          obtain ⟨B, r1, r2⟩ := foldParts_ok hT hfs hpl hsl l hf hB
          refine ⟨B, ?_, r2⟩
          have hpi' : places.toArray[i]? = some (g.offset, it.size) := by simpa using hpi
          simp only [List.map_cons, Instr.fill, hpi', hsz, hcl]
          rw [if_neg (by simp; omega)]
          exact r1
        · simp only [Bool.not_eq_true] at hb; simp [hb] at hf

theorem told_build (hT : TOk P E) {t : TypeId} {ps : Array (Nat × Operand)} (ho : o.op = .build t ps) {K : AV → Heap → Bool → Option ρ}
    (hk : (match E.ty t with
     | some ⟨.struct fs, _, _, z, _, _⟩ =>
       (match foldParts fs E (ps.toList.map fun p => (p.1, aeval s p.2)) z.cells with
        | some cs => K (.agg cs) h false
        | none => none)
     | _ => none) = some x) : Told P s h o K x := by
  split at hk
  · rename_i fs n1 n2 z n3 n4 hti
    have hkd : kindOf E t = some (.struct fs) := by simp [kindOf, hti]
    obtain ⟨gs, hu, hfs, hn, _⟩ := hT.struct hkd
    obtain ⟨pl, hpl, hpi⟩ := places_ok gs.toList (fun g hg => (hn g hg).2)
    split at hk
    · rename_i cs hcs
      obtain ⟨i, z', hi, hz', hsz, hb, hrun, hzc, hzr, hz1⟩ := (hT.is hti).zrun
      refine told_pure hk fun c ac hs hsl => ?_
      obtain ⟨B, hB, hBr⟩ := foldParts_ok hT hfs hpi hsl ps.toList hcs (hzr c)
      refine ⟨.agg B, ?_, by simp only [VRep]; exact ⟨B, rfl, hBr⟩⟩
      have hbuilt : P.built t (ps.map fun p => (p.1, ac.eval p.2)).toList = some B := by
        simp only [Program.built, hi, hu, hz', hpl, Array.toList_map]
        exact hB
      simp [execOp, ho, run_build c.w t _ B hbuilt]
    · cases hk
  · cases hk

theorem bounds_ok {lo hi : Option AV} {len : Nat} {K : Nat → Nat → Option ρ} (hk : withBounds lo hi len K = some x) :
    ∃ a b, K a b = some x ∧ a ≤ b ∧ b ≤ len ∧ (∀ v, hi = some v → ∃ k, v = .int k (b : Int)) ∧ (hi = none → b = len) ∧ (∀ v, lo = some v → ∃ k, v = .int k (a : Int)) ∧ (lo = none → a = 0) := by
  unfold withBounds at hk
  split at hk
  · rename_i kb b
    by_cases h0 : 0 ≤ b
    · by_cases h1 : b ≤ (len : Int)
      · simp only [h0, h1, decide_true, cond_true] at hk
        have hbn : ((b.toNat : Nat) : Int) = b := Int.toNat_of_nonneg h0
        split at hk
        · rename_i ka a
          by_cases h2 : 0 ≤ a
          · by_cases h3 : a ≤ b
            · simp only [h2, h3, decide_true, cond_true] at hk
              have han : ((a.toNat : Nat) : Int) = a := Int.toNat_of_nonneg h2
              exact ⟨a.toNat, b.toNat, hk, by omega, by omega, fun v hv => ⟨kb, by cases hv; rw [hbn]⟩, by simp, fun v hv => ⟨ka, by cases hv; rw [han]⟩, by simp⟩
            · simp [h2, h3] at hk
          · simp [h2] at hk
        · exact ⟨0, b.toNat, hk, by omega, by omega, fun v hv => ⟨kb, by cases hv; rw [hbn]⟩, by simp, by simp, by simp⟩
        · cases hk
      · simp [h0, h1] at hk
    · simp [h0] at hk
  · split at hk
    · rename_i ka a
      by_cases h2 : 0 ≤ a
      · by_cases h3 : a ≤ (len : Int)
        · simp only [h2, h3, decide_true, cond_true] at hk
          have han : ((a.toNat : Nat) : Int) = a := Int.toNat_of_nonneg h2
          exact ⟨a.toNat, len, hk, by omega, by omega, by simp, by simp, fun v hv => ⟨ka, by cases hv; rw [han]⟩, by simp⟩
        · simp [h2, h3] at hk
      · simp [h2] at hk
    · exact ⟨0, len, hk, by omega, by omega, by simp, by simp, by simp, by simp⟩
    · cases hk
  · cases hk

/-- A cut's bounds at the model's own. -/
theorem run_bounds {c : Ctx} {ac : Act} (hsl : Slots c s ac) (isSlice : Bool) {lo hi : Option Operand} {len cap a b : Nat} (hlc : len ≤ cap ∨ isSlice = false ∧ cap = len) (hab : a ≤ b) (hb : b ≤ len)
    (h1 : ∀ v, hi.map (aeval s) = some v → ∃ k, v = .int k (b : Int)) (h2 : hi.map (aeval s) = none → b = len) (h3 : ∀ v, lo.map (aeval s) = some v → ∃ k, v = .int k (a : Int)) (h4 : lo.map (aeval s) = none → a = 0) (w : World) :
    (Instr.sliceBounds isSlice len cap (lo.map ac.eval) (hi.map ac.eval) none).run P w = .ok (a, b, cap) w := by
  have hcap : b ≤ cap := by omega
  have vint : ∀ (y : Operand) (k : IntKind) (n : Int), aeval s y = .int k n → ac.eval y = .int k n := fun y k n hy => by
    have := hsl.eval y; rw [hy] at this; exact this.int
  cases hi with
  | none =>
    have hbl := h2 rfl
    subst hbl
    cases lo with
    | none => have := h4 rfl; subst this; simp [Instr.sliceBounds]
    | some y =>
      obtain ⟨k, hy⟩ := h3 _ rfl
      have e := vint y k _ hy
      simp [Instr.sliceBounds, Instr.sliceBound, asIntOf, e, hab]
  | some z =>
    obtain ⟨kz, hz⟩ := h1 _ rfl
    have ez := vint z kz _ hz
    cases lo with
    | none => have := h4 rfl; subst this; simp [Instr.sliceBounds, Instr.sliceBound, asIntOf, ez, hcap]
    | some y =>
      obtain ⟨k, hy⟩ := h3 _ rfl
      have e := vint y k _ hy
      simp [Instr.sliceBounds, Instr.sliceBound, asIntOf, e, ez, hab, hcap]
end
end Go.AM
