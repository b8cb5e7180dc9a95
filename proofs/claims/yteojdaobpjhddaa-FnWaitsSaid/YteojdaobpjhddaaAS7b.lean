/- An interpreter of the model's code over values that are told, and its soundness. -/
import Derived.Test.YteojdaobpjhddaaAS7
namespace Go.AM

/-! Soundness: stores into deep rows. -/
theorem flat_D {pr F : Nat → Prop} {w w2 : World} : ∀ {t : Ty} {x : t.C} {vs : List Value}, flatT t = true → CellsRep pr w t x vs → DCells w2 t x vs F := by
  intro t
  induction t generalizing F with
  | int k => intro x vs _ h; exact h
  | bool => intro x vs _ h; exact h
  | str => intro x vs _ h; exact h
  | unit => intro x vs _ h; exact h
  | row e _ => intro x vs h; simp [flatT] at h
  | node => intro x vs h; simp [flatT] at h
  | pair a b iha ihb =>
    intro x vs hf h
    simp only [flatT, Bool.and_eq_true] at hf
    obtain ⟨l, r, rfl, h1, h2⟩ := h
    exact ⟨l, r, fun _ => False, fun _ => False, rfl, fun _ h => h.elim, fun _ h => h.elim, fun _ h => h.elim, iha hf.1 h1, ihb hf.2 h2⟩

theorem Sim.at_inj {c : Ctx} {h : Heap} (hs : Sim c h) {id id' b : Nat} (hd : ¬ c.dead id) (hd' : ¬ c.dead id') (h1 : c.at id b) (h2 : c.at id' b) : id = id' := by
  rcases h1 with h1 | ⟨i, q1, q2, q3⟩
  · rcases h2 with h2 | ⟨i', p1, p2, p3⟩
    · exact hs.own.inj id id' b hd hd' h1 h2
    · subst p3; exact absurd h1 (hs.own.off p1 hd' p2 id hd)
  · rcases h2 with h2 | ⟨i', p1, p2, p3⟩
    · subst q3; exact absurd h2 (hs.own.off q1 hd q2 id' hd')
    · exact hs.inj id id' i i' q1 p1 hd hd' q2 p2 (q3.trans p3.symm)
theorem Sim.at_low {c : Ctx} {h : Heap} (hs : Sim c h) {id b : Nat} (hd : ¬ c.dead id) (h1 : c.at id b) : b < c.w.heap.size := by
  rcases h1 with h1 | ⟨i, q1, q2, q3⟩
  · exact hs.own.low id b hd h1
  · subst q3; exact hs.low id i q1 hd q2
theorem Sim.at_apart {c : Ctx} {h : Heap} (hs : Sim c h) {id b : Nat} (hd : ¬ c.dead id) (h1 : c.at id b) : ¬ c.pr b := by
  rcases h1 with h1 | ⟨i, q1, q2, q3⟩
  · exact hs.own.apart id b hd h1
  · subst q3; exact hs.apart id i q1 hd q2

/-! A word of a typed value anew. -/
theorem setW_ok {w : World} : ∀ {t : Ty} {x x' : t.C} {vs : List Value} {F : Nat → Prop} {sub : Nat} {v : AV} {c : Ctx} {u : Value}, DCells w t x vs F → setW t x sub v = some x' → VRep c v u →
    sub < vs.length ∧ DCells w t x' (vs.set sub u) F := by
  intro t
  induction t with
  | int k =>
    intro x x' vs F sub v c u h hs hv
    cases sub with
    | succ n => simp [setW] at hs
    | zero =>
      cases v <;> simp only [setW, reduceCtorEq] at hs
      rename_i k' n
      split at hs
      · rename_i hk; subst hk; cases hs; cases h
        exact ⟨by simp, by rw [hv.int]; rfl⟩
      · cases hs
  | bool =>
    intro x x' vs F sub v c u h hs hv
    cases sub with
    | succ n => simp [setW] at hs
    | zero =>
      cases v <;> simp only [setW, reduceCtorEq] at hs
      cases h; cases hs; exact ⟨by simp, by rw [hv.bool]; rfl⟩
  | str =>
    intro x x' vs F sub v c u h hs hv
    cases sub with
    | succ n => simp [setW] at hs
    | zero =>
      cases v <;> simp only [setW, reduceCtorEq] at hs
      cases h; cases hs; exact ⟨by simp, by rw [hv.str]; rfl⟩
  | unit => intro x x' vs F sub v c u h hs hv; simp [setW] at hs
  | row e _ => intro x x' vs F sub v c u h hs hv; simp [setW] at hs
  | node => intro x x' vs F sub v c u h hs hv; simp [setW] at hs
  | pair a b iha ihb =>
    rintro x x' vs F sub v c u ⟨l, r, L, R, rfl, h1, h2, h3, hl, hr⟩ hs hv
    simp only [setW] at hs
    by_cases hlt : sub < a.size
    · rw [show Nat.blt sub a.size = true by simpa [Nat.blt_eq] using hlt, cond_true] at hs
      obtain ⟨y, hy, rfl⟩ := Option.map_eq_some_iff.1 hs
      obtain ⟨q1, q2⟩ := iha hl hy hv
      exact ⟨by simp; omega, _, _, L, R, List.set_append_left _ _ q1, h1, h2, h3, q2, hr⟩
    · rw [show Nat.blt sub a.size = false from Bool.eq_false_iff.2 fun h => hlt (by simpa [Nat.blt_eq] using h), cond_false] at hs
      obtain ⟨y, hy, rfl⟩ := Option.map_eq_some_iff.1 hs
      obtain ⟨q1, q2⟩ := ihb hr hy hv
      have hll := hl.len
      exact ⟨by simp; omega, _, _, L, R, by rw [List.set_append_right _ _ (by omega), hll], h1, h2, h3, hl, q2⟩

theorem setW_row : ∀ {t : Ty} {x x' : t.C} {sub : Nat} {v : AV}, setW t x sub v = some x' → rowAt t sub = none := by
  intro t
  induction t with
  | pair a b iha ihb =>
    intro x x' sub v hs
    simp only [setW] at hs
    unfold rowAt
    by_cases hlt : (Nat.blt sub a.size) = true
    · rw [hlt, cond_true] at hs
      obtain ⟨y, hy, _⟩ := Option.map_eq_some_iff.1 hs
      rw [hlt, cond_true]; exact iha hy
    · simp only [Bool.not_eq_true] at hlt
      rw [hlt, cond_false] at hs
      obtain ⟨y, hy, _⟩ := Option.map_eq_some_iff.1 hs
      rw [hlt, cond_false]; exact ihb hy
  | row e _ => intro x x' sub v hs; simp [setW] at hs
  | _ => intro x x' sub v hs; simp [rowAt]

theorem setW_word : ∀ {t : Ty} {x x' : t.C} {sub : Nat} {v : AV}, setW t x sub v = some x' → v.isAgg = false ∧ v.one = true ∧ v.cells = [v] := by
  intro t
  induction t with
  | pair a b iha ihb =>
    intro x x' sub v hs
    simp only [setW] at hs
    by_cases hlt : (Nat.blt sub a.size) = true
    · rw [hlt, cond_true] at hs
      obtain ⟨y, hy, _⟩ := Option.map_eq_some_iff.1 hs
      exact iha hy
    · simp only [Bool.not_eq_true] at hlt
      rw [hlt, cond_false] at hs
      obtain ⟨y, hy, _⟩ := Option.map_eq_some_iff.1 hs
      exact ihb hy
  | _ =>
    intro x x' sub v hs
    cases sub <;> cases v <;> first | (simp [setW] at hs; done) | exact ⟨rfl, rfl, rfl⟩

/-! What is taken. -/
theorem take_pair {h : Heap} {a b : Ty} {cs : List AV} {x : (Ty.pair a b).C} {ids : List Nat} (ht : takeT h (.pair a b) cs = some (x, ids)) :
    ∃ i1 i2, takeT h a (cs.take a.size) = some (x.1, i1) ∧ takeT h b (cs.drop a.size) = some (x.2, i2) ∧ ids = i1 ++ i2 := by
  simp only [takeT] at ht
  obtain ⟨y, hy, ht⟩ := Option.bind_eq_some_iff.1 ht
  obtain ⟨z, hz, ht⟩ := Option.map_eq_some_iff.1 ht
  cases ht
  exact ⟨_, _, hy, hz, rfl⟩
theorem take_row {h : Heap} {e : Ty} {cs : List AV} {x : List e.C} {ids : List Nat} (ht : takeT h (.row e) cs = some (x, ids)) :
    (cs = [.nils] ∧ x = [] ∧ ids = [] ∧ 0 < e.size) ∨ ∃ id, cs = [.sl id] ∧ ids = [id] ∧ ((∃ fx f, hget h id = some ⟨.deep fx e x, f⟩) ∨ (flatT e = true ∧ ∃ f, hget h id = some ⟨.typed e x, f⟩)) := by
  match cs, ht with
  | [.nils], ht =>
    simp only [takeT] at ht
    by_cases hp : Nat.blt 0 e.size = true
    · rw [hp, cond_true] at ht; cases ht
      exact .inl ⟨rfl, rfl, rfl, by simpa [Nat.blt_eq] using hp⟩
    · simp only [Bool.not_eq_true] at hp; rw [hp] at ht; cases ht
  | [.sl id], ht =>
    simp only [takeT] at ht
    split at ht
    · rename_i fx f xs fl hg
      split at ht
      · rename_i hf; subst hf; cases ht
        exact .inr ⟨id, rfl, rfl, .inl ⟨fx, fl, hg⟩⟩
      · cases ht
    · rename_i f xs fl hg
      split at ht
      · rename_i hf; subst hf
        by_cases hp : flatT f = true
        · rw [hp, cond_true] at ht; cases ht
          exact .inr ⟨id, rfl, rfl, .inr ⟨hp, fl, hg⟩⟩
        · simp only [Bool.not_eq_true] at hp; rw [hp] at ht; cases ht
      · cases ht
    · cases ht
theorem take_one {h : Heap} : ∀ {t : Ty} {cs : List AV} {x : t.C} {ids : List Nat}, takeT h t cs = some (x, ids) → cs.all AV.one = true := by
  intro t
  induction t with
  | pair a b iha ihb =>
    intro cs x ids ht
    obtain ⟨i1, i2, h1, h2, _⟩ := take_pair ht
    rw [← List.take_append_drop a.size cs, List.all_append, iha h1, ihb h2]; rfl
  | row e _ =>
    intro cs x ids ht
    rcases take_row ht with ⟨rfl, _⟩ | ⟨id, rfl, _⟩ <;> rfl
  | node => intro cs x ids ht; simp [takeT] at ht
  | unit =>
    intro cs x ids ht
    match cs, ht with
    | [], _ => rfl
    | _ :: _, ht => simp [takeT] at ht
  | _ =>
    intro cs x ids ht
    match cs, ht with
    | [], ht => simp [takeT] at ht
    | [v], ht => cases v <;> first | (simp [takeT] at ht; done) | rfl
    | _ :: _ :: _, ht => simp [takeT] at ht

theorem once_ok : ∀ {l : List Nat}, once l = true → l.Nodup
  | [], _ => List.nodup_nil
  | x :: l, h => by
    simp only [once, Bool.and_eq_true, Bool.not_eq_true', List.contains_eq_mem, decide_eq_false_iff_not] at h
    exact List.nodup_cons.2 ⟨h.1, once_ok h.2⟩

theorem take_rep {c : Ctx} {h : Heap} (hs : Sim c h) : ∀ {t : Ty} {cs : List AV} {vs : List Value} {x : t.C} {ids : List Nat}, VReps c cs vs → takeT h t cs = some (x, ids) → ids.Nodup →
    DCells c.w t x vs (fun b => ∃ id, id ∈ ids ∧ c.at id b) ∧ ∀ id, id ∈ ids → id < h.length ∧ ¬ c.dead id ∧ c.m id ≠ none := by
  intro t
  induction t with
  | int k =>
    intro cs vs x ids hr ht hn
    match cs, ht with
    | [], ht => simp [takeT] at ht
    | _ :: _ :: _, ht => simp [takeT] at ht
    | [v], ht =>
      cases v <;> simp only [takeT, reduceCtorEq] at ht
      obtain ⟨u, rfl, hu⟩ := hr.one_of
      split at ht
      · rename_i hk; subst hk; cases ht; exact ⟨by rw [hu.int]; rfl, by simp⟩
      · cases ht
  | bool =>
    intro cs vs x ids hr ht hn
    match cs, ht with
    | [], ht => simp [takeT] at ht
    | _ :: _ :: _, ht => simp [takeT] at ht
    | [v], ht =>
      cases v <;> simp only [takeT, reduceCtorEq] at ht
      obtain ⟨u, rfl, hu⟩ := hr.one_of
      cases ht; exact ⟨by rw [hu.bool]; rfl, by simp⟩
  | str =>
    intro cs vs x ids hr ht hn
    match cs, ht with
    | [], ht => simp [takeT] at ht
    | _ :: _ :: _, ht => simp [takeT] at ht
    | [v], ht =>
      cases v <;> simp only [takeT, reduceCtorEq] at ht
      obtain ⟨u, rfl, hu⟩ := hr.one_of
      cases ht; exact ⟨by rw [hu.str]; rfl, by simp⟩
  | unit =>
    intro cs vs x ids hr ht hn
    match cs, vs, hr with
    | [], [], _ => simp only [takeT, Option.some.injEq, Prod.mk.injEq] at ht; obtain ⟨_, rfl⟩ := ht; exact ⟨rfl, by simp⟩
    | _ :: _, _, _ => simp [takeT] at ht
  | node => intro cs vs x ids hr ht hn; simp [takeT] at ht
  | pair a b iha ihb =>
    intro cs vs x ids hr ht hn
    obtain ⟨i1, i2, h1, h2, rfl⟩ := take_pair ht
    have hn' := List.nodup_append.1 hn
    obtain ⟨q1, q2⟩ := iha (hr.take a.size) h1 hn'.1
    obtain ⟨p1, p2⟩ := ihb (hr.drop a.size) h2 hn'.2.1
    refine ⟨⟨_, _, _, _, (List.take_append_drop a.size vs).symm, fun k hk => ?_, fun k hk => ?_, fun k hk hk' => ?_, q1, p1⟩, fun id hid => ?_⟩
    · obtain ⟨id, h1, h2⟩ := hk; exact ⟨id, List.mem_append_left _ h1, h2⟩
    · obtain ⟨id, h1, h2⟩ := hk; exact ⟨id, List.mem_append_right _ h1, h2⟩
    · obtain ⟨id, h1, h2⟩ := hk
      obtain ⟨id', h1', h2'⟩ := hk'
      have := hs.at_inj (q2 id h1).2.1 (p2 id' h1').2.1 h2 h2'
      exact hn'.2.2 id h1 id' h1' this
    · rcases List.mem_append.1 hid with h | h
      · exact q2 id h
      · exact p2 id h
  | row e _ =>
    intro cs vs x ids hr ht hn
    rcases take_row ht with ⟨rfl, rfl, rfl, hp⟩ | ⟨id, rfl, rfl, hg⟩
    · obtain ⟨u, rfl, hu⟩ := hr.one_of
      simp only [VRep] at hu
      obtain ⟨a, rfl⟩ := hu
      exact ⟨.inl ⟨rfl, a, rfl⟩, by simp⟩
    · obtain ⟨u, rfl, hu⟩ := hr.one_of
      simp only [VRep, slRep] at hu
      obtain ⟨o, hob, hes, hlen⟩ : ∃ o, hget h id = some o ∧ o.c.es = e.size ∧ o.c.len = List.length x := by
        rcases hg with ⟨fx, f, hg⟩ | ⟨_, f, hg⟩ <;> exact ⟨_, hg, rfl, rfl⟩
      have hid := hget_lt hob
      have hd := hs.alive hob
      obtain ⟨i, hi, hv⟩ := hu.2.resolve_left hd
      have rep := hs.rep hob hi
      have hl : i.len = List.length x := by rw [rep.len, hlen]
      have he : i.es = e.size := by rw [rep.es, hes]
      refine ⟨?_, fun k hk => by simp at hk; subst hk; exact ⟨hid, hd, by rw [hi]; simp⟩⟩
      rcases hv with ⟨hloc, cap, n, rfl, hle, hblk, hn', _⟩ | ⟨_, h0, a, rfl⟩
      · refine .inr ⟨i.b, i.base, cap, n, by rw [hl], by rw [← hl]; exact hle, ⟨id, by simp, .inr ⟨i, hi, hloc, rfl⟩⟩, hblk, by rw [← he]; exact hn', ?_⟩
        rcases hg with ⟨fx, f, hg⟩ | ⟨hfl, f, hg⟩
        · exact (hs.deep id i fx e x f hid hi hd hg).row.mono (fun _ => rfl) (fun k hk => ⟨id, by simp, .inl hk⟩) fun _ _ _ _ q => q
        · have hc := rep.cont
          rw [hg] at hob; cases hob
          simp only [contRep] at hc
          exact ⟨fun _ _ => False, fun _ _ h => h.elim, fun _ _ _ h => h.elim, fun j y hj => by
            obtain ⟨vs, q1, q2, q3⟩ := hc j y hj
            exact ⟨vs, q1, q2, flat_D hfl q3⟩⟩
      · exact .inl ⟨by rw [← hl]; exact h0, a, rfl⟩

theorem killAll_len : ∀ (ids : List Nat) (h : Heap), (killAll h ids).length = h.length
  | [], _ => rfl
  | id :: ids, h => by simp [killAll, killAll_len ids]
theorem killAll_get {k : Nat} : ∀ (ids : List Nat) (h : Heap), (k ∉ ids → hget (killAll h ids) k = hget h k) ∧ (k ∈ ids → hget (killAll h ids) k = none)
  | [], h => by simp [killAll]
  | id :: ids, h => by
    have ih := killAll_get (k := k) ids (h.set id none)
    simp only [killAll, List.mem_cons, not_or]
    refine ⟨fun ⟨h1, h2⟩ => (ih.1 h2).trans (hget_set_other h1), fun hk => ?_⟩
    by_cases hm : k ∈ ids
    · exact ih.2 hm
    · rw [ih.1 hm]
      have he : k = id := hk.resolve_right hm
      subst he
      by_cases hl : k < h.length
      · exact hget_set_same hl
      · simp [hget, List.getD, List.getElem?_eq_none (show (h.set k none).length ≤ k by simpa using hl)]

theorem DRow.rep {c : Ctx} {e : Ty} {F : Nat → Prop} {b base : Nat} {xs : List e.C} {fx : Bool} (h : DRow c.w e.size (DCells c.w e) F b base xs) : contRep c b base (.deep fx e xs) := by
  obtain ⟨G, _, _, h3⟩ := h
  intro j x hj
  obtain ⟨vs, q1, q2, q3⟩ := h3 j x hj
  exact ⟨vs, q1, q2, (q3.cells (G := G j) fun _ h => h).one⟩

/-- An element of a deep row is written. -/
theorem DRow.write {w : World} {e : Ty} {F F' : Nat → Prop} {b base n idx sub : Nat} {xs : List e.C} {us : List Value} {x' : e.C} {G G' : Nat → Nat → Prop}
    (h1 : ∀ j k, G j k → F k ∧ k ≠ b) (h3 : ∀ (j : Nat) (x : e.C), xs[j]? = some x → ∃ vs, vs.length = e.size ∧ Lies w b (base + j * e.size) vs ∧ DCells w e x vs (G j))
    (g1 : ∀ j k, G' j k → F' k ∧ k ≠ b) (g2 : ∀ j j' k, G' j k → G' j' k → j = j') (g3 : ∀ j, j ≠ idx → G' j = G j) (hidx : idx < List.length xs) (hb : Blk w b n) (hn : base + List.length xs * e.size ≤ n) (hus : sub + us.length ≤ e.size)
    (hx : ∀ vs, vs.length = e.size → Lies w b (base + idx * e.size) vs → DCells w e xs[idx] vs (G idx) → DCells w e x' (vs.take sub ++ (us ++ vs.drop (sub + us.length))) (G' idx)) :
    DRow (w.setCells b (base + idx * e.size + sub) us) e.size (DCells (w.setCells b (base + idx * e.size + sub) us) e) F' b base (xs.set idx x') := by
  have only := only_setCells b us (base + idx * e.size + sub) w
  refine ⟨G', g1, g2, fun j x hj => ?_⟩
  have hmul : ∀ k, k < List.length xs → k * e.size + e.size ≤ List.length xs * e.size := fun k hk => by
    have : (k + 1) * e.size ≤ List.length xs * e.size := Nat.mul_le_mul_right _ hk
    rwa [Nat.add_mul, Nat.one_mul] at this
  by_cases he : j = idx
  · subst he
    rw [List.getElem?_set_self hidx] at hj
    cases hj
    obtain ⟨vs, q1, q2, q3⟩ := h3 j xs[j] (by simp [hidx])
    have hm := hmul j hidx
    have hx' := hx vs q1 q2 q3
    refine ⟨_, by simp; omega, ?_, hx'.mono (fun k hk => only.other k (g1 j k hk).2) (fun _ h => h)⟩
    have htl : (vs.take sub).length = sub := by simp; omega
    refine Lies.append (lies_set_out (.inl (by rw [htl]; exact Nat.le_refl _)) (q2.take sub)) ?_
    rw [htl]
    refine Lies.append (lies_set_in hb (by omega)) ?_
    have := q2.drop (sub + us.length)
    rw [← Nat.add_assoc] at this
    exact lies_set_out (.inr (Nat.le_refl _)) this
  · rw [List.getElem?_set_ne (fun e => he e.symm)] at hj
    obtain ⟨vs, q1, q2, q3⟩ := h3 j x hj
    refine ⟨vs, q1, lies_set_out ?_ q2, by rw [g3 j he]; exact q3.mono (fun k hk => only.other k (h1 j k hk).2) (fun _ h => h)⟩
    rw [q1]
    rcases Nat.lt_or_gt_of_ne he with hlt | hgt
    · left
      have : (j + 1) * e.size ≤ idx * e.size := Nat.mul_le_mul_right _ hlt
      rw [Nat.add_mul, Nat.one_mul] at this; omega
    · right
      have : (idx + 1) * e.size ≤ j * e.size := Nat.mul_le_mul_right _ hgt
      rw [Nat.add_mul, Nat.one_mul] at this; omega

/-- A whole element put, with the rows that it takes. -/
theorem absorb_ok {c : Ctx} {h : Heap} (hs : Sim c h) {id : Nat} {i : Info} {e : Ty} {xs : List e.C} {full : Bool} (hob : hget h id = some ⟨.deep false e xs, full⟩) (hi : c.m id = some i) {idx : Nat} (hidx : idx < List.length xs)
    {cs : List AV} {us : List Value} {x : e.C} {ids : List Nat} (hr : VReps c cs us) (ht : takeT h e cs = some (x, ids)) (hn : ids.Nodup) (hni : id ∉ ids) (hus : us.length = e.size) :
    ∃ c', c'.w = c.w.setCells i.b (i.base + idx * e.size) us ∧ Ext c h c' ((killAll h ids).set id (some ⟨.deep false e (xs.set idx x), full⟩)) ∧ Sim c' ((killAll h ids).set id (some ⟨.deep false e (xs.set idx x), full⟩)) := by
  obtain ⟨hx, hids⟩ := take_rep hs hr ht hn
  have hid := hget_lt hob
  have hd := hs.alive hob
  have rep := hs.rep hob hi
  have D := hs.deep id i false e xs full hid hi hd hob
  have hlen : i.len = List.length xs := rep.len
  have hes : i.es = e.size := rep.es
  have hloc := rep.loc (by omega)
  obtain ⟨n, hblk, hbn⟩ := rep.blk hloc
  generalize hw : c.w.setCells i.b (i.base + idx * e.size) us = w'
  have only : Only c.w w' i.b := by rw [← hw]; exact only_setCells i.b us _ c.w
  let c' : Ctx := { c with w := w', dead := fun k => c.dead k ∨ k ∈ ids, own := fun k b => c.own k b ∨ (k = id ∧ ∃ j, j ∈ ids ∧ c.at j b) }
  have nd : ∀ {k}, ¬ c'.dead k → ¬ c.dead k ∧ k ∉ ids := fun {k} hk => ⟨fun h => hk (.inl h), fun h => hk (.inr h)⟩
  have ati : c.at id i.b := .inr ⟨i, hi, hloc, rfl⟩
  have hoff : ∀ {k b}, ¬ c.dead k → k ≠ id → c.at k b → b ≠ i.b := fun {k b} hk hne ha e => hne (hs.at_inj hk hd (e ▸ ha) ati)
  have hoffid : ∀ {b}, c.own id b → b ≠ i.b := fun {b} ha e => hs.own.off hi hd hloc id hd (e ▸ ha)
  have hjd : ∀ {j}, j ∈ ids → ¬ c.dead j := fun {j} hj => (hids j hj).2.1
  have t : Tells c c' := ⟨fun _ _ h => h, fun _ h => .inl h, ⟨fun _ h => h, fun b hb => only.other b fun e => hs.apart id i hi hd hloc (e ▸ hb)⟩, only.blk⟩
  have hsz : w'.heap.size = c.w.heap.size := only.size
  have hgo : ∀ k, k ≠ id → k ∉ ids → hget ((killAll h ids).set id (some ⟨.deep false e (xs.set idx x), full⟩)) k = hget h k := fun k h1 h2 => by
    rw [hget_set_other h1]; exact (killAll_get ids h).1 h2
  have hgs : hget ((killAll h ids).set id (some ⟨.deep false e (xs.set idx x), full⟩)) id = some ⟨.deep false e (xs.set idx x), full⟩ := hget_set_same (by rw [killAll_len]; exact hid)
  have hln : ((killAll h ids).set id (some ⟨.deep false e (xs.set idx x), full⟩)).length = h.length := by simp [killAll_len]
  have own' : ∀ {k b}, ¬ c'.dead k → c'.own k b → ∃ j, ¬ c.dead j ∧ c.at j b ∧ (j = k ∨ (k = id ∧ j ∈ ids)) := fun {k b} hk ho => by
    rcases ho with ho | ⟨rfl, j, hj, ha⟩
    · exact ⟨k, (nd hk).1, .inl ho, .inl rfl⟩
    · exact ⟨j, hjd hj, ha, .inr ⟨rfl, hj⟩⟩
  have hDR : DRow w' e.size (DCells w' e) (c'.own id) i.b i.base (xs.set idx x) := by
    obtain ⟨G, h1, h2, h3⟩ := D.row
    rw [← hw]
    refine DRow.write (sub := 0) (us := us) (G := G) (G' := fun j => if j = idx then (fun b => ∃ k, k ∈ ids ∧ c.at k b) else G j) h1 h3 (fun j k hk => ?_) (fun j j' k hk hk' => ?_) (fun j hj => by simp [hj]) hidx hblk (by rw [← hlen, ← hes]; exact hbn) (by omega) (fun vs q1 q2 q3 => ?_)
    · by_cases hj : j = idx
      · simp only [hj, if_true] at hk
        obtain ⟨k', hk1, hk2⟩ := hk
        exact ⟨.inr ⟨rfl, k', hk1, hk2⟩, hoff (hjd hk1) (fun e => hni (e ▸ hk1)) hk2⟩
      · simp only [hj, if_false] at hk
        exact ⟨.inl (h1 j k hk).1, (h1 j k hk).2⟩
    · by_cases hj : j = idx
      · by_cases hj' : j' = idx
        · rw [hj, hj']
        · simp only [hj, if_true] at hk
          simp only [hj', if_false] at hk'
          obtain ⟨k', hk1, hk2⟩ := hk
          exact absurd (hs.at_inj (hjd hk1) hd hk2 (.inl (h1 j' k hk').1)) (fun e => hni (e ▸ hk1))
      · simp only [hj, if_false] at hk
        by_cases hj' : j' = idx
        · simp only [hj', if_true] at hk'
          obtain ⟨k', hk1, hk2⟩ := hk'
          exact absurd (hs.at_inj (hjd hk1) hd hk2 (.inl (h1 j k hk).1)) (fun e => hni (e ▸ hk1))
        · simp only [hj', if_false] at hk'
          exact h2 j j' k hk hk'
    · simp only [if_true, List.take_zero, List.nil_append]
      rw [List.drop_eq_nil_of_le (by omega), List.append_nil]
      exact hx
  refine ⟨c', rfl, ⟨⟨fun _ h => h, Nat.le_of_eq hsz.symm, t.k.keep, only.blk, fun b _ hnb => ?_, ?_, fun _ h => .inl h, only.os, only.tape, only.output⟩, by rw [hln]; exact Nat.le_refl _, fun _ _ h => h, fun k j h1 h2 => absurd (h2.symm.trans h1) (by simp), fun _ h => .inl h, fun k hk => ?_⟩,
    ⟨fun k j h1 h2 h3 => ?_, fun k h1 h2 => ?_, fun k j h1 h2 h3 => ?_, fun a b j j' h1 h2 h3 h4 => hs.inj a b j j' h1 h2 (nd h3).1 (nd h4).1, fun b hb => by simp only [c', hsz]; exact hs.plow b hb, fun k j h1 h2 h3 => hs.apart k j h1 (nd h2).1 h3, ⟨?_, ?_, ?_, ?_, ?_⟩, ?_⟩⟩
  · exact only.other b fun e => hnb ⟨id, hid, hd, e ▸ ati⟩
  · rintro b ⟨k, h1, h2, h3 | h3⟩
    · obtain ⟨j, q1, q2, q3⟩ := own' h2 h3
      refine .inr ⟨j, ?_, q1, q2⟩
      rcases q3 with rfl | ⟨_, q3⟩
      · rw [hln] at h1; exact h1
      · exact (hids j q3).1
    · exact .inr ⟨k, by rw [hln] at h1; exact h1, (nd h2).1, .inr h3⟩
  · rcases hk with hk | hk
    · exact .inl hk
    · exact .inr (by rw [hln]; exact (hids k hk).1)
  · rw [hln] at h1
    by_cases he : k = id
    · subst he
      have : j = i := by rw [hi] at h2; exact (Option.some.inj h2).symm
      subst this
      refine ⟨_, hgs, ⟨by rw [hlen]; simp [Cont.len], hes, rep.pos, rep.full, rep.loc, fun hl => by obtain ⟨m, hm, hm'⟩ := rep.blk hl; exact ⟨m, only.blk _ _ hm, hm'⟩, DRow.rep (c := c') hDR⟩⟩
    · obtain ⟨o, ho, hr'⟩ := hs.obj k j h1 h2 (nd h3).1
      exact ⟨o, by rw [hgo k he (nd h3).2]; exact ho, hr'.mono t fun hl => only.other _ (hoff (nd h3).1 he (.inr ⟨j, h2, hl, rfl⟩))⟩
  · rw [hln] at h1
    by_cases he : k = id
    · subst he; exact absurd h2 (fun h => h.elim hd hni)
    · rw [hget_set_other he]
      by_cases hk : k ∈ ids
      · exact (killAll_get ids h).2 hk
      · rw [(killAll_get ids h).1 hk]; exact hs.gone k h1 (h2.resolve_right hk)
  · simp only [c', hsz]; exact hs.low k j h1 (nd h2).1 h3
  · intro k b h1 h2
    obtain ⟨j, q1, q2, _⟩ := own' h1 h2
    simp only [c', hsz]; exact hs.at_low q1 q2
  · intro k k' b h1 h2 h3 h4
    obtain ⟨j, q1, q2, q3⟩ := own' h1 h3
    obtain ⟨j', p1, p2, p3⟩ := own' h2 h4
    have := hs.at_inj q1 p1 q2 p2
    subst this
    rcases q3 with rfl | ⟨rfl, q3⟩
    · rcases p3 with rfl | ⟨rfl, p3⟩
      · rfl
      · exact absurd p3 (nd h1).2
    · rcases p3 with rfl | ⟨rfl, p3⟩
      · exact absurd q3 (nd h2).2
      · rfl
  · intro k k' j h1 h2 h3 h4 h5
    obtain ⟨j', q1, q2, q3⟩ := own' h1 h5
    have := hs.at_inj q1 (nd h2).1 q2 (.inr ⟨j, h3, h4, rfl⟩)
    subst this
    rcases q3 with rfl | ⟨rfl, q3⟩
    · rcases h5 with h5 | ⟨rfl, j2, p1, p2⟩
      · exact hs.own.off h3 (nd h2).1 h4 _ (nd h2).1 h5
      · have := hs.at_inj (hjd p1) (nd h2).1 p2 (.inr ⟨j, h3, h4, rfl⟩)
        subst this; exact hni p1
    · exact (nd h2).2 q3
  · intro k b h1 h2
    obtain ⟨j, q1, q2, _⟩ := own' h1 h2
    exact hs.at_apart q1 q2
  · intro k b h1
    rcases h1 with h1 | ⟨rfl, _⟩
    · exact hs.own.told k b h1
    · show c.m k ≠ none; rw [hi]; simp
  · intro k j fx f ys fl h1 h2 h3 h4
    rw [hln] at h1
    by_cases he : k = id
    · subst he
      have : j = i := by rw [hi] at h2; exact (Option.some.inj h2).symm
      subst this
      rw [hgs] at h4; cases h4
      exact ⟨hDR, fun h => (by cases h), fun a b v hv => (by have := (D.hd' a b v hv).1; cases this)⟩
    · rw [hgo k he (nd h3).2] at h4
      exact hs.deepStay h1 h2 (nd h3).1 h4 (fun _ h => .inl h) fun b hb => only.other b (hoff (nd h3).1 he hb)

section
variable {ρ : Type} {P : Program} {E : Env} {s : List AV} {h : Heap} {o : Oper} {x : ρ}

theorem set_splice {α : Type} (l : List α) (n : Nat) (u : α) (hn : n < l.length) : l.take n ++ ([u] ++ l.drop (n + [u].length)) = l.set n u := by
  rw [List.set_eq_take_append_cons_drop, if_pos hn]; rfl

theorem rowAt_lt : ∀ {t : Ty} {sub : Nat}, (rowAt t sub).isSome = true → sub < t.size := by
  intro t
  induction t with
  | pair a b iha ihb =>
    intro sub h
    unfold rowAt at h
    by_cases hlt : (Nat.blt sub a.size) = true
    · rw [hlt, cond_true] at h
      have := iha h
      simp only [Ty.size]; omega
    · simp only [Bool.not_eq_true] at hlt
      rw [hlt, cond_false] at h
      have := ihb h
      simp only [Ty.size]; omega
  | row e _ => intro sub h; cases sub <;> simp [rowAt, Ty.size] at h ⊢
  | _ => intro sub h; simp [rowAt] at h

theorem storeD_len {ti : TI} {id idx sub : Nat} {fx : Bool} {e : Ty} {xs : List e.C} {full : Bool} {v : AV} {h' : Heap} (hst : storeD ti h id idx sub fx e xs full v = some h') : h'.length = h.length := by
  unfold storeD at hst
  split at hst
  · by_cases h2 : ((ti.size == 1) && !ti.agg) = true
    · rw [h2, cond_true] at hst; cases hst; simp
    · simp only [Bool.not_eq_true] at h2; rw [h2] at hst; cases hst
  · by_cases h2 : (!fx && (sub == 0) && (ti.size == e.size) && (ti.agg == e.isAgg) && (v.size == e.size) && (v.isAgg == e.isAgg)) = true
    · rw [h2, cond_true] at hst
      split at hst
      · rename_i x' ids _
        by_cases h3 : (once ids && !ids.contains id) = true
        · rw [h3, cond_true] at hst; cases hst; simp [killAll_len]
        · simp only [Bool.not_eq_true] at h3; rw [h3] at hst; cases hst
      · cases hst
    · simp only [Bool.not_eq_true] at h2; rw [h2] at hst; cases hst

theorem takeT_ids {h : Heap} : ∀ {t : Ty} {cs : List AV} {x : t.C} {ids : List Nat}, takeT h t cs = some (x, ids) → ∀ j ∈ ids, AV.sl j ∈ cs := by
  intro t
  induction t with
  | pair a b iha ihb =>
    intro cs x ids ht j hj
    obtain ⟨i1, i2, h1, h2, rfl⟩ := take_pair ht
    rcases List.mem_append.1 hj with hj | hj
    · exact List.mem_of_mem_take (iha h1 j hj)
    · exact List.mem_of_mem_drop (ihb h2 j hj)
  | row e _ =>
    intro cs x ids ht j hj
    rcases take_row ht with ⟨_, _, rfl, _⟩ | ⟨id, rfl, rfl, _⟩
    · cases hj
    · simp only [List.mem_singleton] at hj; subst hj; simp
  | node => intro cs x ids ht; simp [takeT] at ht
  | unit =>
    intro cs x ids ht j hj
    match cs, ht with
    | [], ht => simp only [takeT] at ht; cases ht; cases hj
    | _ :: _, ht => simp [takeT] at ht
  | _ =>
    intro cs x ids ht j hj
    match cs, ht with
    | [], ht => simp [takeT] at ht
    | _ :: _ :: _, ht => simp [takeT] at ht
    | [v], ht =>
      cases v <;> simp only [takeT, reduceCtorEq] at ht
      first
        | (cases ht; cases hj; done)
        | (split at ht
           · cases ht; cases hj
           · cases ht)
theorem cells_tells {v : AV} {j : Nat} (h : AV.sl j ∈ v.cells) : tells j 4 v = true := by
  have no : ∀ {t : Ty} {x : t.C}, AV.sl j ∉ cellsT t x := by
    intro t
    induction t with
    | pair a b iha ihb => intro x hm; simp only [cellsT, List.mem_append] at hm; exact hm.elim iha ihb
    | _ => intro x hm; simp [cellsT] at hm
  cases v with
  | agg cs => simp only [AV.cells] at h; simp only [tells]; exact List.any_eq_true.2 ⟨_, h, by simp [tells]⟩
  | tv t x =>
    simp only [AV.cells] at h
    cases hc : t.isAgg with
    | true => rw [hc, cond_true] at h; exact absurd h no
    | false => rw [hc, cond_false] at h; simp at h
  | sl i => simp [AV.cells] at h; subst h; simp [tells]
  | _ => simp [AV.cells] at h
theorem killAll_ne {j : Nat} : ∀ {ids : List Nat} {h : Heap}, j ∉ ids → hget (killAll h ids) j = hget h j
  | [], _, _ => rfl
  | i :: ids, h, hn => by
    simp only [List.mem_cons, not_or] at hn
    rw [killAll, killAll_ne hn.2, hget_set_ne hn.1]
theorem storeD_keep {ti : TI} {id idx sub : Nat} {fx : Bool} {e : Ty} {xs : List e.C} {full : Bool} {v : AV} {h' : Heap} (hst : storeD ti h id idx sub fx e xs full v = some h') {j : Nat} (h1 : j ≠ id) (h2 : tells j 4 v = false) : hget h' j = hget h j := by
  unfold storeD at hst
  split at hst
  · by_cases h2 : ((ti.size == 1) && !ti.agg) = true
    · rw [h2, cond_true] at hst; cases hst; exact hget_set_ne h1
    · simp only [Bool.not_eq_true] at h2; rw [h2] at hst; cases hst
  · by_cases h2' : (!fx && (sub == 0) && (ti.size == e.size) && (ti.agg == e.isAgg) && (v.size == e.size) && (v.isAgg == e.isAgg)) = true
    · rw [h2', cond_true] at hst
      split at hst
      · rename_i x' ids ht
        by_cases h3 : (once ids && !ids.contains id) = true
        · rw [h3, cond_true] at hst; cases hst
          rw [hget_set_ne h1]
          refine killAll_ne fun hm => ?_
          have := cells_tells (takeT_ids ht j hm)
          rw [h2] at this; cases this
        · simp only [Bool.not_eq_true] at h3; rw [h3] at hst; cases hst
      · cases hst
    · simp only [Bool.not_eq_true] at h2'; rw [h2'] at hst; cases hst

theorem told_storeD (hT : TOk P E) {t : TypeId} {y z : Operand} (ho : o.op = .store t y z) {ti : TI} (hti : E.ty t = some ti) {id idx sub : Nat} (hya : aeval s y = .ptr id idx sub) {fx : Bool} {e : Ty} {xs : List e.C} {full : Bool} (hob : hget h id = some ⟨.deep fx e xs, full⟩)
    {h' : Heap} (hst : storeD ti h id idx sub fx e xs full (aeval s z) = some h') {K : AV → Heap → Bool → Option ρ} (hk : K .undef h' true = some x) : Told P s h o K x := by
  have ty := hT.is hti
  have hlen' := storeD_len hst
  have hy : AV.ptr id idx sub ∈ opVals s o.op := by rw [ho, ← hya]; simp [opVals, Op.operands]
  have hz : aeval s z ∈ opVals s o.op := by rw [ho]; simp [opVals, Op.operands]
  refine ⟨_, _, _, hk, ?_, by omega, fun h => (by cases h), fun j _ hj => storeD_keep hst (touch_ptr hj hy) (touch_of hj hz)⟩
  intro c ac hs hf hsl next Q hn
  have hid := hget_lt hob
  have hd := hs.alive hob
  have hr := hsl.eval y; rw [hya] at hr
  simp only [VRep, ptrRep] at hr
  obtain ⟨i, hi, hix, hp⟩ := hr.2.resolve_left hd
  have rep := hs.rep hob hi
  have hlen : i.len = List.length xs := rep.len
  have hes : i.es = e.size := rep.es
  have hloc := rep.loc (by omega)
  obtain ⟨n, hblk, hbn⟩ := rep.blk hloc
  have hidx : idx < List.length xs := by omega
  have D := hs.deep id i fx e xs full hid hi hd hob
  have hmul : idx * e.size + e.size ≤ List.length xs * e.size := by
    have : (idx + 1) * e.size ≤ List.length xs * e.size := Nat.mul_le_mul_right _ hidx
    rwa [Nat.add_mul, Nat.one_mul] at this
  have hx0 : xs.getD idx e.dflt = xs[idx] := by simp [List.getD, hidx]
  have run : ∀ us : List Value, (ac.eval z).cells.toList = us → us.length = ti.size → sub + us.length ≤ e.size → (∀ u ∈ us, u.oneCell' = true) → (execOp ac.eval o).run P c.w = .ok .skip (c.w.setCells i.b (i.base + idx * e.size + sub) us) := by
    intro us hu h1 h2 h3
    have hrun := run_store_blk (P := P) hblk (o := i.base + idx * e.size + sub) (vs := us) (by rw [hlen, hes] at hbn; omega) h3
    have hsz := ty.size c.w
    have hcs : (ac.eval z).cells.size = ti.size := by rw [← h1, ← hu]; simp
    rw [hes] at hp
    simp [execOp, ho, hp, Instr.storeAt, Instr.sureAddr, storeVar, hsz, hcs, hu, hrun]
  unfold storeD at hst
  rw [hx0] at hst
  split at hst
  · rename_i x' hx'
    by_cases hc : ((ti.size == 1) && !ti.agg) = true
    · rw [hc, cond_true] at hst; cases hst
      simp only [Bool.and_eq_true, beq_iff_eq, Bool.not_eq_true'] at hc
      obtain ⟨w1, w2, w3⟩ := setW_word hx'
      obtain ⟨q1, q2⟩ := (hsl.eval z).cells (a := aeval s z) (by rw [w3]; simp [w2])
      rw [w3] at q1
      obtain ⟨u, hu, hur⟩ := q1.one_of
      rw [hu] at q2
      obtain ⟨G, h1, h2, h3⟩ := D.row
      obtain ⟨vs0, v1, v2, v3⟩ := h3 idx xs[idx] (by simp [hidx])
      have hsub : sub + [u].length ≤ e.size := by
        have := (setW_ok v3 hx' hur).1
        simp only [List.length_cons, List.length_nil]; omega
      have only := only_setCells i.b [u] (i.base + idx * e.size + sub) c.w
      have htell := only.keeps (c := c) (hs.apart id i hi hd hloc)
      have hDR : DRow (c.w.setCells i.b (i.base + idx * e.size + sub) [u]) e.size (DCells (c.w.setCells i.b (i.base + idx * e.size + sub) [u]) e) (c.own id) i.b i.base (xs.set idx x') :=
        DRow.write (us := [u]) (G := G) (G' := G) h1 h3 h1 h2 (fun _ _ => rfl) hidx hblk (by rw [← hlen, ← hes]; exact hbn) hsub fun vs q1 q2 q3 => by
          obtain ⟨p1, p2⟩ := setW_ok q3 hx' hur
          rw [set_splice vs sub u p1]; exact p2
      have hrep' : ObjRep { c with w := c.w.setCells i.b (i.base + idx * e.size + sub) [u] } i ⟨.deep fx e (xs.set idx x'), full⟩ :=
        ⟨by rw [hlen]; simp [Cont.len], hes, rep.pos, rep.full, rep.loc, fun hl => by obtain ⟨m, hm, hm'⟩ := rep.blk hl; exact ⟨m, only.blk _ _ hm, hm'⟩, DRow.rep (c := { c with w := c.w.setCells i.b (i.base + idx * e.size + sub) [u] }) hDR⟩
      have hrow := setW_row hx'
      have hcell : ∀ a b, (rowAt e b).isSome = true → cellAt (c.w.setCells i.b (i.base + idx * e.size + sub) [u]) i.b (i.base + a * e.size + b) = cellAt c.w i.b (i.base + a * e.size + b) := by
        intro a b hb
        have hb' := rowAt_lt hb
        simp only [List.length_cons, List.length_nil] at hsub
        refine World.cell?_setCells_out i.b [u] _ c.w ⟨i.b, i.base + a * e.size + b, none⟩ fun _ _ => ?_
        simp only [List.length_cons, List.length_nil]
        by_cases hab : a = idx
        · subst hab
          have : b ≠ sub := fun e => by rw [e, hrow] at hb; cases hb
          omega
        · rcases Nat.lt_or_gt_of_ne hab with hlt | hgt
          · have : (a + 1) * e.size ≤ idx * e.size := Nat.mul_le_mul_right _ hlt
            rw [Nat.add_mul, Nat.one_mul] at this; omega
          · have : (idx + 1) * e.size ≤ a * e.size := Nat.mul_le_mul_right _ hgt
            rw [Nat.add_mul, Nat.one_mul] at this; omega
      obtain ⟨g1, g2⟩ := write_ok hs hi hd hid (.inl hloc) only (h' := h.set id (some ⟨.deep fx e (xs.set idx x'), full⟩)) (by simp) (fun k hk => hget_set_other hk) (hget_set_same hid) hrep' (fun fx' e' xs' hc' => by
        cases hc'
        exact ⟨hDR, fun hf a b v p1 p2 p3 => D.hd hf a b v (by simpa using p1) p2 (by rw [← hcell a b p2]; exact p3), fun a b v hv => by
          obtain ⟨p1, p2, p3, p4⟩ := D.hd' a b v hv
          exact ⟨p1, by simpa using p2, p3, (hcell a b p3).trans p4⟩⟩)
      unfold Oper.wp
      rw [run [u] hu (by simp [hc.1]) hsub q2]
      exact hn _ Go.undef g1 g2 (by simp [VRep]) (by simp)
    · simp only [Bool.not_eq_true] at hc; rw [hc] at hst; cases hst
  · by_cases hc : (!fx && (sub == 0) && (ti.size == e.size) && (ti.agg == e.isAgg) && ((aeval s z).size == e.size) && ((aeval s z).isAgg == e.isAgg)) = true
    · rw [hc, cond_true] at hst
      simp only [Bool.and_eq_true, beq_iff_eq, Bool.not_eq_true'] at hc
      obtain ⟨⟨⟨⟨⟨rfl, rfl⟩, c3⟩, c4⟩, c5⟩, c6⟩ := hc
      split at hst
      · rename_i x' ids htk
        by_cases ho' : (once ids && !ids.contains id) = true
        · rw [ho', cond_true] at hst; cases hst
          simp only [Bool.and_eq_true, Bool.not_eq_true', List.contains_eq_mem, decide_eq_false_iff_not] at ho'
          obtain ⟨q1, q2⟩ := (hsl.eval z).cells (a := aeval s z) (take_one htk)
          have hul : (ac.eval z).cells.toList.length = e.size := by rw [← q1.length, ← AV.size_cells, c5]
          obtain ⟨c', e1, e2, e3⟩ := absorb_ok hs hob hi hidx q1 htk (once_ok ho'.1) ho'.2 hul
          unfold Oper.wp
          rw [run _ rfl (by rw [hul, c3]) (by omega) q2, Nat.add_zero, ← e1]
          exact hn c' Go.undef e2 e3 (by simp [VRep]) (by simp)
        · simp only [Bool.not_eq_true] at ho'; rw [ho'] at hst; cases hst
      · cases hst
    · simp only [Bool.not_eq_true] at hc; rw [hc] at hst; cases hst
end
end Go.AM
