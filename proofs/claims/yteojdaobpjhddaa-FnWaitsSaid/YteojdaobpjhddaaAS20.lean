/- An interpreter of the model's code over values that are told, and its soundness. -/
import Derived.Test.YteojdaobpjhddaaAS19
import Derived.LoopN
namespace Go.AM

/-! Soundness: states renamed. -/
theorem findIx_get : ∀ {l : List Nat} {id k j : Nat}, findIx id l k = some j → k ≤ j ∧ l[j - k]? = some id
  | [], id, k, j, h => by simp [findIx] at h
  | x :: l, id, k, j, h => by
    simp only [findIx] at h
    by_cases hx : x = id
    · simp only [hx, BEq.rfl, cond_true, Option.some.injEq] at h
      subst h; subst hx
      exact ⟨Nat.le_refl _, by simp⟩
    · have : (x == id) = false := by simpa using hx
      simp only [this, cond_false] at h
      obtain ⟨h1, h2⟩ := findIx_get h
      refine ⟨by omega, ?_⟩
      rw [show j - k = j - (k + 1) + 1 by omega]; simpa using h2

/-- What a renaming keeps. -/
structure Renames (c c2 : Ctx) (r : Nat → Option Nat) : Prop where
  m : ∀ id id', r id = some id' → c2.m id' = c.m id
  dead : ∀ id id', r id = some id' → c.dead id → c2.dead id'
  pr : c2.pr = c.pr
  w : c2.w = c.w

theorem ren_reps {c c2 : Ctx} {f : AV → AV} (hf : ∀ a v, VRep c a v → VRep c2 (f a) v) : ∀ {as : List AV} {vs : List Value}, VReps c as vs → VReps c2 (as.map f) vs
  | [], [], _ => by simp [VReps]
  | a :: as, v :: vs, h => by simp only [VReps, List.map_cons] at h ⊢; exact ⟨hf a v h.1, ren_reps hf h.2⟩
  | [], _ :: _, h => by simp [VReps] at h
  | _ :: _, [], h => by simp [VReps] at h

theorem ren_rep {c c2 : Ctx} {r : Nat → Option Nat} (hr : Renames c c2 r) : ∀ (d : Nat) (a : AV) (v : Value), VRep c a v → VRep c2 (ren r d a) v
  | 0, a, v, _ => by simp [ren, VRep]
  | d + 1, a, v, h => by
    have hpr := hr.pr
    have hw := hr.w
    cases a with
    | undef => simp [ren, VRep]
    | int k n => simpa [ren, VRep] using h
    | bool b => simpa [ren, VRep] using h
    | str s => simpa [ren, VRep] using h
    | nilp => simpa [ren, VRep] using h
    | nils => simpa [ren, VRep] using h
    | fn f cs =>
      simp only [ren, VRep] at h ⊢
      obtain ⟨ws, hv, hc⟩ := h
      exact ⟨ws, hv, ren_reps (ren_rep hr d) hc⟩
    | agg cs =>
      simp only [ren, VRep] at h ⊢
      obtain ⟨ws, hv, hc⟩ := h
      exact ⟨ws, hv, ren_reps (ren_rep hr d) hc⟩
    | tup cs =>
      simp only [ren, VRep] at h ⊢
      obtain ⟨ws, hv, hc⟩ := h
      exact ⟨ws, hv, ren_reps (ren_rep hr d) hc⟩
    | tv t x => simp only [ren, VRep] at h ⊢; rw [hpr, hw]; exact h
    | tp t x sub => simp only [ren, VRep] at h ⊢; rw [hpr, hw]; exact h
    | bp cs sub =>
      simp only [ren, VRep] at h ⊢
      obtain ⟨b, o, ws, hv, hp, hl, hc⟩ := h
      exact ⟨b, o, ws, hv, by rw [hpr]; exact hp, by rw [hw]; exact hl, ren_reps (ren_rep hr d) hc⟩
    | ptr id i j =>
      simp only [ren]
      cases hid : r id with
      | none => simp [VRep]
      | some id' =>
        simp only [VRep, ptrRep] at h ⊢
        refine ⟨h.1, ?_⟩
        rcases h.2 with hd | ⟨inf, hi, hrest⟩
        · exact .inl (hr.dead _ _ hid hd)
        · exact .inr ⟨inf, (hr.m _ _ hid).trans hi, hrest⟩
    | sl id =>
      simp only [ren]
      cases hid : r id with
      | none => simp [VRep]
      | some id' =>
        simp only [VRep, slRep] at h ⊢
        refine ⟨h.1, ?_⟩
        rcases h.2 with hd | ⟨inf, hi, hrest⟩
        · exact .inl (hr.dead _ _ hid hd)
        · rw [hw]; exact .inr ⟨inf, (hr.m _ _ hid).trans hi, hrest⟩
    | ss id off n =>
      simp only [ren]
      cases hid : r id with
      | none => simp [VRep]
      | some id' =>
        simp only [VRep, ssRep] at h ⊢
        refine ⟨h.1, ?_⟩
        rcases h.2 with hd | ⟨inf, hi, hrest⟩
        · exact .inl (hr.dead _ _ hid hd)
        · rw [hw]; exact .inr ⟨inf, (hr.m _ _ hid).trans hi, hrest⟩
    | dp id i j =>
      simp only [ren]
      cases hid : r id with
      | none => simp [VRep]
      | some id' =>
        simp only [VRep, dpRep] at h ⊢
        refine ⟨h.1, ?_⟩
        rcases h.2 with hd | ⟨inf, hi, hrest⟩
        · exact .inl (hr.dead _ _ hid hd)
        · exact .inr ⟨inf, (hr.m _ _ hid).trans hi, hrest⟩

theorem ren_shape (r : Nat → Option Nat) (d : Nat) (a : AV) : (ren r (d + 1) a).isAgg = a.isAgg ∧ (ren r (d + 1) a).size = a.size := by
  cases a <;> simp only [ren] <;> first | exact ⟨rfl, rfl⟩ | exact ⟨trivial, trivial⟩ | skip
  case agg cs => exact ⟨rfl, by simp [AV.size]⟩
  case ptr id i j => cases r id <;> exact ⟨rfl, rfl⟩
  case sl id => cases r id <;> exact ⟨rfl, rfl⟩
  case ss id off n => cases r id <;> exact ⟨rfl, rfl⟩
  case dp id off n => cases r id <;> exact ⟨rfl, rfl⟩

theorem ren_cells {c c2 : Ctx} {r : Nat → Option Nat} (hr : Renames c c2 r) (d : Nat) (a : AV) (vs : List Value) (h : VReps c a.cells vs) : VReps c2 (ren r (d + 1) a).cells vs := by
  cases hg : a.isAgg with
  | false =>
    have h1 : (ren r (d + 1) a).isAgg = false := by rw [(ren_shape r d a).1, hg]
    rw [AV.cells_one hg] at h
    rw [AV.cells_one h1]
    obtain ⟨u, rfl, hu⟩ := h.one_of
    simpa [VReps] using ren_rep hr (d + 1) a u hu
  | true =>
    cases a <;> simp [AV.isAgg] at hg
    case agg cs =>
      simp only [ren, AV.cells] at h ⊢
      exact ren_reps (ren_rep hr d) h
    case tv t x =>
      simp only [ren, AV.cells, hg, cond_true] at h ⊢
      have := CellsRep.of_vreps h
      rw [← hr.pr, ← hr.w] at this
      exact this.vreps

theorem ren_cont {c c2 : Ctx} {r : Nat → Option Nat} (hr : Renames c c2 r) {ct : Cont} {L : List (List Value)} (h : ContV c ct L) : ContV c2 (renC r 3 ct) L ∧ (renC r 3 ct).len = ct.len ∧ (renC r 3 ct).es = ct.es := by
  cases ct with
  | typed e xs =>
    refine ⟨?_, rfl, rfl⟩
    show All2 (ElemT c2 e) xs L
    refine All2.mono (fun x vs hx => ?_) h
    unfold ElemT at *
    rw [hr.pr, hr.w]; exact hx
  | deep fx e xs => exact ⟨h, rfl, rfl⟩
  | raw a es d xs =>
    refine ⟨⟨by rw [(ren_shape r 2 d).1]; exact h.1, by rw [(ren_shape r 2 d).2]; exact h.2.1, ?_⟩, by simp [renC, Cont.len], rfl⟩
    have : ∀ {xs : List AV} {L : List (List Value)}, All2 (ElemR c a es) xs L → All2 (ElemR c2 a es) (xs.map (ren r 3)) L := by
      intro xs
      induction xs with
      | nil => intro L h; cases L with
        | nil => trivial
        | cons _ _ => exact absurd h (by simp [All2])
      | cons x xs ih => intro L h; cases L with
        | nil => exact absurd h (by simp [All2])
        | cons vs L =>
          obtain ⟨⟨h1, h2, h3, h4, h5⟩, hrest⟩ := h
          exact ⟨⟨by rw [(ren_shape r 2 x).1]; exact h1, by rw [(ren_shape r 2 x).2]; exact h2, h3, ren_cells hr 2 x vs h4, h5⟩, ih hrest⟩
    exact this h.2.2

/-- Roots are told once each, and are there, but for what was seen ahead. -/
theorem roots_ok (h : Heap) (s0 : List Nat) : ∀ (n : Nat) (seen todo : List Nat), seen.Nodup → (∀ x ∈ seen, x ∈ s0 ∨ ∃ o, hget h x = some o) → (roots h n seen todo).Nodup ∧ ∀ x ∈ roots h n seen todo, x ∈ s0 ∨ ∃ o, hget h x = some o
  | 0, seen, todo, h1, h2 => by simp only [roots]; exact ⟨h1, h2⟩
  | n + 1, seen, [], h1, h2 => by simp only [roots]; exact ⟨h1, h2⟩
  | n + 1, seen, x :: todo, h1, h2 => by
    simp only [roots]
    cases hc : seen.contains x with
    | true => simp only [cond_true]; exact roots_ok h s0 n seen todo h1 h2
    | false =>
      simp only [cond_false]
      have hx : x ∉ seen := by simpa using hc
      split
      · rename_i o ho
        refine roots_ok h s0 n _ _ ?_ ?_
        · rw [List.nodup_append]; exact ⟨h1, by simp, by intro a ha b hb; simp at hb; subst hb; exact fun e => hx (e ▸ ha)⟩
        · intro y hy
          rcases List.mem_append.1 hy with hy | hy
          · exact h2 y hy
          · simp at hy; subst hy; exact .inr ⟨o, ho⟩
      · exact roots_ok h s0 n seen todo h1 h2

/-- What was seen ahead stands ahead. -/
theorem roots_pre (h : Heap) : ∀ (n : Nat) (seen todo : List Nat), ∃ l, roots h n seen todo = seen ++ l
  | 0, seen, todo => ⟨[], by simp [roots]⟩
  | n + 1, seen, [] => ⟨[], by simp [roots]⟩
  | n + 1, seen, x :: todo => by
    simp only [roots]
    cases seen.contains x with
    | true => simp only [cond_true]; exact roots_pre h n seen todo
    | false =>
      simp only [cond_false]
      split
      · rename_i o ho
        obtain ⟨l, hl⟩ := roots_pre h n (seen ++ [x]) (refsC o.c ++ todo)
        exact ⟨_, hl.trans (List.append_assoc _ _ _)⟩
      · exact roots_pre h n seen todo

structure Stt (c : Ctx) (st : St) (a : Act) : Prop where
  sim : Sim c st.h
  fre : Fre c st.h
  slots : Slots c st.s a

theorem canon_ok {c : Ctx} {st : St} {a : Act} (hst : Stt c st a) (p : Nat) (live : List Nat) : ∃ c2, c2.w = c.w ∧ Was c st.h c2 (canon p live st).h ∧ Stt c2 (canon p live st) a ∧ ∀ id, id < p → c2.m id = c.m id := by
  obtain ⟨hs, hf, hsl⟩ := hst
  generalize hsrc : roots st.h 64 (List.range p) (live.flatMap fun t => refs 3 (st.s.getD t .undef)) = src
  obtain ⟨hnd, hthere⟩ : src.Nodup ∧ ∀ x ∈ src, x ∈ List.range p ∨ ∃ o, hget st.h x = some o := by rw [← hsrc]; exact roots_ok _ (List.range p) _ _ _ List.nodup_range (fun x hx => .inl hx)
  have hpin : ∀ id, id < p → src[id]? = some id := fun id hid => by
    obtain ⟨l, hl⟩ := roots_pre st.h 64 (List.range p) (live.flatMap fun t => refs 3 (st.s.getD t .undef))
    rw [hsrc] at hl
    rw [hl, List.getElem?_append_left (by simpa using hid)]
    simp [hid]
  have hcan : canon p live st = ⟨(List.range st.s.length).map fun t => bif live.contains t then ren (fun x => findIx x src 0) 3 (st.s.getD t .undef) else .undef, srcHeap st.h src⟩ := by
    unfold canon; simp only [hsrc]
  let c2 : Ctx := { c with m := fun k => (src[k]?).bind c.m, dead := fun k => ∃ id, src[k]? = some id ∧ c.dead id, own := fun k b => ∃ id, src[k]? = some id ∧ c.own id b }
  have hren : Renames c c2 (fun x => findIx x src 0) := by
    refine ⟨fun id id' h => ?_, fun id id' h hd => ?_, rfl, rfl⟩
    · have := (findIx_get h).2
      simp only [Nat.sub_zero] at this
      simp [c2, this]
    · have := (findIx_get h).2
      simp only [Nat.sub_zero] at this
      exact ⟨id, this, hd⟩
  have hlen : (srcHeap st.h src).length = src.length := by simp [srcHeap]
  have hidlt : ∀ {x : Nat} {i : Info}, c.m x = some i → x < st.h.length := fun {x i} h => by
    rcases Nat.lt_or_ge x st.h.length with hl | hl
    · exact hl
    · rw [(hf x hl).1] at h; cases h
  have hget2 : ∀ {id x : Nat}, src[id]? = some x → hget (srcHeap st.h src) id = (hget st.h x).map (renO fun x => findIx x src 0) := fun {id x} h => by
    simp [hget, srcHeap, List.getD, h]
  have hm2 : ∀ {id : Nat} {i : Info}, c2.m id = some i → ∃ x, src[id]? = some x ∧ c.m x = some i := fun {id i} h => by
    simp only [c2, Option.bind_eq_some_iff] at h; exact h
  have hnd2 : ∀ {id x : Nat}, src[id]? = some x → ¬ c2.dead id → ¬ c.dead x := fun {id x} h hd hc => hd ⟨x, h, hc⟩
  have hone : ∀ {id id' x : Nat}, src[id]? = some x → src[id']? = some x → id = id' := fun {id id' x} hx hy => by
      obtain ⟨l1, e1⟩ := List.getElem?_eq_some_iff.1 hx
      obtain ⟨l2, e2⟩ := List.getElem?_eq_some_iff.1 hy
      rcases Nat.lt_trichotomy id id' with hlt | heq | hgt
      · exact absurd (e1.trans e2.symm) (List.pairwise_iff_getElem.1 hnd id id' l1 l2 hlt)
      · exact heq
      · exact absurd (e2.trans e1.symm) (List.pairwise_iff_getElem.1 hnd id' id l2 l1 hgt)
  refine ⟨c2, rfl, ?_, ?_, fun id hid => by simp [c2, hpin id hid]⟩
  · rw [hcan]
    refine ⟨fun _ h => h, Nat.le_refl _, fun _ _ => rfl, fun _ _ h => h, fun _ _ _ => rfl, ?_, fun _ h => .inl h, rfl, rfl, rfl⟩
    rintro b ⟨id, _, hd, ⟨x, hx, ho⟩ | ⟨i, hi, hl, hb⟩⟩
    · refine .inr ⟨x, ?_, hnd2 hx hd, .inl ho⟩
      cases hc : c.m x with
      | none => exact absurd hc (hs.own.told x b ho)
      | some i => exact hidlt hc
    · obtain ⟨x, hx, hi'⟩ := hm2 hi
      exact .inr ⟨x, hidlt hi', hnd2 hx hd, .inr ⟨i, hi', hl, hb⟩⟩
  · rw [hcan]
    refine ⟨⟨?_, ?_, ?_, ?_, hs.plow, ?_, ⟨?_, ?_, ?_, ?_, ?_⟩, ?_⟩, ?_, ⟨by simp [hsl.1], fun t => ?_⟩⟩
    · intro id i hid hi hd
      obtain ⟨x, hx, hi'⟩ := hm2 hi
      obtain ⟨o, ho, rep⟩ := hs.obj x i (hidlt hi') hi' (hnd2 hx hd)
      refine ⟨renO (fun x => findIx x src 0) o, by rw [hget2 hx, ho]; rfl, ?_⟩
      obtain ⟨L, hL, hlies⟩ := contRep_iff.1 rep.cont
      obtain ⟨h1, h2, h3⟩ := ren_cont hren hL
      exact ⟨by rw [rep.len]; exact h2.symm, by rw [rep.es]; exact h3.symm, rep.pos, rep.full, rep.loc, rep.blk, contRep_iff.2 ⟨L, h1, hlies⟩⟩
    · rintro id hid ⟨x, hx, hd⟩
      have hxl : x < st.h.length := by
        rcases Nat.lt_or_ge x st.h.length with hl | hl
        · exact hl
        · exact absurd hd (hf x hl).2
      rw [hget2 hx, hs.gone x hxl hd]; rfl
    · intro id i hi hd hl
      obtain ⟨x, hx, hi'⟩ := hm2 hi
      exact hs.low x i hi' (hnd2 hx hd) hl
    · intro id id' i i' hi hi' hd hd' hl hl' hb
      obtain ⟨x, hx, h1⟩ := hm2 hi
      obtain ⟨y, hy, h2⟩ := hm2 hi'
      have hxy := hs.inj x y i i' h1 h2 (hnd2 hx hd) (hnd2 hy hd') hl hl' hb
      subst hxy
      exact hone hx hy
    · intro id i hi hd hl
      obtain ⟨x, hx, hi'⟩ := hm2 hi
      exact hs.apart x i hi' (hnd2 hx hd) hl
    · rintro id b hd ⟨x, hx, ho⟩
      exact hs.own.low x b (hnd2 hx hd) ho
    · rintro id id' b hd hd' ⟨x, hx, ho⟩ ⟨y, hy, ho'⟩
      have hxy := hs.own.inj x y b (hnd2 hx hd) (hnd2 hy hd') ho ho'
      subst hxy
      exact hone hx hy
    · rintro id id' i hd hd' hi hl ⟨x, hx, ho⟩
      obtain ⟨y, hy, hi'⟩ := hm2 hi
      exact hs.own.row x y i (hnd2 hx hd) (hnd2 hy hd') hi' hl ho
    · rintro id b hd ⟨x, hx, ho⟩
      exact hs.own.apart x b (hnd2 hx hd) ho
    · rintro id b ⟨x, hx, ho⟩
      have := hs.own.told x b ho
      simp only [c2, hx, Option.bind_some]; exact this
    · intro id i fx e xs f hid hi hd hg
      obtain ⟨x, hx, hi'⟩ := hm2 hi
      rw [hget2 hx, Option.map_eq_some_iff] at hg
      obtain ⟨⟨ct, fl⟩, ho, hg⟩ := hg
      cases ct with
      | deep fx' e' xs' =>
        simp only [renO, renC, Obj.mk.injEq, Cont.deep.injEq] at hg
        obtain ⟨⟨rfl, rfl, he⟩, rfl⟩ := hg
        cases he
        exact (hs.deep x i fx' e' xs' fl (hidlt hi') hi' (hnd2 hx hd) ho).mono (fun b hb => ⟨x, hx, hb⟩) (fun _ _ => rfl) (fun _ => rfl)
      | typed e' xs' => simp [renO, renC] at hg
      | raw a' es' d' xs' => simp [renO, renC] at hg
    · intro id hid
      rw [hlen] at hid
      have : src[id]? = none := List.getElem?_eq_none hid
      refine ⟨by simp [c2, this], ?_⟩
      rintro ⟨x, hx, _⟩
      rw [this] at hx; cases hx
    · rcases Nat.lt_or_ge t st.s.length with ht | ht
      · simp only [List.getD, List.getElem?_map, List.getElem?_range ht, Option.map_some, Option.getD_some]
        cases live.contains t with
        | false => simp [VRep]
        | true => exact ren_rep hren 3 _ _ (hsl.2 t)
      · have : ((List.range st.s.length).map fun t => bif live.contains t then ren (fun x => findIx x src 0) 3 (st.s.getD t .undef) else .undef)[t]? = none := List.getElem?_eq_none (by simpa using ht)
        rw [List.getD_eq_getElem?_getD, this]; simp [VRep]
end Go.AM
