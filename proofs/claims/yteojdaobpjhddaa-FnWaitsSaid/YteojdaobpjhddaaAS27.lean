/- An interpreter of the model's code over values that are told, and its soundness. -/
import Derived.Test.YteojdaobpjhddaaAS26
namespace Go.AM

/-! Soundness: a region whose order is drawn. -/
section
variable {P : Program} {E : Env} {run : Run} {ops : Array Oper} {es : List Ent} {st stn : St}

theorem not_done {D : Array Bool} {i : Nat} (h : D.getD i true = false) : ¬ Done D i ∧ i < D.size := by
  rcases Nat.lt_or_ge i D.size with hl | hl
  · refine ⟨?_, hl⟩
    unfold Done
    simp [hl] at h ⊢
    exact h
  · simp [Array.getElem?_eq_none hl] at h

theorem inv_step (R : Reg P ops es st stn) {c0 : Ctx} {a0 : Act} {D : Array Bool} {c : Ctx} {a : Act} (I : Inv ops es st stn c0 a0 D c a) {i : Nat} (hr : i ∈ Region.ready .any ops D) {Q : Exit → Act → World → Prop} :
    wpOp P ops Q i (fun a' w' => ∃ c', c'.w = w' ∧ Inv ops es st stn c0 a0 (D.setIfInBounds i true) c' a') a c.w := by
  obtain ⟨h0, o, ho, hrdy0⟩ := mem_ready.1 hr
  obtain ⟨hnd, hiD⟩ := not_done h0
  have hrdy : ∀ e ∈ o.after, Region.binds .any e = true → Done D e.on := hrdy0
  have hi : i < ops.size := (Array.getElem?_eq_some_iff.1 ho).1
  obtain ⟨o', e, ho', he, hg⟩ := R.oper hi
  rw [ho] at ho'; cases ho'
  have hsl := R.slots I ho he hnd hrdy
  obtain ⟨k1, _, k3, _⟩ := R.at' i e o he ho
  obtain ⟨p, ep⟩ := I.epoch
  unfold wpOp
  simp only [ho, hg.want c a hsl]
  cases hw : e.w with
  | false =>
    simp only [Bool.false_eq_true, if_false]
    obtain ⟨q1, q2, q3⟩ := hg.off hw
    refine ⟨c, rfl, I.put R ho he hrdy (Tells.refl c) (by rw [q3]; exact undef_rep c) ⟨p, ?_⟩⟩
    exact epoch_same hiD he ep (fun hh => ((R.place I.closed ep ho he hnd hrdy hh).2 q2).1) (Ext.refl _ _) ep.sim (Grow.refl _ _)
  | true =>
    simp only [if_true]
    left
    cases hh : bnd (hAt es stn 0).length e with
    | false =>
      obtain ⟨l, hl⟩ : ∃ l, e.l = some l := by
        cases hl : e.l with
        | none => simp [bnd, hl] at hh
        | some l => exact ⟨l, rfl⟩
      obtain ⟨q1, q2, q3⟩ := hg.still l hl
      refine (q3 hw (hAt es stn p) (R.free I.closed ep ho he hnd hrdy hl hh)).1 c a ep.sim (fun id h1 h2 => by omega) hsl _ Q fun c' v' hx hs hv hgr => ?_
      exact ⟨c', rfl, I.put R ho he hrdy hx.tells hv ⟨p, epoch_same hiD he ep (fun h => by rw [hh] at h; cases h) hx hs (hgr rfl)⟩⟩
    | true =>
      obtain ⟨pl1, pl2⟩ := R.place I.closed ep ho he hnd hrdy hh
      have hop := (hg.ok hw).1
      rw [← k1, ← k3] at hop
      cases hem : e.m with
      | true =>
        have hpi := pl1 hem
        subst hpi
        refine hop c a ep.sim ep.fre.free hsl _ Q fun c' v' hx hs hv _ => ?_
        exact ⟨c', rfl, I.put R ho he hrdy hx.tells hv (epoch_mod R I.closed hiD ho he hem hrdy ep hx hs)⟩
      | false =>
        obtain ⟨hip, hno⟩ := pl2 hem
        have pr := R.pre' (i := i) (p := p) (by omega) ep.le hno
        refine hop c a (ep.sim.pre pr) (ep.undone i hip hnd) hsl _ Q fun c' v' hx hs hv hgr => ?_
        exact ⟨c', rfl, I.put R ho he hrdy hx.tells hv ⟨p, epoch_grow R hiD ep hip hno hx hs (hgr hem)⟩⟩

theorem all_done (R : Reg P ops es st stn) {D : Array Bool} (hsz : D.size = ops.size) (hr : Region.ready .any ops D = []) : ∀ j, j < ops.size → Done D j := by
  intro j
  induction j using Nat.strongRecOn with
  | _ j ih =>
    intro hj
    cases hd : D.getD j false with
    | true => exact hd
    | false =>
      have ho : ops[j]? = some ops[j] := Array.getElem?_eq_getElem hj
      have : j ∈ Region.ready .any ops D := mem_ready.2 ⟨by simp [hsz, hj] at hd ⊢; exact hd, _, ho, fun e he hb => by
        have := R.back j _ ho e he hb
        exact ih e.on this (by omega)⟩
      rw [hr] at this; cases this

theorem left_set : ∀ {l : List Bool} {i : Nat}, l[i]? = some false → (l.set i true).countP (! ·) + 1 = l.countP (! ·)
  | [], i, h => by simp at h
  | b :: l, 0, h => by simp at h; subst h; simp
  | b :: l, i + 1, h => by
    have := left_set (l := l) (i := i) (by simpa using h)
    simp only [List.set_cons_succ, List.countP_cons]
    omega

theorem any_ok (R : Reg P ops es st stn) {c0 : Ctx} {a0 : Act} {Q : Exit → Act → World → Prop} (hQ : ∀ D c a, Inv ops es st stn c0 a0 D c a → (∀ j, j < ops.size → Done D j) → Q .normal a c.w) :
    ∀ (fuel : Nat) (D : Array Bool) (c : Ctx) (a : Act), Inv ops es st stn c0 a0 D c a → D.toList.countP (! ·) ≤ fuel → wpAny P .any ops Q fuel D a c.w
  | 0, D, c, a, I, hf => by
    have hall : ∀ j, j < ops.size → Done D j := by
      intro j hj
      have hj' : j < D.size := by rw [I.dsz]; exact hj
      cases hd : D[j] with
      | true => simp [Done, hj', hd]
      | false =>
        have : 0 < D.toList.countP (! ·) := List.countP_pos_iff.2 ⟨false, by rw [← hd]; simp, rfl⟩
        omega
    refine ⟨?_, hQ D c a I hall⟩
    cases hr : Region.ready .any ops D with
    | nil => rfl
    | cons i l =>
      have hi : i ∈ Region.ready .any ops D := by rw [hr]; simp
      obtain ⟨h0, o, ho, _⟩ := mem_ready.1 hi
      exact absurd (hall i (Array.getElem?_eq_some_iff.1 ho).1) (not_done h0).1
  | fuel + 1, D, c, a, I, hf => by
    refine ⟨fun hr => hQ D c a I (all_done R I.dsz hr), fun i hi => ?_⟩
    obtain ⟨h0, o, ho, _⟩ := mem_ready.1 hi
    obtain ⟨hnd, hiD⟩ := not_done h0
    refine wpOp_mono ?_ (inv_step R I hi)
    rintro a' w' ⟨c', rfl, I'⟩
    refine any_ok R hQ fuel _ c' a' I' ?_
    have hfalse : D.toList[i]? = some false := by
      rw [Array.getElem?_toList, Array.getElem?_eq_getElem hiD]
      simp [hiD] at h0; rw [h0]
    have := left_set hfalse
    rw [Array.toList_setIfInBounds]; omega

theorem sim_up {c : Ctx} {h h' : Heap} (hs : Sim c h) (hf : Fre c h) (pr : Pre h h') : Sim c h' := by
  refine ⟨fun id inf hid hi' hd => ?_, fun id hid hd => ?_, hs.low, hs.inj, hs.plow, hs.apart, hs.own, fun id inf fx f xs fl hid hi' hd hgt => ?_⟩
  · rcases Nat.lt_or_ge id h.length with hlt | hge
    · obtain ⟨ob, hob, hr⟩ := hs.obj id inf hlt hi' hd
      exact ⟨ob, by rw [pr.2 id hlt]; exact hob, hr⟩
    · rw [(hf id hge).1] at hi'; cases hi'
  rotate_left
  · rcases Nat.lt_or_ge id h.length with hlt | hge
    · rw [pr.2 id hlt] at hgt; exact hs.deep id inf fx f xs fl hlt hi' hd hgt
    · rw [(hf id hge).1] at hi'; cases hi'
  · rcases Nat.lt_or_ge id h.length with hlt | hge
    · rw [pr.2 id hlt]; exact hs.gone id hlt hd
    · exact absurd hd (hf id hge).2

theorem ext_up {c0 c : Ctx} {h0 h h' : Heap} (E1 : Ext c0 h0 c h) (hs : Sim c h) (hf : Fre c h) (pr : Pre h h') : Ext c0 h0 c h' := by
  have hlenp := pr.1
  refine ⟨⟨E1.pr, E1.size, E1.keep, E1.blk, E1.frame, fun b hb => ?_, E1.pnew, E1.os, E1.tape, E1.output⟩, Nat.le_trans E1.len hlenp, E1.m, fun id inf hi' hn => ?_, E1.dead, fun id hd => ?_⟩
  · obtain ⟨id, hid, hd, ha⟩ := hb
    rcases Nat.lt_or_ge id h.length with hlt | hge
    · exact E1.own b ⟨id, hlt, hd, ha⟩
    · have hnone := (hf id hge).1
      rcases ha with ha | ⟨inf, hi', _⟩
      · exact absurd hnone (hs.own.told id b ha)
      · rw [hnone] at hi'; cases hi'
  · have := E1.fresh id inf hi' hn; omega
  · rcases E1.dead' id hd with h | h
    · exact .inl h
    · exact .inr (by omega)

/-- A world from which one more answer was drawn. -/
theorem drawn_ok {c : Ctx} {h : Heap} (hs : Sim c h) (w' : World) (hw : w' = { c.w with drawn := c.w.drawn + 1 }) : Ext c h { c with w := w' } h ∧ Sim { c with w := w' } h ∧ Tells c { c with w := w' } := by
  subst hw
  have t : Tells c { c with w := { c.w with drawn := c.w.drawn + 1 } } := ⟨fun _ _ h => h, fun _ h => h, ⟨fun _ h => h, fun _ _ => rfl⟩, fun b n hb => hb.of_block rfl⟩
  refine ⟨⟨⟨fun _ h => h, Nat.le_refl _, fun _ _ => rfl, fun b n hb => hb.of_block rfl, fun _ _ _ => rfl, fun _ h => .inr h, fun _ h => .inl h, rfl, rfl, rfl⟩, Nat.le_refl _, fun _ _ h => h, fun _ _ h h' => absurd (h'.symm.trans h) (by simp), fun _ h => h, fun _ h => .inl h⟩, ?_, t⟩
  exact ⟨fun id i h1 h2 h3 => by obtain ⟨o, ho, hr⟩ := hs.obj id i h1 h2 h3; exact ⟨o, ho, hr.mono t (fun _ => rfl)⟩, hs.gone, hs.low, hs.inj, hs.plow, hs.apart, ⟨hs.own.low, hs.own.inj, hs.own.row, hs.own.apart, hs.own.told⟩, fun id i fx e xs f h1 h2 h3 h4 => DeepRow.mono (c := c) (id := id) (fun _ h => h) (fun _ _ => rfl) (fun _ => rfl) (hs.deep id i fx e xs f h1 h2 h3 h4)⟩

theorem reg_of {ms : List Mk} (hdraw : drawOk st.h.length ops ms = true) (hms : ms = es.map Ent.mk') (hlen : es.length = ops.toList.length) (hgood : ∀ (i : Nat) e, es[i]? = some e → ∃ o, ops.toList[i]? = some o ∧ Good P ops o e) (hch : Chain st es ops.toList stn) : Reg P ops es st stn := by
  obtain ⟨c1, c2, c3⟩ := chain_at es hch
  simp only [drawOk, Bool.and_eq_true] at hdraw
  obtain ⟨⟨hback, hdata⟩, horder⟩ := hdraw
  have hlen' : es.length = ops.size := by simpa using hlen
  refine ⟨hlen', fun i e he => by obtain ⟨o, ho, hg⟩ := hgood i e he; exact ⟨o, by simpa using ho, hg⟩, c1, c2, ?_, ?_, fun i e o he ho => c3 i e o he (by simpa using ho), fun i o ho e he hb => ?_, fun i j oi oj d hi hj hd hij => ?_, fun i j e ej he hem hj hh hij => ?_⟩
  · simp [hAt, ← hlen']
  · simp [sAt, ← hlen']
  · have hi : i < ops.size := (Array.getElem?_eq_some_iff.1 ho).1
    have := List.all_eq_true.1 hback i (by simpa using hi)
    rw [ho] at this
    have := List.all_eq_true.1 this e (by simpa using he)
    simp only [hb, Bool.not_true, Bool.false_or, Nat.blt_eq] at this
    exact this
  · have hi' : i < ops.size := (Array.getElem?_eq_some_iff.1 hi).1
    have hj' : j < ops.size := (Array.getElem?_eq_some_iff.1 hj).1
    have := List.all_eq_true.1 hdata i (by simpa using hi')
    simp only [hi, Option.bind_some, hd] at this
    have := List.all_eq_true.1 this j (by simpa using hj')
    simp only [hj] at this
    have hne : (i == j) = false := by simpa using hij
    simp only [hne, Bool.false_or, Bool.and_eq_true, bne_iff_ne, ne_eq, Bool.or_eq_true, Bool.not_eq_true'] at this
    refine ⟨this.1, fun hmem => this.2.resolve_left ?_⟩
    simp [hmem]
  · have hany : ms.any (·.m) = true := by
      rw [hms, List.any_map]
      exact List.any_eq_true.2 ⟨e, List.mem_of_getElem? he, hem⟩
    rw [hany] at horder
    simp only [cond_true] at horder
    have hi : i < ops.size := by rw [← hlen']; exact (List.getElem?_eq_some_iff.1 he).1
    have hj' : j < ops.size := by rw [← hlen']; exact (List.getElem?_eq_some_iff.1 hj).1
    have := List.all_eq_true.1 horder i (by simpa using hi)
    have hmi : ms[i]? = some e.mk' := by rw [hms]; simp [he]
    have hmj : ms[j]? = some ej.mk' := by rw [hms]; simp [hj]
    rw [c1] at hh
    simp only [hmi, Ent.mk', hem, Bool.not_true, Bool.false_or] at this
    have := List.all_eq_true.1 this j (by simpa using hj')
    have hne : (i == j) = false := by simpa using hij
    simpa [hne, hmj, Ent.mk', hh] using this

theorem regOk (hT : TOk P E) (hmix : P.follows .mixedOrders = true) (hC : CallsOk P E run) : RegOk P E run := by
  intro ρ id ops st K x hk
  simp only [aregion] at hk
  obtain ⟨es, stn, hK, hlen, hgood, hch⟩ := trace_ops hT hC (ops := ops) ops.toList [] st _ hk
  simp only [List.nil_append, Bool.not_true, Bool.false_or] at hK
  cases hd : drawOk st.h.length ops (es.map Ent.mk') with
  | false => simp [hd] at hK
  | true =>
    simp only [hd, cond_true] at hK
    have R : Reg P ops es st stn := reg_of hd rfl hlen hgood hch
    refine ⟨stn, hK, fun c a hst Q hq => wp_region_any hmix ?_⟩
    obtain ⟨x1, s1, t1⟩ := drawn_ok hst.sim _ rfl
    have hf1 := x1.fre hst.fre
    have none : ∀ j, ¬ Done (Array.replicate ops.size false) j := by
      intro j hj
      unfold Done at hj
      rcases Nat.lt_or_ge j ops.size with hl | hl <;> simp [hl] at hj
    have I : Inv ops es st stn { c with w := { c.w with drawn := c.w.drawn + 1 } } a (Array.replicate ops.size false) { c with w := { c.w with drawn := c.w.drawn + 1 } } a := by
      refine ⟨by simp, hst.slots.1.symm, rfl, fun t _ => VRep.mono t1 (hst.slots.2 t), fun j t e o hj => absurd hj (none j), fun j o hj => absurd hj (none j), ?_⟩
      obtain ⟨p, h1, h2, h3, h4⟩ := next_mod es ops.size R.len ops.size 0 (by omega)
      have pr := R.pre' (i := 0) h1 h2 h4
      rw [R.h0] at pr
      refine ⟨p, h2, h3, fun m e hm he hem => ?_, fun j e hj => absurd hj (none j), sim_up s1 hf1 pr, fun id hid => hf1 id (by have := pr.1; omega), by rw [R.h0]; exact ext_up (Ext.refl _ _) s1 hf1 pr, fun i hi _ id h1 _ => hf1 id ?_⟩
      · have := h4 m e (by omega) hm he; rw [hem] at this; cases this
      · have := R.grows' (i := 0) (p := i) (by omega) (by omega); rw [R.h0] at this; omega
    refine any_ok R (fun D c' a' I' hall => ?_) ops.size _ _ a I (Nat.le_trans List.countP_le_length (by simp))
    obtain ⟨p, ep⟩ := I'.epoch
    have hp : p = ops.size := by
      rcases ep.here with hp | ⟨e, he, hem⟩
      · exact hp
      · obtain ⟨o, ho, _⟩ := R.good p e he
        have hlt : p < ops.size := (Array.getElem?_eq_some_iff.1 ho).1
        have := ep.heapy p e (hall p hlt) he (R.heapyOf he hem)
        omega
    subst hp
    have hsim := ep.sim; rw [R.hn] at hsim
    have hfre := ep.fre; rw [R.hn] at hfre
    have hext := ep.ext; rw [R.hn, R.h0] at hext
    refine hq c' a' (x1.trans hext) ⟨hsim, hfre, ?_, fun t => ?_⟩ I'.defers
    · rw [← R.sn, R.slen _ (Nat.le_refl _), I'.sz]
    · rw [← R.sn]
      refine R.val _ (Nat.le_refl _) (fun j o e hj ho he hd htl => I'.new j t e o (hall j hj) ho hd he (by rw [I'.sz]; exact htl)) (fun hno => I'.old t fun j o hj ho => ?_)
      exact hno j o (Array.getElem?_eq_some_iff.1 ho).1 ho
end
end Go.AM
