/- An interpreter of the model's code over values that are told, and its soundness. -/
import Derived.Test.YteojdaobpjhddaaAS25
namespace Go.AM

/-! Soundness: any order of a drawn region, heaps. -/
section
variable {P : Program} {ops : Array Oper} {es : List Ent} {st stn : St}

theorem Sim.pre {c : Ctx} {h h' : Heap} (s : Sim c h') (p : Pre h h') : Sim c h :=
  ⟨fun id i hid hi hd => by obtain ⟨o, ho, hr⟩ := s.obj id i (Nat.lt_of_lt_of_le hid p.1) hi hd; exact ⟨o, by rw [← p.2 id hid]; exact ho, hr⟩,
   fun id hid hd => by rw [← p.2 id hid]; exact s.gone id (Nat.lt_of_lt_of_le hid p.1) hd, s.low, s.inj, s.plow, s.apart, s.own,
   fun id i fx e xs f hid hi hd hg => s.deep id i fx e xs f (Nat.lt_of_lt_of_le hid p.1) hi hd (by rw [p.2 id hid]; exact hg)⟩

theorem Reg.step (R : Reg P ops es st stn) {i : Nat} {o : Oper} {e : Ent} (ho : ops[i]? = some o) (he : es[i]? = some e) (hm : e.m = false) : Pre (hAt es stn i) (hAt es stn (i + 1)) := by
  obtain ⟨k1, _, k3, _⟩ := R.at' i e o he ho
  obtain ⟨o', ho', hg⟩ := R.good i e he
  rw [ho] at ho'; cases ho'
  rw [k1, k3]
  cases hw : e.w with
  | true => exact (hg.ok hw).2.2.1 hm
  | false => rw [(hg.off hw).1]; exact Pre.refl _

/-- Between two places with nothing changed between them. -/
theorem Reg.pre (R : Reg P ops es st stn) {i : Nat} : ∀ (n : Nat), i + n ≤ ops.size → (∀ (k : Nat) e, i ≤ k → k < i + n → es[k]? = some e → e.m = false) → Pre (hAt es stn i) (hAt es stn (i + n))
  | 0, _, _ => Pre.refl _
  | n + 1, hn, hm => by
    obtain ⟨o, e, ho, he, _⟩ := R.oper (show i + n < ops.size by omega)
    exact (R.pre n (by omega) (fun k e h1 h2 he => hm k e h1 (by omega) he)).trans (R.step ho he (hm _ e (by omega) (by omega) he))

theorem Reg.pre' (R : Reg P ops es st stn) {i p : Nat} (hip : i ≤ p) (hp : p ≤ ops.size) (hm : ∀ (k : Nat) e, i ≤ k → k < p → es[k]? = some e → e.m = false) : Pre (hAt es stn i) (hAt es stn p) := by
  have := R.pre (i := i) (p - i) (by omega) (fun k e h1 h2 he => hm k e h1 (by omega) he)
  rwa [show i + (p - i) = p by omega] at this

/-- The next place at which memory is changed. -/
theorem next_mod (es : List Ent) (n : Nat) (hn : es.length = n) : ∀ (k i : Nat), i + k = n → ∃ p, i ≤ p ∧ p ≤ n ∧ (p = n ∨ ∃ e, es[p]? = some e ∧ e.m = true) ∧ ∀ (j : Nat) e, i ≤ j → j < p → es[j]? = some e → e.m = false
  | 0, i, hi => ⟨n, by omega, Nat.le_refl _, .inl rfl, fun j e h1 h2 => by omega⟩
  | k + 1, i, hi => by
    have hlt : i < es.length := by omega
    have he := List.getElem?_eq_getElem hlt
    cases hm : es[i].m with
    | true => exact ⟨i, Nat.le_refl _, by omega, .inr ⟨_, he, hm⟩, fun j e h1 h2 => by omega⟩
    | false =>
      obtain ⟨p, h1, h2, h3, h4⟩ := next_mod es n hn k (i + 1) (by omega)
      refine ⟨p, by omega, h2, h3, fun j e hj hjp hje => ?_⟩
      by_cases hji : j = i
      · subst hji; rw [he] at hje; cases hje; exact hm
      · exact h4 j e (by omega) hjp hje

theorem ahead_lt {bs : List Nat} {i j : Nat} (h : ahead bs i j = true) (hlt : i < j) : (bs.getD j 0).testBit i = true := by
  have : Nat.blt i j = true := by simpa [Nat.blt_eq] using hlt
  simpa [ahead, this] using h
theorem ahead_gt {bs : List Nat} {i j : Nat} (h : ahead bs i j = true) (hlt : j < i) : (bs.getD i 0).testBit j = true := by
  have : Nat.blt i j = false := by
    cases hq : Nat.blt i j with
    | false => rfl
    | true => rw [Nat.blt_eq] at hq; omega
  simpa [ahead, this] using h

theorem Reg.heapyOf (R : Reg P ops es st stn) {n i : Nat} {e : Ent} (he : es[i]? = some e) (hm : e.m = true) : bnd n e = true := by
  obtain ⟨o', ho', hg⟩ := R.good i e he
  unfold bnd
  cases hl : e.l with
  | none => rfl
  | some l => have := (hg.still l hl).2.1; rw [hm] at this; cases this

/-- Where a heapy operation that is ready stands to the epoch. -/
theorem Reg.place (R : Reg P ops es st stn) {c0 : Ctx} {D : Array Bool} {c : Ctx} {p : Nat} (hc : Closed ops D) (ep : Epoch ops es stn c0 D c p) {i : Nat} {o : Oper} {e : Ent} (ho : ops[i]? = some o) (he : es[i]? = some e) (hnd : ¬ Done D i)
    (hrdy : ∀ e ∈ o.after, Region.binds .any e = true → Done D e.on) (hh : bnd (hAt es stn 0).length e = true) : (e.m = true → p = i) ∧ (e.m = false → i < p ∧ ∀ (k : Nat) e', i ≤ k → k < p → es[k]? = some e' → e'.m = false) := by
  have hi : i < ops.size := (Array.getElem?_eq_some_iff.1 ho).1
  have hge : i ≤ p := by
    rcases Nat.lt_or_ge p i with hpi | hpi
    · rcases ep.here with hp | ⟨ep', hep, hepm⟩
      · omega
      · have had := ahead_lt (R.order p i ep' e hep hepm he (bnd_meets hh) (by omega)) hpi
        have hdone := before_in hc i p o ho hrdy had
        have := ep.heapy p ep' hdone hep (R.heapyOf hep hepm)
        omega
    · exact hpi
  refine ⟨fun hm => ?_, fun hm => ?_⟩
  · rcases Nat.lt_or_ge i p with hip | hip
    · exact absurd (ep.mods i e hip he hm) hnd
    · omega
  · have hne : i ≠ p := by
      intro heq
      rcases ep.here with hp | ⟨ep', hep, hepm⟩
      · omega
      · rw [← heq, he] at hep; cases hep; rw [hm] at hepm; cases hepm
    refine ⟨by omega, fun k e' hik hkp hke => ?_⟩
    by_cases hki : k = i
    · subst hki; rw [he] at hke; cases hke; exact hm
    · cases hem : e'.m with
      | false => rfl
      | true =>
        have hdone := ep.mods k e' hkp hke hem
        have had := ahead_gt (R.order k i e' e hke hem he (bnd_meets hh) hki) (by omega)
        obtain ⟨ok, hok, _⟩ := R.good k e' hke
        exact absurd (before_in hc k i ok hok (hc k ok hdone hok) had) hnd

theorem Reg.grows (R : Reg P ops es st stn) {i : Nat} : ∀ (n : Nat), i + n ≤ ops.size → (hAt es stn i).length ≤ (hAt es stn (i + n)).length
  | 0, _ => Nat.le_refl _
  | n + 1, hn => by
    obtain ⟨o, e, ho, he, hg⟩ := R.oper (show i + n < ops.size by omega)
    obtain ⟨k1, _, k3, _⟩ := R.at' (i + n) e o he ho
    have ih := R.grows (i := i) n (by omega)
    rw [show i + (n + 1) = i + n + 1 by omega, k3]
    rw [k1] at ih
    cases hw : e.w with
    | true => exact Nat.le_trans ih (hg.ok hw).2.1
    | false => rw [(hg.off hw).1]; exact ih

theorem Reg.grows' (R : Reg P ops es st stn) {i p : Nat} (hip : i ≤ p) (hp : p ≤ ops.size) : (hAt es stn i).length ≤ (hAt es stn p).length := by
  have := R.grows (i := i) (p - i) (by omega)
  rwa [show i + (p - i) = p by omega] at this

/-- A row that nothing between two places touches. -/
theorem Reg.stay (R : Reg P ops es st stn) {id i : Nat} (hid : id < (hAt es stn i).length) : ∀ (n : Nat), i + n ≤ ops.size → (∀ (k : Nat) e, i ≤ k → k < i + n → es[k]? = some e → e.m = true → touch id e.t = false) → hget (hAt es stn (i + n)) id = hget (hAt es stn i) id
  | 0, _, _ => rfl
  | n + 1, hn, hm => by
    obtain ⟨o, e, ho, he, hg⟩ := R.oper (show i + n < ops.size by omega)
    have ih := R.stay hid n (by omega) (fun k e h1 h2 he => hm k e h1 (by omega) he)
    have hlt : id < (hAt es stn (i + n)).length := Nat.lt_of_lt_of_le hid (R.grows n (by omega))
    show hget (hAt es stn (i + n + 1)) id = _
    rw [← ih]
    cases hem : e.m with
    | false => exact (R.step ho he hem).2 id hlt
    | true =>
      obtain ⟨k1, _, k3, _⟩ := R.at' (i + n) e o he ho
      rw [k1] at hlt ⊢
      rw [k3]
      exact hg.keep id hlt (hm _ e (by omega) (by omega) he hem)

/-- What an operation looks at that is not bound: the same wherever it may run. -/
theorem Reg.free (R : Reg P ops es st stn) {c0 : Ctx} {D : Array Bool} {c : Ctx} {p : Nat} (hc : Closed ops D) (ep : Epoch ops es stn c0 D c p) {i : Nat} {o : Oper} {e : Ent} (ho : ops[i]? = some o) (he : es[i]? = some e) (hnd : ¬ Done D i)
    (hrdy : ∀ e ∈ o.after, Region.binds .any e = true → Done D e.on) {l : List Nat} (hl : e.l = some l) (hb : bnd (hAt es stn 0).length e = false) : ∀ id ∈ l, hget (hAt es stn p) id = hget e.h id := by
  intro id hid
  have hi : i < ops.size := (Array.getElem?_eq_some_iff.1 ho).1
  have hple := ep.le
  obtain ⟨k1, _, _, _⟩ := R.at' i e o he ho
  have hlt0 : id < (hAt es stn 0).length := by
    unfold bnd at hb
    rw [hl] at hb
    simp only [Bool.not_eq_false'] at hb
    have := List.all_eq_true.1 hb id hid
    simpa [Nat.blt_eq] using this
  have meet : ∀ t, touch id t = true → meets (hAt es stn 0).length t e.l = true := by
    intro t ht
    unfold meets
    rw [hl]
    simp only [Bool.not_eq_true']
    cases hq : (l.all fun id => Nat.blt id (hAt es stn 0).length && !touch id t) with
    | false => rfl
    | true => have := List.all_eq_true.1 hq id hid; simp [ht] at this
  have hlt (k : Nat) (hk : k ≤ ops.size) : id < (hAt es stn k).length := Nat.lt_of_lt_of_le hlt0 (R.grows' (by omega) hk)
  rw [← k1]
  rcases Nat.lt_or_ge p i with hpi | hpi
  · have := R.stay (i := p) (hlt p hple) (i - p) (by omega) (fun k ek h1 h2 hek hem => by
      cases ht : touch id ek.t with
      | false => rfl
      | true =>
        have had := ahead_lt (R.order k i ek e hek hem he (meet _ ht) (by omega)) (by omega)
        have hdone := before_in hc i k o ho hrdy had
        have := ep.heapy k ek hdone hek (R.heapyOf hek hem)
        omega)
    rw [show p + (i - p) = i by omega] at this
    exact this.symm
  · have := R.stay (i := i) (hlt i (by omega)) (p - i) (by omega) (fun k ek h1 h2 hek hem => by
      cases ht : touch id ek.t with
      | false => rfl
      | true =>
        have hki : k ≠ i := fun e' => by
          subst e'; rw [he] at hek; cases hek
          obtain ⟨_, _, hg⟩ := R.good k e he
          have := (hg.still l hl).2.1; rw [hem] at this; cases this
        obtain ⟨ok, hok, _⟩ := R.good k ek hek
        have hdone := ep.mods k ek (by omega) hek hem
        have had := ahead_gt (R.order k i ek e hek hem he (meet _ ht) hki) (by omega)
        exact absurd (before_in hc k i ok hok (hc k ok hdone hok) had) hnd)
    rw [show i + (p - i) = p by omega] at this
    exact this

/-- One that changes nothing that was there. -/
theorem epoch_same {c0 c c' : Ctx} {D : Array Bool} {p i : Nat} {e : Ent} (hiD : i < D.size) (he : es[i]? = some e) (ep : Epoch ops es stn c0 D c p) (hh : bnd (hAt es stn 0).length e = true → i < p) (hx : Ext c (hAt es stn p) c' (hAt es stn p)) (hs : Sim c' (hAt es stn p)) (hg : Grow c (hAt es stn p) c' (hAt es stn p)) :
    Epoch ops es stn c0 (D.setIfInBounds i true) c' p := by
  refine ⟨ep.le, ep.here, fun m e hm he hem => (done_set hiD).2 (.inr (ep.mods m e hm he hem)), fun j e' hd he' hh' => ?_, hs, hx.fre ep.fre, ep.ext.trans hx, fun k hk hnd id h1 h2 => ?_⟩
  · rcases (done_set hiD).1 hd with rfl | hd
    · rw [he] at he'; cases he'; exact hh hh'
    · exact ep.heapy j e' hd he' hh'
  · obtain ⟨q1, q2⟩ := ep.undone k hk (fun h => hnd ((done_set hiD).2 (.inr h))) id h1 h2
    constructor
    · cases hm : c'.m id with
      | none => rfl
      | some inf => have := hx.fresh id inf hm q1; omega
    · rw [hg.dead]; exact q2

/-- One that makes rows anew. -/
theorem epoch_grow {c0 c c' : Ctx} {D : Array Bool} {p i : Nat} (R : Reg P ops es st stn) (hiD : i < D.size) (ep : Epoch ops es stn c0 D c p) (hip : i < p)
    (hm : ∀ (k : Nat) e', i ≤ k → k < p → es[k]? = some e' → e'.m = false) (hx : Ext c (hAt es stn i) c' (hAt es stn (i + 1))) (hs : Sim c' (hAt es stn (i + 1))) (hg : Grow c (hAt es stn i) c' (hAt es stn (i + 1))) :
    Epoch ops es stn c0 (D.setIfInBounds i true) c' p := by
  have hple := ep.le
  have hl0 : (hAt es stn 0).length ≤ (hAt es stn i).length := R.grows' (by omega) (by omega)
  have hlow : ∀ k, k < i → ¬ Done (D.setIfInBounds i true) k → (hAt es stn (k + 1)).length ≤ (hAt es stn i).length := fun k hk _ => R.grows' (by omega) (by omega)
  have p1 := R.pre' (i := i) (p := p) (by omega) hple hm
  have p2 := R.pre' (i := i + 1) (p := p) (by omega) hple (fun k e' h1 h2 he => hm k e' (by omega) h2 he)
  have hsz := hx.size
  have hlen := hx.len
  have t := hx.tells
  have notfresh : ∀ id inf, (hAt es stn (i + 1)).length ≤ id → c'.m id = some inf → c.m id = some inf := by
    intro id inf hid hi
    cases hcm : c.m id with
    | none => have := hx.fresh id inf hi hcm; omega
    | some inf' => have := hx.m id inf' hcm; rw [hi] at this; exact this.symm
  refine ⟨hple, ep.here, fun m e hm he hem => (done_set hiD).2 (.inr (ep.mods m e hm he hem)), fun j e' hd he' hh' => ?_, ?_, ?_, ?_, fun k hk hnd id h1 h2 => ?_⟩
  · rcases (done_set hiD).1 hd with rfl | hd
    · exact hip
    · exact ep.heapy j e' hd he' hh'
  · refine ⟨fun id inf hid hi hd => ?_, fun id hid hd => ?_, hs.low, hs.inj, hs.plow, hs.apart, hs.own, fun id inf fx f xs fl hid hi hd hgt => ?_⟩
    rotate_right
    · rcases Nat.lt_or_ge id (hAt es stn (i + 1)).length with hlt | hge
      · rw [p2.2 id hlt] at hgt; exact hs.deep id inf fx f xs fl hlt hi hd hgt
      · have hci := notfresh id inf hge hi
        have hcd : ¬ c.dead id := by rw [← hg.dead]; exact hd
        exact ep.sim.deepStay hid hci hcd hgt (fun b hb => by rw [hg.own id (by rw [hci]; simp)]; exact hb) fun b hb => hg.old b (ep.sim.at_low hcd hb)
    · rcases Nat.lt_or_ge id (hAt es stn (i + 1)).length with hlt | hge
      · obtain ⟨ob, hob, hr⟩ := hs.obj id inf hlt hi hd
        exact ⟨ob, by rw [p2.2 id hlt]; exact hob, hr⟩
      · have hci := notfresh id inf hge hi
        have hcd : ¬ c.dead id := by rw [← hg.dead]; exact hd
        obtain ⟨ob, hob, hr⟩ := ep.sim.obj id inf hid hci hcd
        exact ⟨ob, hob, hr.mono t fun hl => hg.old _ (ep.sim.low id inf hci hcd hl)⟩
    · rw [hg.dead] at hd; exact ep.sim.gone id hid hd
  · intro id hid
    obtain ⟨q1, q2⟩ := ep.fre id hid
    refine ⟨?_, by rw [hg.dead]; exact q2⟩
    cases hcm : c'.m id with
    | none => rfl
    | some inf => rw [notfresh id inf (by have := p2.1; omega) hcm] at q1; cases q1
  · have E0 := ep.ext
    refine ⟨⟨fun b hb => hx.pr b (E0.pr b hb), Nat.le_trans E0.size hsz, fun b hb => (hx.keep b (E0.pr b hb)).trans (E0.keep b hb), fun b n hb => hx.blk b n (E0.blk b n hb),
      fun b hb hn => (hg.old b (Nat.lt_of_lt_of_le hb E0.size)).trans (E0.frame b hb hn), fun b hb => ?_, fun b hb => ?_, hx.os.trans E0.os, hx.tape.trans E0.tape, hx.output.trans E0.output⟩,
      E0.len, fun id inf hi => hx.m id inf (E0.m id inf hi), fun id inf hi hn => ?_, fun id hd => hx.dead id (E0.dead id hd), fun id hd => ?_⟩
    · obtain ⟨id, hid, hd, ha⟩ := hb
      have hcd : ¬ c.dead id := by rw [← hg.dead]; exact hd
      cases hcm : c.m id with
      | some inf' =>
        refine E0.own b ⟨id, hid, hcd, ?_⟩
        rcases ha with ha | ⟨inf, hi, hl, he⟩
        · rw [hg.own id (by rw [hcm]; simp)] at ha; exact .inl ha
        · have : inf' = inf := by have := hx.m id inf' hcm; rw [hi] at this; exact (Option.some.inj this).symm
          subst this
          exact .inr ⟨inf', hcm, hl, he⟩
      | none =>
        obtain ⟨inf, hi⟩ : ∃ inf, c'.m id = some inf := by
          rcases ha with ha | ⟨inf, hi, _⟩
          · exact Option.ne_none_iff_exists'.1 (hs.own.told id b ha)
          · exact ⟨inf, hi⟩
        have hfr := hx.fresh id inf hi hcm
        rcases hx.own b ⟨id, hfr.2, hd, ha⟩ with hq | ⟨id0, q0, q1, q2⟩
        · exact .inl (Nat.le_trans E0.size hq)
        · exact E0.own b ⟨id0, Nat.lt_of_lt_of_le q0 p1.1, q1, q2⟩
    · rcases hx.pnew b hb with h | h
      · exact E0.pnew b h
      · exact .inr (Nat.le_trans E0.size h)
    · cases hcm : c.m id with
      | some inf' => exact E0.fresh id inf' hcm hn
      | none => have := hx.fresh id inf hi hcm; have := p2.1; omega
    · rw [hg.dead] at hd; exact E0.dead' id hd
  · have hki : k ≠ i := fun e => hnd (e ▸ (done_set hiD).2 (.inl rfl))
    obtain ⟨q1, q2⟩ := ep.undone k hk (fun h => hnd ((done_set hiD).2 (.inr h))) id h1 h2
    refine ⟨?_, by rw [hg.dead]; exact q2⟩
    cases hcm : c'.m id with
    | none => rfl
    | some inf =>
      have hfr := hx.fresh id inf hcm q1
      rcases Nat.lt_or_ge k i with hlt | hge
      · have := hlow k hlt hnd; omega
      · have p3 := R.pre' (i := i + 1) (p := k) (by omega) (by omega) (fun m e' h1 h2 he => hm m e' (by omega) (by omega) he)
        have := p3.1; omega

/-- One that may change what was there: the epoch's end. -/
theorem epoch_mod {c0 c c' : Ctx} {D : Array Bool} {i : Nat} {o : Oper} {e : Ent} (R : Reg P ops es st stn) (hc : Closed ops D) (hiD : i < D.size) (ho : ops[i]? = some o) (he : es[i]? = some e) (hem : e.m = true)
    (hrdy : ∀ e ∈ o.after, Region.binds .any e = true → Done D e.on) (ep : Epoch ops es stn c0 D c i) (hx : Ext c (hAt es stn i) c' (hAt es stn (i + 1))) (hs : Sim c' (hAt es stn (i + 1))) :
    ∃ p, Epoch ops es stn c0 (D.setIfInBounds i true) c' p := by
  have hi : i < ops.size := (Array.getElem?_eq_some_iff.1 ho).1
  obtain ⟨p, h1, h2, h3, h4⟩ := next_mod es ops.size R.len (ops.size - (i + 1)) (i + 1) (by omega)
  have pr := R.pre' h1 h2 h4
  have hf1 := hx.fre ep.fre
  have E1 := ep.ext.trans hx
  have hlenp := pr.1
  refine ⟨p, h2, h3, fun m e' hm hme hmm => ?_, fun j e' hd he' hh' => ?_, ?_, ?_, ?_, fun k hk hnd id q1 q2 => ?_⟩
  · rcases Nat.lt_trichotomy m i with hlt | heq | hgt
    · exact (done_set hiD).2 (.inr (ep.mods m e' hlt hme hmm))
    · subst heq; exact (done_set hiD).2 (.inl rfl)
    · have := h4 m e' (by omega) hm hme; rw [hmm] at this; cases this
  · rcases (done_set hiD).1 hd with rfl | hd
    · omega
    · have := ep.heapy j e' hd he' hh'; omega
  · refine ⟨fun id inf hid hi' hd => ?_, fun id hid hd => ?_, hs.low, hs.inj, hs.plow, hs.apart, hs.own, fun id inf fx f xs fl hid hi' hd hgt => ?_⟩
    rotate_right
    · rcases Nat.lt_or_ge id (hAt es stn (i + 1)).length with hlt | hge
      · rw [pr.2 id hlt] at hgt; exact hs.deep id inf fx f xs fl hlt hi' hd hgt
      · rw [(hf1 id hge).1] at hi'; cases hi'
    · rcases Nat.lt_or_ge id (hAt es stn (i + 1)).length with hlt | hge
      · obtain ⟨ob, hob, hr⟩ := hs.obj id inf hlt hi' hd
        exact ⟨ob, by rw [pr.2 id hlt]; exact hob, hr⟩
      · rw [(hf1 id hge).1] at hi'; cases hi'
    · rcases Nat.lt_or_ge id (hAt es stn (i + 1)).length with hlt | hge
      · rw [pr.2 id hlt]; exact hs.gone id hlt hd
      · exact absurd hd (hf1 id hge).2
  · exact fun id hid => hf1 id (by omega)
  · refine ⟨⟨E1.pr, E1.size, E1.keep, E1.blk, E1.frame, fun b hb => ?_, E1.pnew, E1.os, E1.tape, E1.output⟩, Nat.le_trans E1.len hlenp, E1.m, fun id inf hi' hn => ?_, E1.dead, fun id hd => ?_⟩
    · obtain ⟨id, hid, hd, ha⟩ := hb
      rcases Nat.lt_or_ge id (hAt es stn (i + 1)).length with hlt | hge
      · exact E1.own b ⟨id, hlt, hd, ha⟩
      · have hnone := (hf1 id hge).1
        rcases ha with ha | ⟨inf, hi', _⟩
        · exact absurd hnone (hs.own.told id b ha)
        · rw [hnone] at hi'; cases hi'
    · have := E1.fresh id inf hi' hn; omega
    · rcases E1.dead' id hd with h | h
      · exact .inl h
      · exact .inr (by omega)
  · rcases Nat.lt_trichotomy k i with hlt | heq | hgt
    · -- undone ahead of a change: it makes no rows
      obtain ⟨ok, ek, hok, hek, hgk⟩ := R.oper (show k < ops.size by omega)
      obtain ⟨k1, _, k3, _⟩ := R.at' k ek ok hek hok
      cases hh : ek.l with
      | some l => rw [k1] at q1; rw [k3, (hgk.still l hh).1] at q2; omega
      | none =>
        have had := ahead_gt (R.order i k e ek he hem hek (by simp [meets, hh]) (by omega)) hlt
        exact absurd ((done_set hiD).2 (.inr (before_in hc i k o ho hrdy had))) hnd
    · subst heq; exact absurd ((done_set hiD).2 (.inl rfl)) hnd
    · have hge : (hAt es stn (i + 1)).length ≤ (hAt es stn k).length := R.grows' (by omega) (by omega)
      exact hf1 id (by omega)
end
end Go.AM
