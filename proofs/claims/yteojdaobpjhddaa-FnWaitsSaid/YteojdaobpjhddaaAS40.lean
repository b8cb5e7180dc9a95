/- An interpreter of the model's code over values that are told, and its soundness. -/
import Derived.Test.YteojdaobpjhddaaAS39
namespace Go.AM

/-! Calls that write a row that came in, and what its elements lead to. -/
/-- A row's blocks are written, no others. -/
theorem write_at {c : Ctx} {h : Heap} (hs : Sim c h) {id : Nat} {i : Info} (hi : c.m id = some i) (hd : ¬ c.dead id) (hid : id < h.length) {w' : World} {N : Nat → Prop} (hN : ∀ b, N b → c.w.heap.size ≤ b ∧ b < w'.heap.size)
    (hfr : ∀ b, b < c.w.heap.size → ¬ c.at id b → w'.heap[b]? = c.w.heap[b]?) (hsz : c.w.heap.size ≤ w'.heap.size) (hblk : ∀ b n, Blk c.w b n → Blk w' b n) (hos : w'.os = c.w.os) (htp : w'.tape = c.w.tape) (hou : w'.output = c.w.output)
    {o' : Obj} (hr : ∀ c' : Ctx, c'.w = w' → c'.pr = c.pr → ObjRep c' i o') :
    let c' : Ctx := { c with w := w', own := fun k b => c.own k b ∨ (k = id ∧ N b) }
    (∀ fx e xs, o'.c = .deep fx e xs → DeepRow c' id i fx e xs) → Ext c h c' (h.set id (some o')) ∧ Sim c' (h.set id (some o')) := by
  intro c' hdp
  have hkeep : ∀ b, c.pr b → w'.heap[b]? = c.w.heap[b]? := fun b hp => hfr b (hs.plow b hp) fun ha => hs.at_apart hd ha hp
  have t : Tells c c' := ⟨fun _ _ h => h, fun _ h => h, ⟨fun _ h => h, hkeep⟩, hblk⟩
  have hoth : ∀ {k b}, ¬ c.dead k → k ≠ id → c.at k b → w'.heap[b]? = c.w.heap[b]? := fun {k b} hk hne ha => hfr b (hs.at_low hk ha) fun ha' => hne (hs.at_inj hk hd ha ha')
  have atc : ∀ {k b}, c'.at k b → c.at k b ∨ (k = id ∧ N b) := fun {k b} ha => by
    rcases ha with (ha | ha) | ha
    · exact .inl (.inl ha)
    · exact .inr ha
    · exact .inl (.inr ha)
  refine ⟨⟨⟨fun _ h => h, hsz, hkeep, hblk, fun b hb hn => hfr b hb fun ha => hn ⟨id, hid, hd, ha⟩, ?_, fun _ h => .inl h, hos, htp, hou⟩, by simp, fun _ _ h => h, fun k j h1 h2 => absurd (h2.symm.trans h1) (by simp), fun _ h => h, fun _ h => .inl h⟩,
    ⟨fun k j h1 h2 h3 => ?_, fun k h1 h2 => ?_, fun k j h1 h2 h3 => Nat.lt_of_lt_of_le (hs.low k j h1 h2 h3) hsz, hs.inj, fun b hb => Nat.lt_of_lt_of_le (hs.plow b hb) hsz, hs.apart, ⟨?_, ?_, ?_, ?_, ?_⟩, ?_⟩⟩
  · rintro b ⟨k, h1, h2, h3⟩
    rcases atc h3 with h3 | ⟨_, h3⟩
    · exact .inr ⟨k, by simpa using h1, h2, h3⟩
    · exact .inl (hN b h3).1
  · by_cases he : k = id
    · subst he
      have : j = i := by rw [hi] at h2; exact (Option.some.inj h2).symm
      subst this
      exact ⟨o', hget_set_same hid, hr c' rfl rfl⟩
    · obtain ⟨o, ho, hr'⟩ := hs.obj k j (by simpa using h1) h2 h3
      exact ⟨o, by rw [hget_set_other he]; exact ho, hr'.mono t fun hl => hoth h3 he (.inr ⟨j, h2, hl, rfl⟩)⟩
  · have he : k ≠ id := fun e => hd (e ▸ h2)
    rw [hget_set_other he]; exact hs.gone k (by simpa using h1) h2
  · rintro k b hk (h | ⟨_, h⟩)
    · exact Nat.lt_of_lt_of_le (hs.own.low k b hk h) hsz
    · exact (hN b h).2
  · rintro k k' b hk hk' (h | ⟨e, h⟩) (h' | ⟨e', h'⟩)
    · exact hs.own.inj k k' b hk hk' h h'
    · have := hs.own.low k b hk h; have := (hN b h').1; omega
    · have := hs.own.low k' b hk' h'; have := (hN b h).1; omega
    · rw [e, e']
  · rintro k k' j hk hk' hj hl (h | ⟨e, h⟩)
    · exact hs.own.row k k' j hk hk' hj hl h
    · have := hs.low k' j hj hk' hl; have := (hN _ h).1; omega
  · rintro k b hk (h | ⟨_, h⟩) hp
    · exact hs.own.apart k b hk h hp
    · have := hs.plow b hp; have := (hN b h).1; omega
  · rintro k b (h | ⟨e, _⟩)
    · exact hs.own.told k b h
    · subst e; show c.m k ≠ none; rw [hi]; simp
  · intro k j fx e xs f h1 h2 h3 h4
    by_cases he : k = id
    · subst he
      have : j = i := by rw [hi] at h2; exact (Option.some.inj h2).symm
      subst this
      rw [hget_set_same hid] at h4; cases h4
      exact hdp fx e xs rfl
    · rw [hget_set_other he] at h4
      exact hs.deepStay (by simpa using h1) h2 h3 h4 (fun _ h => .inl h) fun b hb => hoth h3 he hb

def LawMd (P : Program) (f : FuncId) (e : Ty) (xs : List e.C) (args : List AV) (v : AV) (ys : List e.C) : Prop :=
  Enters P f ∧ ∀ (pr : Nat → Prop) (w : World) (F : Nat → Prop) (u : Value) (vs : List Value) (A : Array Value), (∀ b, pr b → b < w.heap.size) → (∀ b, F b → b < w.heap.size ∧ ¬ pr b) → DCells w (.row e) xs [u] F →
    VReps (still0 pr w) args vs → A.toList = u :: vs → Calls P f A w fun en w' =>
    ∃ (v' : Value) (N : Nat → Prop), en = .returned v' ∧ VRep (still0 (fun _ => False) w') v v' ∧ DCells w' (.row e) ys [u] (fun b => F b ∨ N b) ∧ (∀ b, N b → w.heap.size ≤ b ∧ b < w'.heap.size) ∧ w.heap.size ≤ w'.heap.size ∧
      (∀ b, b < w.heap.size → ¬ F b → w'.heap[b]? = w.heap[b]?) ∧ (∀ b n, Blk w b n → Blk w' b n) ∧ w'.os = w.os ∧ w'.tape = w.tape ∧ w'.output = w.output ∧
      (∀ b o len cap, u = .slice (some ⟨b, o, none⟩) len cap → ∀ idx sub, idx < len → (rowAt e sub).isSome = true → cellAt w' b (o + idx * e.size + sub) = cellAt w b (o + idx * e.size + sub))

/-- A row's content anew. -/
def Cont.re (e : Ty) (ys : List e.C) : Cont → Cont
  | .deep fx _ _ => .deep fx e ys
  | _ => .typed e ys
def putR (h : Heap) (id : Nat) (e : Ty) (ys : List e.C) : Heap :=
  match hget h id with
  | some ⟨c, fl⟩ => h.set id (some ⟨c.re e ys, fl⟩)
  | none => h

def byMutD (e : Ty) (m : (ρ : Type) → List e.C → List AV → (AV → List e.C → Option ρ) → Option ρ) : Con := fun ρ args h K =>
  match args with
  | .sl id :: rest =>
    bif rest.all noRef then
    (match takeT h (.row e) [.sl id] with
     | some (xs, _) => m ρ xs rest fun v ys => bif flatV v then K v (putR h id e ys) true else none
     | none => none) else none
  | .dp id idx sub :: rest =>
    bif rest.all noRef then
    (match hget h id with
     | some ⟨.deep fx f zs, fl⟩ =>
       (match getR f (zs.getD idx f.dflt) sub e with
        | some xs => m ρ xs rest fun v ys => bif flatV v then K v (h.set id (some ⟨.deep fx f (zs.set idx (setR f (zs.getD idx f.dflt) sub e ys)), fl⟩)) true else none
        | none => none)
     | _ => none) else none
  | _ => none

/-- A row's cells, from its place. -/
theorem row_of {w : World} {e : Ty} {xs : List e.C} {u : Value} {F : Nat → Prop} (hD : DCells w (.row e) xs [u] F) {b o len cap : Nat} (hu : u = .slice (some ⟨b, o, none⟩) len cap) : List.length xs = len ∧ (xs ≠ [] → DRow w e.size (DCells w e) (fun k => F k ∧ k ≠ b) b o xs) := by
  subst hu
  rcases hD with ⟨h0, a, h⟩ | ⟨b', o', cap', n, h, _, _, _, _, G, g1, g2, g3⟩
  · simp only [List.cons.injEq, Value.slice.injEq, and_true] at h
    exact ⟨by rw [h0, h.2.1], fun hne => absurd (List.eq_nil_of_length_eq_zero h0) hne⟩
  · simp only [List.cons.injEq, Value.slice.injEq, Option.some.injEq, Addr.mk.injEq, and_true] at h
    obtain ⟨⟨rfl, rfl⟩, h2, _⟩ := h
    exact ⟨h2.symm, fun _ => ⟨G, fun j k q => ⟨g1 j k q, (g1 j k q).2⟩, g2, g3⟩⟩

theorem row_none {w : World} {e : Ty} {xs : List e.C} {u : Value} {F : Nat → Prop} (hD : DCells w (.row e) xs [u] F) {a : Option Addr} {cap : Nat} (hu : u = .slice a 0 cap) : List.length xs = 0 := by
  subst hu
  rcases hD with ⟨h0, _⟩ | ⟨b', o', cap', n, h, _⟩
  · exact h0
  · simp only [List.cons.injEq, Value.slice.injEq, and_true] at h
    exact h.2.1.symm

theorem DRow.nil {α : Type} {w : World} {size : Nat} {R : α → List Value → (Nat → Prop) → Prop} {F : Nat → Prop} {b base : Nat} {xs : List α} (h : xs = []) : DRow w size R F b base xs :=
  ⟨fun _ _ => False, fun _ _ h => h.elim, fun _ _ _ h => h.elim, fun j x hj => by rw [h] at hj; simp at hj⟩

/-- The row at a cell of an element. -/
theorem getR_ok {w : World} : ∀ {t : Ty} {x : t.C} {vs : List Value} {F : Nat → Prop} {sub : Nat} {e : Ty} {xs : List e.C}, DCells w t x vs F → getR t x sub e = some xs →
    ∃ u S, vs[sub]? = some u ∧ (∀ k, S k → F k) ∧ DCells w (.row e) xs [u] S ∧ ∀ (w' : World) (ys : List e.C) (N : Nat → Prop), (∀ b, F b → ¬ S b → w'.heap[b]? = w.heap[b]?) → (∀ b, N b → ¬ F b) → DCells w' (.row e) ys [u] (fun b => S b ∨ N b) →
      DCells w' t (setR t x sub e ys) vs (fun b => F b ∨ N b) := by
  intro t
  induction t with
  | row f _ =>
    intro x vs F sub e xs hD hg
    cases sub with
    | succ n => simp [getR] at hg
    | zero =>
      simp only [getR] at hg
      split at hg
      · rename_i hfe
        subst hfe
        cases hg
        obtain ⟨u, hu⟩ : ∃ u, vs = [u] := by
          rcases hD with ⟨_, a, rfl⟩ | ⟨b', o', cap', n, rfl, _⟩ <;> exact ⟨_, rfl⟩
        subst hu
        refine ⟨u, F, rfl, fun _ h => h, hD, fun w' ys N _ _ hD' => ?_⟩
        have hset : setR (.row f) x 0 f ys = ys := by simp [setR, Ty.castR]; rfl
        rw [hset]
        exact hD'
      · cases hg
  | pair a b iha ihb =>
    rintro x vs F sub e xs ⟨l, r, L, R, rfl, h1, h2, h3, hl, hr⟩ hg
    simp only [getR] at hg
    by_cases hlt : sub < a.size
    · have hblt : Nat.blt sub a.size = true := by simpa [Nat.blt_eq] using hlt
      rw [hblt, cond_true] at hg
      obtain ⟨u, S, p1, p2, p3, p4⟩ := iha hl hg
      refine ⟨u, S, by rw [List.getElem?_append_left (by rw [hl.len]; exact hlt)]; exact p1, fun k hk => h1 k (p2 k hk), p3, fun w' ys N q1 q2 q3 => ?_⟩
      simp only [setR, hblt, cond_true]
      exact ⟨l, r, fun b => L b ∨ N b, R, rfl, fun k hk => hk.imp_left (h1 k), fun k hk => .inl (h2 k hk), fun k hk hk' => hk.elim (fun h => h3 k h hk') fun h => q2 k h (h2 k hk'), p4 w' ys N (fun b hb => q1 b (h1 b hb)) (fun b hb hL => q2 b hb (h1 b hL)) q3, hr.mono (fun b hb => q1 b (h2 b hb) fun hS => h3 b (p2 b hS) hb) (fun _ h => h)⟩
    · have hblt : Nat.blt sub a.size = false := Bool.eq_false_iff.2 fun h => hlt (by simpa [Nat.blt_eq] using h)
      rw [hblt, cond_false] at hg
      obtain ⟨u, S, p1, p2, p3, p4⟩ := ihb hr hg
      refine ⟨u, S, by rw [List.getElem?_append_right (by rw [hl.len]; omega), hl.len]; exact p1, fun k hk => h2 k (p2 k hk), p3, fun w' ys N q1 q2 q3 => ?_⟩
      simp only [setR, hblt, cond_false]
      exact ⟨l, r, L, fun b => R b ∨ N b, rfl, fun k hk => .inl (h1 k hk), fun k hk => hk.imp_left (h2 k), fun k hk hk' => hk'.elim (h3 k hk) fun h => q2 k h (h1 k hk), hl.mono (fun b hb => q1 b (h1 b hb) fun hS => h3 b hb (p2 b hS)) (fun _ h => h), p4 w' ys N (fun b hb => q1 b (h2 b hb)) (fun b hb hR => q2 b hb (h2 b hR)) q3⟩
  | _ => intro x vs F sub e xs hD hg; simp [getR] at hg

theorem con_byMutD {P : Program} {f : FuncId} {e : Ty} {m : (ρ : Type) → List e.C → List AV → (AV → List e.C → Option ρ) → Option ρ}
    (hm : ∀ (ρ : Type) xs args (K : AV → List e.C → Option ρ) (x : ρ), m ρ xs args K = some x → ∃ v ys, K v ys = some x ∧ LawMd P f e xs args v ys) : ConOk P f (byMutD e m) := by
  intro ρ args h K x hb
  unfold byMutD at hb
  split at hb
  · rename_i id rest
    cases hn : rest.all noRef with
    | false => rw [hn] at hb; cases hb
    | true =>
      rw [hn, cond_true] at hb
      split at hb
      · rename_i xs ids htk
        obtain ⟨v, ys, hk, hent, hlaw⟩ := hm _ _ _ _ _ hb
        cases hfv : flatV v with
        | false => rw [hfv] at hk; cases hk
        | true =>
          rw [hfv] at hk
          simp only [cond_true] at hk
          have hone : ids.Nodup := by
            rcases take_row htk with ⟨h1, _⟩ | ⟨_, _, rfl, _⟩
            · cases h1
            · simp
          have hids : ids = [id] := by
            rcases take_row htk with ⟨h1, _⟩ | ⟨k, h1, h2, _⟩
            · cases h1
            · cases h1; exact h2
          subst hids
          obtain ⟨ct, fl, hob, hput, hpl⟩ : ∃ ct fl, hget h id = some ⟨ct, fl⟩ ∧ putR h id e ys = h.set id (some ⟨ct.re e ys, fl⟩) ∧ ((∃ fx, ct = .deep fx e xs) ∨ (flatT e = true ∧ ct = .typed e xs)) := by
            rcases take_row htk with ⟨h1, _⟩ | ⟨k, h1, _, hg⟩
            · cases h1
            · cases h1
              rcases hg with ⟨fx, fl, hg⟩ | ⟨hfe, fl, hg⟩
              · exact ⟨_, fl, hg, by simp only [putR, hg], .inl ⟨fx, rfl⟩⟩
              · exact ⟨_, fl, hg, by simp only [putR, hg], .inr ⟨hfe, rfl⟩⟩
          rw [hput] at hk
          have hid : id < h.length := hget_lt hob
          refine ⟨v, _, true, hk, hent, (sta_set fun j hj => touch_sl hj (by simp)), fun c vs hs _ hr => ?_⟩
          have hd := hs.alive hob
          cases hvs : vs.toList with
          | nil => rw [hvs] at hr; simp [VReps] at hr
          | cons u vs' =>
            rw [hvs] at hr
            simp only [VReps] at hr
            obtain ⟨hu, hrest⟩ := hr
            obtain ⟨hD, hidr⟩ := take_rep hs (cs := [.sl id]) (vs := [u]) (by simp only [VReps, and_true]; exact hu) htk hone
            simp only [VRep, slRep] at hu
            obtain ⟨i, hi, hcase⟩ := hu.2.resolve_left hd
            have rep := hs.rep hob hi
            have hes : i.es = e.size := by
              rw [rep.es]; rcases hpl with ⟨fx, rfl⟩ | ⟨_, rfl⟩ <;> rfl
            refine (hlaw c.pr c.w (fun b => ∃ k, k ∈ [id] ∧ c.at k b) u vs' vs hs.plow (fun b hb => ?_) hD (noRef_reps (c := c) (c2 := still0 c.pr c.w) rfl rfl hn hrest) hvs).mono ?_
            · obtain ⟨k, hk1, hk2⟩ := hb
              simp only [List.mem_singleton] at hk1; subst hk1
              exact ⟨hs.at_low hd hk2, hs.at_apart hd hk2⟩
            rintro en w' ⟨v', N, rfl, hvv, hD', hN, q4, q5, q6, q7, q8, q9, q10⟩
            -- the row as it is then
            have hrow : List.length ys = i.len ∧ DRow w' e.size (DCells w' e) (fun k => c.own id k ∨ N k) i.b i.base ys := by
              rcases hcase with ⟨hloc, cap, n, hv, hle, _⟩ | ⟨hloc, h0, a, hv⟩
              · obtain ⟨r1, r2⟩ := row_of hD' hv
                refine ⟨r1, ?_⟩
                by_cases hne : ys = []
                · exact DRow.nil hne
                · refine (r2 hne).mono (fun _ => rfl) (fun k hk => ?_) fun _ _ _ _ q => q
                  rcases hk with ⟨⟨k', hk1, hk2⟩ | hk, hkb⟩
                  · simp only [List.mem_singleton] at hk1; subst hk1
                    rcases hk2 with hk2 | ⟨j, hj, _, hjb⟩
                    · exact .inl hk2
                    · rw [hi] at hj; cases hj; exact absurd hjb.symm hkb
                  · exact .inr hk
              · have := row_none hD' hv
                exact ⟨by rw [this, h0], DRow.nil (List.eq_nil_of_length_eq_zero this)⟩
            have hcell : ∀ (idx sub : Nat), idx < List.length ys → (rowAt e sub).isSome = true → cellAt w' i.b (i.base + idx * e.size + sub) = cellAt c.w i.b (i.base + idx * e.size + sub) := fun idx sub p1 p2 => by
              rcases hcase with ⟨hloc, cap, n, hv, hle, _⟩ | ⟨hloc, h0, a, hv⟩
              · exact q10 _ _ _ _ hv idx sub (by rw [← hrow.1]; exact p1) p2
              · rw [hrow.1, h0] at p1; omega
            have hxl : i.len = List.length xs := by rw [rep.len]; rcases hpl with ⟨fx, rfl⟩ | ⟨_, rfl⟩ <;> rfl
            obtain ⟨g1, g2⟩ := write_at hs hi hd hid hN (fun b hb ha => q5 b hb fun ⟨k, hk1, hk2⟩ => by simp only [List.mem_singleton] at hk1; subst hk1; exact ha hk2) q4 q6 q7 q8 q9 (o' := ⟨ct.re e ys, fl⟩) (fun c' hw hpr => by
              refine ⟨?_, ?_, rep.pos, rep.full, rep.loc, fun hl => ?_, ?_⟩
              · rcases hpl with ⟨fx, rfl⟩ | ⟨_, rfl⟩ <;> exact hrow.1.symm
              · rcases hpl with ⟨fx, rfl⟩ | ⟨_, rfl⟩ <;> exact hes
              · obtain ⟨n, hb1, hb2⟩ := rep.blk hl; exact ⟨n, by rw [hw]; exact q6 _ _ hb1, hb2⟩
              · rcases hpl with ⟨fx, rfl⟩ | ⟨hfe, rfl⟩
                · subst hw; exact DRow.rep hrow.2
                · obtain ⟨G, _, _, g3⟩ := hrow.2
                  intro j y hj
                  obtain ⟨us, u1, u2, u3⟩ := g3 j y hj
                  rw [hw]
                  exact ⟨us, u1, u2, flat_cells hfe (u3.cells (G := G j) fun _ h => h)⟩) (fun fx' e' xs' hc => by
              rcases hpl with ⟨fx, rfl⟩ | ⟨hfe, rfl⟩
              · have D := hs.deep id i fx e xs fl hid hi hd hob
                have hc2 : Cont.deep fx e ys = .deep fx' e' xs' := hc
                cases hc2
                refine ⟨hrow.2.mono (fun _ => rfl) (fun k hk => hk.imp_right fun h => ⟨rfl, h⟩) fun _ _ _ _ q => q, fun hf a b z p1 p2 p3 => D.hd hf a b z (by rw [← hxl, ← hrow.1]; exact p1) p2 (by rw [← hcell a b p1 p2]; exact p3), fun a b z hz => ?_⟩
                obtain ⟨p1, p2, p3, p4⟩ := D.hd' a b z hz
                rw [← hxl, ← hrow.1] at p2
                exact ⟨p1, p2, p3, (hcell a b p2 p3).trans p4⟩
              · cases hc)
            exact ⟨v', _, rfl, rfl, g1, g2, flat_rep hfv hvv, fun h => by cases h⟩
      · cases hb
  · rename_i id idx sub rest
    cases hn : rest.all noRef with
    | false => rw [hn] at hb; cases hb
    | true =>
      rw [hn, cond_true] at hb
      split at hb
      · rename_i fx t zs fl hob
        · generalize hz : zs.getD idx t.dflt = z at hb
          split at hb
          · rename_i xs hget'
            obtain ⟨v, ys, hk, hent, hlaw⟩ := hm _ _ _ _ _ hb
            cases hfv : flatV v with
            | false => rw [hfv] at hk; cases hk
            | true =>
              rw [hfv] at hk
              simp only [cond_true] at hk
              have hid : id < h.length := hget_lt hob
              refine ⟨v, _, true, hk, hent, (sta_set fun j hj => touch_dp hj (List.mem_cons_self ..)), fun c vs hs _ hr => ?_⟩
              have hd := hs.alive hob
              cases hvs : vs.toList with
              | nil => rw [hvs] at hr; simp [VReps] at hr
              | cons u vs' =>
                rw [hvs] at hr
                simp only [VReps] at hr
                obtain ⟨hu, hrest⟩ := hr
                simp only [VRep, dpRep] at hu
                obtain ⟨i, hi, hhd⟩ := hu.2.resolve_left hd
                have rep := hs.rep hob hi
                have D := hs.deep id i fx t zs fl hid hi hd hob
                have hes : i.es = t.size := rep.es
                have hlen : i.len = List.length zs := rep.len
                obtain ⟨_, hidx, hrow, hcell⟩ := D.hd' idx sub u hhd
                have hloc := rep.loc (by omega)
                have hgd : zs[idx] = z := by rw [← hz]; simp [List.getD, hidx]
                obtain ⟨G, g1, g2, g3⟩ := D.row
                obtain ⟨es, e1, e2, e3⟩ := g3 idx zs[idx] (by simp [hidx])
                rw [hgd] at e3
                obtain ⟨u', S, s1, s2, s3, s4⟩ := getR_ok e3 hget'
                have huu : u' = u := by
                  have := e2 sub u' s1
                  rw [hcell] at this
                  exact (Option.some.inj this).symm
                subst huu
                have hSid : ∀ b, S b → c.own id b := fun b hb => (g1 idx b (s2 b hb)).1
                refine (hlaw c.pr c.w S u' vs' vs hs.plow (fun b hb => ⟨hs.own.low id b hd (hSid b hb), hs.own.apart id b hd (hSid b hb)⟩) s3 (noRef_reps (c := c) (c2 := still0 c.pr c.w) rfl rfl hn hrest) hvs).mono ?_
                rintro en w' ⟨v', N, rfl, hvv, hD', hN, q4, q5, q6, q7, q8, q9, q10⟩
                have hsame : ∀ b, c.at id b → ¬ S b → w'.heap[b]? = c.w.heap[b]? := fun b hb hS => q5 b (hs.at_low hd hb) hS
                have hbS : ¬ S i.b := fun h => (g1 idx _ (s2 _ h)).2 rfl
                have hbb : w'.heap[i.b]? = c.w.heap[i.b]? := hsame i.b (.inr ⟨i, hi, hloc, rfl⟩) hbS
                have hNlow : ∀ {b}, N b → ¬ c.at id b := fun {b} hb ha => by have := hs.at_low hd ha; have := (hN b hb).1; omega
                have hDR : DRow w' t.size (DCells w' t) (fun k => c.own id k ∨ N k) i.b i.base (zs.set idx (setR t z sub e ys)) := by
                  refine ⟨fun j => if j = idx then fun k => G j k ∨ N k else G j, fun j k hk => ?_, fun j j' k hk hk' => ?_, fun j x hj => ?_⟩
                  · by_cases hji : j = idx
                    · simp only [hji, if_true] at hk
                      rcases hk with hk | hk
                      · exact ⟨.inl (g1 idx k hk).1, (g1 idx k hk).2⟩
                      · exact ⟨.inr hk, fun e => hNlow hk (.inr ⟨i, hi, hloc, e.symm⟩)⟩
                    · simp only [hji, if_false] at hk
                      exact ⟨.inl (g1 j k hk).1, (g1 j k hk).2⟩
                  · by_cases hji : j = idx
                    · by_cases hji' : j' = idx
                      · rw [hji, hji']
                      · simp only [hji, if_true] at hk
                        simp only [hji', if_false] at hk'
                        rcases hk with hk | hk
                        · rw [hji]; exact g2 idx j' k hk hk'
                        · exact absurd (.inl (g1 j' k hk').1) (hNlow hk)
                    · simp only [hji, if_false] at hk
                      by_cases hji' : j' = idx
                      · simp only [hji', if_true] at hk'
                        rcases hk' with hk' | hk'
                        · rw [hji']; exact g2 j idx k hk hk'
                        · exact absurd (.inl (g1 j k hk).1) (hNlow hk')
                      · simp only [hji', if_false] at hk'
                        exact g2 j j' k hk hk'
                  · by_cases hji : j = idx
                    · subst hji
                      rw [List.getElem?_set_self hidx] at hj
                      cases hj
                      refine ⟨es, e1, e2.of_block hbb, ?_⟩
                      simp only [if_true]
                      exact s4 w' ys N (fun b hb hS => hsame b (.inl (g1 j b hb).1) hS) (fun b hb hG => hNlow hb (.inl (g1 j b hG).1)) hD'
                    · rw [List.getElem?_set_ne (fun e => hji e.symm)] at hj
                      obtain ⟨es', f1, f2, f3⟩ := g3 j x hj
                      refine ⟨es', f1, f2.of_block hbb, ?_⟩
                      simp only [hji, if_false]
                      exact f3.mono (fun b hb => hsame b (.inl (g1 j b hb).1) fun hS => hji (g2 j idx b hb (s2 b hS))) (fun _ h => h)
                obtain ⟨k1, k2⟩ := write_at hs hi hd hid hN (fun b hb ha => q5 b hb fun hS => ha (.inl (hSid b hS))) q4 q6 q7 q8 q9 (o' := ⟨.deep fx t (zs.set idx (setR t z sub e ys)), fl⟩) (fun c' hw hpr => by
                  refine ⟨by rw [hlen]; simp [Cont.len], hes, rep.pos, rep.full, rep.loc, fun hl => ?_, ?_⟩
                  · obtain ⟨n, hb1, hb2⟩ := rep.blk hl; exact ⟨n, by rw [hw]; exact q6 _ _ hb1, hb2⟩
                  · subst hw; exact DRow.rep hDR) (fun fx' e' xs' hc => by
                  cases hc
                  have hcl : ∀ a b, cellAt w' i.b (i.base + a * t.size + b) = cellAt c.w i.b (i.base + a * t.size + b) := fun a b => cellAt_of_block hbb
                  refine ⟨hDR.mono (fun _ => rfl) (fun k hk => hk.imp_right fun h => ⟨rfl, h⟩) fun _ _ _ _ q => q, fun hf a b z p1 p2 p3 => D.hd hf a b z (by simpa using p1) p2 ((hcl a b).symm.trans p3), fun a b z hz => ?_⟩
                  obtain ⟨p1, p2, p3, p4⟩ := D.hd' a b z hz
                  exact ⟨p1, by simpa using p2, p3, (hcl a b).trans p4⟩)
                exact ⟨v', _, rfl, rfl, k1, k2, flat_rep hfv hvv, fun h => by cases h⟩
          · cases hb
      · cases hb
  · cases hb

/-- A run's word, and the row that came in as it is then. -/
def finMd (t e : Ty) (r : AV × Heap) : Option (t.C × List e.C) :=
  match hget r.2 0 with
  | some ⟨.deep _ u ys, _⟩ => if h : u = e then (asM t (deref r.2 8 r.1)).map fun v => (v, Ty.castR h ys) else none
  | some ⟨.typed u ys, _⟩ => if h : u = e then bif flatT e then (asM t (deref r.2 8 r.1)).map fun v => (v, Ty.castR h ys) else none else none
  | _ => none

/-- A world without memory, from which all blocks are new. -/
def Ctx.none (w : World) : Ctx := ⟨fun _ => Option.none, fun _ => False, fun _ => False, { w with heap := #[] }, fun _ _ => False⟩
theorem none_ext {pr : Nat → Prop} {w : World} : Ext (Ctx.none w) [] (still0 pr w) [] :=
  ⟨⟨fun _ h => h.elim, by simp [Ctx.none], fun _ h => h.elim, fun b n h => by obtain ⟨_, _, _, h1, _⟩ := h; simp [Ctx.none] at h1, fun b hb => by simp [Ctx.none] at hb, fun _ h => absurd h Ctx.has0, fun _ _ => .inr (by simp [Ctx.none]), rfl, rfl, rfl⟩, Nat.le_refl _, fun _ _ h => (by cases h), fun _ _ h => (by cases h), fun _ h => h, fun _ h => .inl h⟩

theorem flat_row : ∀ {t : Ty} {sub : Nat}, flatT t = true → rowAt t sub = none := by
  intro t
  induction t with
  | pair a b iha ihb =>
    intro sub h
    simp only [flatT, Bool.and_eq_true] at h
    unfold rowAt
    cases Nat.blt sub a.size
    · exact ihb h.2
    · exact iha h.1
  | row e _ => intro sub h; simp [flatT] at h
  | node => intro sub h; simp [flatT] at h
  | _ => intro sub _; simp [rowAt]

section
variable {P : Program} {E : Env} {run : Run}
theorem lawMd (hT : TOk P E) (hC : CallsOk P E run) (hmix : P.follows .mixedOrders = true) {f : FuncId} {fn : Func} (hf : P.funcs[f]? = some fn) (hname : (fn.name == "runtime.NumGoroutine") = false) (hb : fn.body.isNone = false) (hpin : 0 < pinsOf E f) {k : Nat} {args : List AV} {t e : Ty} (hpos : Nat.blt 0 e.size = true) (hflat : ∀ x : t.C, flatV (tvM t x) = true) {xs : List e.C} {x : t.C × List e.C}
    (hk : abody E run k f fn (.sl 0 :: args) (objsD true (.row e) xs) (finMd t e) = some x) : LawMd P f e xs args (tvM t x.1) x.2 := by
  obtain ⟨r, hfin, hw⟩ := told_body (lv := true) hT hC (regOk hT hmix hC) hf (fun h => by cases h) hk
  obtain ⟨rv, rh⟩ := r
  refine ⟨⟨fn, hf, hname, hb⟩, fun pr w F u vs A hp hF hD hr hA => ?_⟩
  obtain ⟨c2, a1, a2, a3, a4, a5, a6, a7, _, a9, a10⟩ := expl_ok (c := Ctx.none w) (h := []) true (t := .row e) (c1 := still0 pr w) (h1 := []) none_ext (sim_still0 hp) (fun _ _ _ => ⟨rfl, fun h => h⟩) hD (fun b hb => ⟨Nat.zero_le _, (hF b hb).1, (hF b hb).2, fun id _ ha => by
    rcases ha with ha | ⟨j, hj, _⟩
    · exact ha
    · cases hj⟩) (by simpa [posT] using hpos)
  rw [List.nil_append] at a6 a7
  obtain rfl : c2.w = w := a1
  have hlen1 : (objsD true (.row e) xs).length = 1 := rfl
  have hfre : Fre c2 (objsD true (.row e) xs) := fun id hid => by
    refine ⟨by rw [a4 id (by rw [hlen1] at hid; exact hid)]; rfl, by rw [a3]; exact fun h => h⟩
  simp only [expl, VReps, and_true, List.length_nil] at a10
  have hargs : VReps c2 (.sl 0 :: args) A.toList := by
    rw [hA]
    exact ⟨a10, VReps.mono a9 hr⟩
  have hd0 : ¬ c2.dead 0 := by rw [a3]; exact fun h => h
  refine (hw c2 A a7 hfre hargs).mono ?_
  rintro en w' ⟨v', c', rfl, rfl, hsi, hs', hf', hvr⟩
  have W := hsi.1
  simp only [VRep, slRep] at a10
  obtain ⟨i, hi0, hcase⟩ := a10.2.resolve_left hd0
  have hm0 : c'.m 0 = some i := hsi.2.2 0 i hpin hi0
  have hat0 : ∀ {b}, c2.at 0 b → F b := fun {b} ha => by
    rcases a5 0 b ha with h | h
    · rcases h with h | ⟨j, hj, _⟩
      · exact h.elim
      · cases hj
    · exact h
  have hhas : ∀ {b}, c2.has (objsD true (.row e) xs).length b → F b := fun {b} ⟨id, h1, h2, h3⟩ => by
    rw [hlen1] at h1
    have : id = 0 := by omega
    subst this; exact hat0 h3
  have hrep0 := a7.rep (id := 0) (ob := ⟨contD true e xs, false⟩) rfl hi0
  have hil : i.len = List.length xs := by rw [hrep0.len, contD_len.1]
  have hie : i.es = e.size := by rw [hrep0.es, contD_len.2]
  have key : ∀ (ys : List e.C) (v1 : t.C), asM t (deref rh 8 rv) = some v1 → ¬ c'.dead 0 → i.len = List.length ys → DRow c'.w e.size (DCells c'.w e) (c'.own 0) i.b i.base ys →
      (∀ idx sub, idx < i.len → (rowAt e sub).isSome = true → cellAt c'.w i.b (i.base + idx * e.size + sub) = cellAt c2.w i.b (i.base + idx * e.size + sub)) →
      ∃ (v'' : Value) (N : Nat → Prop), Ending.returned v' = .returned v'' ∧ VRep (still0 (fun _ => False) c'.w) (tvM t v1) v'' ∧ DCells c'.w (.row e) ys [u] (fun b => F b ∨ N b) ∧ (∀ b, N b → c2.w.heap.size ≤ b ∧ b < c'.w.heap.size) ∧ c2.w.heap.size ≤ c'.w.heap.size ∧
        (∀ b, b < c2.w.heap.size → ¬ F b → c'.w.heap[b]? = c2.w.heap[b]?) ∧ (∀ b n, Blk c2.w b n → Blk c'.w b n) ∧ c'.w.os = c2.w.os ∧ c'.w.tape = c2.w.tape ∧ c'.w.output = c2.w.output ∧
        (∀ b o len cap, u = .slice (some ⟨b, o, none⟩) len cap → ∀ idx sub, idx < len → (rowAt e sub).isSome = true → cellAt c'.w b (o + idx * e.size + sub) = cellAt c2.w b (o + idx * e.size + sub)) := by
    intro ys v1 hv1 hd hyl hrow hcell
    refine ⟨v', fun b => c2.w.heap.size ≤ b ∧ c'.at 0 b, rfl, flat_rep (hflat v1) (asM_rep hv1 (deref_rep hs' 8 _ _ hvr)), ?_, fun b hb => ⟨hb.1, hs'.at_low hd hb.2⟩, W.size, fun b hb hn => W.frame b hb fun h => hn (hhas h), W.blk, W.os, W.tape, W.output, ?_⟩
    · rcases hcase with ⟨hloc, cap, n, hv, hle, hblk, hn, _⟩ | ⟨hloc, h0, a, hv⟩
      · refine .inr ⟨i.b, i.base, cap, n, by rw [hv, hyl], by rw [← hyl]; exact hle, .inl (hat0 (.inr ⟨i, hi0, hloc, rfl⟩)), W.blk _ _ hblk, by rw [← hie]; exact hn, hrow.mono (fun _ => rfl) (fun k hk => ?_) fun _ _ _ _ q => q⟩
        rcases W.own k ⟨0, Ctx.at_lt hs' hf' (.inl hk), hd, .inl hk⟩ with h | h
        · exact .inr ⟨h, .inl hk⟩
        · exact .inl (hhas h)
      · exact .inl ⟨by rw [← hyl, h0], a, by rw [hv]⟩
    · intro b o len cap hu idx sub q1 q2
      rcases hcase with ⟨hloc, cap', n, hv, hle, hblk, hn, _⟩ | ⟨hloc, h0, a, hv⟩
      · rw [hv] at hu
        simp only [Value.slice.injEq, Option.some.injEq, Addr.mk.injEq, and_true] at hu
        obtain ⟨⟨rfl, rfl⟩, rfl, _⟩ := hu
        exact hcell idx sub q1 q2
      · rw [hv] at hu
        simp only [Value.slice.injEq] at hu
        omega
  unfold finMd at hfin
  split at hfin
  · rename_i fx u' ys fl hob
    split at hfin
    · rename_i hue
      subst hue
      obtain ⟨v1, hv1, rfl⟩ := Option.map_eq_some_iff.1 hfin
      have hd := hs'.alive hob
      have hrep2 := hs'.rep hob hm0
      have D2 := hs'.deep 0 i fx u' ys fl (hget_lt hob) hm0 hd hob
      refine key ys v1 hv1 hd hrep2.len D2.row fun idx sub q1 q2 => ?_
      have hnf : flatT u' = false := by
        cases hft : flatT u' with
        | false => rfl
        | true => rw [flat_row hft] at q2; cases q2
      have D1 := a7.deep 0 i true u' xs false (by rw [hlen1]; exact Nat.lt_succ_self 0) hi0 hd0 (by simp [hget, objsD, contD, hnf])
      obtain ⟨G, _, _, g3⟩ := D1.row
      have hix : idx < List.length xs := by rw [← hil]; exact q1
      obtain ⟨vs, e1, e2, e3⟩ := g3 idx xs[idx] (by simp [hix])
      obtain ⟨z, hz, _⟩ := e3.atRow q2
      have hcz := e2 sub z hz
      obtain ⟨_, _, _, hz2⟩ := D2.hd' idx sub z (D1.hd rfl idx sub z hix q2 hcz)
      rw [hz2, hcz]
    · cases hfin
  · rename_i u' ys fl hob
    split at hfin
    · rename_i hue
      subst hue
      by_cases hft : flatT u' = true
      · rw [hft, cond_true] at hfin
        obtain ⟨v1, hv1, rfl⟩ := Option.map_eq_some_iff.1 hfin
        have hd := hs'.alive hob
        have hrep2 := hs'.rep hob hm0
        refine key ys v1 hv1 hd hrep2.len ⟨fun _ _ => False, fun _ _ h => h.elim, fun _ _ _ h => h.elim, fun j y hj => ?_⟩ fun idx sub q1 q2 => ?_
        · obtain ⟨us, u1, u2, u3⟩ := hrep2.cont j y hj
          exact ⟨us, u1, u2, flat_D hft u3⟩
        · rw [flat_row hft] at q2; cases q2
      · simp only [Bool.not_eq_true] at hft; rw [hft] at hfin; cases hfin
    · cases hfin
  · cases hfin
end
theorem LawMd.reads {P : Program} {f : FuncId} {as bs : List AV} {e : Ty} {xs ys : List e.C} {v : AV} (h : ReadsL as bs) (l : LawMd P f e xs bs v ys) : LawMd P f e xs as v ys :=
  ⟨l.1, fun pr w F u vs A hp hF hD hr hA => l.2 pr w F u vs A hp hF hD (h _ _ hr) hA⟩
end Go.AM
