/- An interpreter of the model's code over values that are told, and its soundness. -/
import Derived.Test.YteojdaobpjhddaaAS14
namespace Go.AM

/-! Soundness: append, told. -/
section
variable {ρ : Type} {P : Program} {E : Env} {s : List AV} {h : Heap} {o : Oper} {x : ρ}

/-- An append to what has no room. -/
theorem app_more {w : World} {T U ty e : TypeId} {ts : Array TypeId} {ti : TI} (tyi : TyIs P e ti) (h0 : ts[0]? = some T) (h1 : ts[1]? = some U) (hT : P.underlying T = some (.slice e)) (hU : (∃ e', P.underlying U = some (.slice e')) ∨ P.underlying U = some .string)
    {A : Option Addr} {len cap m : Nat} {y : Value} {L M : List (List Value)} (hlen : (Builtin.lenOf y).run P w = .ok m w)
    (hold : (Builtin.firstCells ti.size len (.slice A len cap)).run P w.drew = .ok L.flatten.toArray w.drew) (hfirst : (Builtin.firstCells ti.size m y).run P w.drew = .ok M.flatten.toArray w.drew)
    (hL : L.length = len) (hM : M.length = m) (hes : ∀ vs ∈ L ++ M, vs.length = ti.size)
    (hg : cap < len + m) (hb : 0 < ti.bytes) (hlim : (len + m) * ti.bytes ≤ lim) :
    ∃ cap' w' D, (Builtin.append_ ts ty #[.slice A len cap, y]).run P w = .ok (.slice (some ⟨w.heap.size, 0, none⟩) (len + m) cap') w' ∧ Pushed w w' ((L ++ M).flatten ++ D) ∧ len + m ≤ cap' ∧ cap' * ti.size ≤ ((L ++ M).flatten ++ D).length := by
  obtain ⟨i, z, hi, hz, hsz, hby, hrun, hzc, hzr, hz1⟩ := tyi.zrun
  have hlim' : lim = 35184372088832 := rfl
  have hmul : len + m ≤ (len + m) * ti.bytes := Nat.le_mul_of_pos_right _ hb
  have hr := run_append_more (P := P) (w := w) (ty := ty) (z := z) (i := i) (m := m) (y := y) (olds := L.flatten.toArray) (news := M.flatten.toArray) h0 h1 hT hU hi hz hlen (by rw [hsz]; exact hold) (by rw [hsz]; exact hfirst) hg (by omega)
    (growslice_fits hg (by rw [hby]; omega))
  have hge := grownCap_ge w (len + m) cap e
  have hp := pushed_drew w (L.flatten.toArray ++ M.flatten.toArray ++ Builtin.zeroCells z.cells (grownCap w (len + m) cap e - (len + m))) e
  have hl : (L.flatten.toArray ++ M.flatten.toArray ++ Builtin.zeroCells z.cells (grownCap w (len + m) cap e - (len + m))).toList = (L ++ M).flatten ++ (Builtin.zeroCells z.cells (grownCap w (len + m) cap e - (len + m))).toList := by simp
  rw [hl] at hp
  refine ⟨_, _, _, hr, hp, hge, ?_⟩
  rw [List.length_append, flat_len hes, List.length_append, hL, hM, Array.length_toList, size_zeroCells, hzc, ← Nat.add_mul]
  exact Nat.mul_le_mul_right _ (by omega)

theorem run_call_append {c : Go.Call} (ho : o.op = .call c) (hc : c.callee = .builtin .append) {yx yy : Operand} (ha : c.args = #[yx, yy]) {ac : Act} {w w' : World} {v : Value}
    (h : (Builtin.append_ c.argTypes o.type #[ac.eval yx, ac.eval yy]).run P w = .ok v w') : (execOp ac.eval o).run P w = .ok (.value v) w' := by
  simp [execOp, ho, resolve, hc, ha, invoke, builtin, h]

/-- An append to a slice of which all is told: it has room, and the row goes on; or a new one. -/
theorem app_new {c : Ctx} {w' : World} (hs : Sim c h) (hf : c.m h.length = none ∧ ¬ c.dead h.length) {ct : Cont} {N : List (List Value)} {D : List Value} {cap : Nat} (hp : Pushed c.w w' (N.flatten ++ D)) (hN : ContV c ct N) (hpos : 0 < ct.es ∧ ct.isDeep = false)
    (hcap : ct.len ≤ cap) (hfit : cap * ct.es ≤ (N.flatten ++ D).length) :
    ∃ c', c'.w = w' ∧ Ext c h c' (h ++ [some ⟨ct, false⟩]) ∧ Sim c' (h ++ [some ⟨ct, false⟩]) ∧ Grow c h c' (h ++ [some ⟨ct, false⟩]) ∧ VRep c' (.sl h.length) (.slice (some ⟨c.w.heap.size, 0, none⟩) ct.len cap) := by
  obtain ⟨h1, h2, h3, h4⟩ := grow_ok hs hf (o := ⟨ct, false⟩) hp hN hpos.1 (fun fx e xs hc => by have h2 := hpos.2; rw [show ct = _ from hc] at h2; cases h2)
  exact ⟨_, rfl, h1, h2, h3, sl_new (len := ct.len) (es := ct.es) (full := false) hp rfl (by simp [Ctx.more, upd]) hcap hfit (by simp)⟩

theorem app_new_kill {c : Ctx} {w' : World} (hs : Sim c h) (hf : c.m h.length = none ∧ ¬ c.dead h.length) {id : Nat} (hid : id < h.length) {ct : Cont} {N : List (List Value)} {D : List Value} {cap : Nat} (hp : Pushed c.w w' (N.flatten ++ D)) (hN : ContV c ct N) (hpos : 0 < ct.es ∧ ct.isDeep = false)
    (hcap : ct.len ≤ cap) (hfit : cap * ct.es ≤ (N.flatten ++ D).length) :
    ∃ c', c'.w = w' ∧ Ext c h c' (h.set id none ++ [some ⟨ct, false⟩]) ∧ Sim c' (h.set id none ++ [some ⟨ct, false⟩]) ∧ VRep c' (.sl h.length) (.slice (some ⟨c.w.heap.size, 0, none⟩) ct.len cap) := by
  obtain ⟨c1, hw, h1, h2, _, h4⟩ := app_new hs hf hp hN hpos hcap hfit
  obtain ⟨k1, k2⟩ := kill_ok h2 (id := id) (by simp; omega)
  have e : (h ++ [some (⟨ct, false⟩ : Obj)]).set id none = h.set id none ++ [some (⟨ct, false⟩ : Obj)] := by rw [List.set_append_left _ _ hid]
  rw [e] at k1 k2
  refine ⟨_, ?_, h1.trans k1, k2, h4.mono k1.tells⟩
  exact hw

/-- An append in place, to a row that lies somewhere. -/
theorem app_room {c : Ctx} (hs : Sim c h) (hf : c.m h.length = none ∧ ¬ c.dead h.length) {id : Nat} {i : Info} (hid : id < h.length) (hi : c.m id = some i) (hd : ¬ c.dead id) (hl : i.loc = true) {ct : Cont} {L M : List (List Value)} {base len cap n : Nat}
    (hN : ContV c ct (L ++ M)) (hL : L.length = len) (hpos : 0 < ct.es ∧ ct.isDeep = false) (hlies : Lies c.w i.b base L.flatten) (hb : Blk c.w i.b n) (hfit : base + cap * ct.es ≤ n) (hroom : ct.len ≤ cap) :
    ∃ c', c'.w = c.w.setCells i.b (base + len * ct.es) M.flatten ∧ Ext c h c' (h.set id none ++ [some ⟨ct, false⟩]) ∧ Sim c' (h.set id none ++ [some ⟨ct, false⟩]) ∧ VRep c' (.sl h.length) (.slice (some ⟨i.b, base, none⟩) ct.len cap) := by
  have hes := hN.es
  have hLl : L.flatten.length = len * ct.es := by rw [flat_len (es := ct.es) (fun vs hv => hes vs (by simp [hv])), hL]
  have hMl : M.flatten.length = M.length * ct.es := flat_len (es := ct.es) (fun vs hv => hes vs (by simp [hv]))
  have hlen : ct.len = len + M.length := by rw [← hN.len, List.length_append, hL]
  have hmul : ct.len * ct.es ≤ cap * ct.es := Nat.mul_le_mul_right _ hroom
  rw [hlen, Nat.add_mul] at hmul
  have only := only_setCells i.b M.flatten (base + len * ct.es) c.w
  obtain ⟨t, k⟩ := adopt_ok hs hid hi hd hf (w' := c.w.setCells i.b (base + len * ct.es) M.flatten) only (.inl hl) (i' := (inf true i.b base ct.len ct.es false)) (fun _ => ⟨hl, rfl⟩) (o := ⟨ct, false⟩)
  have hlies2 : Lies (c.w.setCells i.b (base + len * ct.es) M.flatten) i.b base (L ++ M).flatten := by
    rw [List.flatten_append]
    refine Lies.append (lies_set_out (.inl (by rw [hLl]; exact Nat.le_refl _)) hlies) ?_
    rw [hLl]
    exact lies_set_in hb (by rw [hMl]; omega)
  have hblk := only.blk _ _ hb
  obtain ⟨k1, k2⟩ := k ⟨rfl, rfl, hpos.1, rfl, fun _ => rfl, fun _ => ⟨n, hblk, by simp only [hlen, Nat.add_mul]; omega⟩, contRep_iff.2 ⟨_, hN.mono t, hlies2⟩⟩ hpos.2
  refine ⟨_, ?_, k1, k2, ?_⟩
  · rfl
  simp only [VRep, slRep]
  exact ⟨⟨_, _, _, rfl⟩, .inr ⟨(inf true i.b base ct.len ct.es false), by simp [upd], .inl ⟨rfl, cap, n, rfl, hroom, hblk, hfit, by simp⟩⟩⟩

/-- Nothing is appended to what is empty and lies nowhere. -/
theorem app_none {c : Ctx} (hs : Sim c h) (hf : c.m h.length = none ∧ ¬ c.dead h.length) {id : Nat} {i : Info} (hid : id < h.length) (hi : c.m id = some i) (hd : ¬ c.dead id) {ct : Cont} (hN : ContV c ct []) (hpos : 0 < ct.es ∧ ct.isDeep = false) (A : Option Addr) :
    ∃ c', c'.w = c.w ∧ Ext c h c' (h.set id none ++ [some ⟨ct, false⟩]) ∧ Sim c' (h.set id none ++ [some ⟨ct, false⟩]) ∧ VRep c' (.sl h.length) (.slice A 0 0) := by
  have hlen : ct.len = 0 := hN.len.symm
  obtain ⟨t, k⟩ := adopt_ok hs hid hi hd hf (w' := c.w) (Only.refl _ _) (.inr rfl) (i' := (inf false 0 0 0 ct.es false)) (fun h => by cases h) (o := ⟨ct, false⟩)
  obtain ⟨k1, k2⟩ := k ⟨hlen.symm, rfl, hpos.1, rfl, fun h => absurd h (Nat.lt_irrefl 0), fun h => (by cases h), contRep_iff.2 ⟨[], hN.mono t, by simp [Lies]⟩⟩ hpos.2
  refine ⟨_, ?_, k1, k2, ?_⟩
  · rfl
  simp only [VRep, slRep]
  exact ⟨⟨_, _, _, rfl⟩, .inr ⟨(inf false 0 0 0 ct.es false), by simp [upd], .inr ⟨rfl, rfl, A, rfl⟩⟩⟩

theorem app_none0 {c : Ctx} (hs : Sim c h) (hf : c.m h.length = none ∧ ¬ c.dead h.length) {ct : Cont} (hN : ContV c ct []) (hpos : 0 < ct.es ∧ ct.isDeep = false) (A : Option Addr) :
    ∃ c', c'.w = c.w ∧ Ext c h c' (h ++ [some ⟨ct, false⟩]) ∧ Sim c' (h ++ [some ⟨ct, false⟩]) ∧ Grow c h c' (h ++ [some ⟨ct, false⟩]) ∧ VRep c' (.sl h.length) (.slice A 0 0) := by
  obtain ⟨k1, k2, k3, k4⟩ := grow0_ok hs hf (o := ⟨ct, false⟩) hN.len.symm hN hpos.1 hpos.2
  refine ⟨_, ?_, k1, k2, k3, ?_⟩
  · rfl
  simp only [VRep, slRep]
  exact ⟨⟨_, _, _, rfl⟩, .inr ⟨(inf false 0 0 0 ct.es false), by simp [upd], .inr ⟨rfl, rfl, A, rfl⟩⟩⟩
end
end Go.AM
