/- An interpreter of the model's code over values that are told, and its soundness. -/
import Derived.Test.YteojdaobpjhddaaAS8
import Derived.Laws.IdiomStrings
namespace Go.AM

/-! Soundness: rows that are made. -/
theorem flat_get {es : Nat} {L : List (List Value)} (h : ∀ vs ∈ L, vs.length = es) {i r : Nat} (hr : r < es) : L.flatten[i * es + r]? = (L[i]?).bind (·[r]?) := by
  have h1 : L.flatten[i * es + r]? = (L.drop i).flatten[r]? := by rw [← flat_drop i h, List.getElem?_drop]
  rw [h1]
  cases hd : L[i]? with
  | none =>
    have : L.drop i = [] := List.drop_eq_nil_of_le (by simpa using hd)
    simp [this]
  | some vs =>
    have hlt : i < L.length := (List.getElem?_eq_some_iff.1 hd).1
    have hm : vs.length = es := h vs (List.mem_of_getElem? hd)
    rw [List.drop_eq_getElem_cons hlt, List.flatten_cons]
    have : L[i] = vs := (List.getElem?_eq_some_iff.1 hd).2
    rw [this, List.getElem?_append_left (by omega)]
    rfl

theorem made_flat (z : Array Value) (hz : 0 < z.size) (k : Nat) : (madeCells z (k * z.size)).toList = (List.replicate k z.toList).flatten := by
  have hall : ∀ vs ∈ List.replicate k z.toList, vs.length = z.size := by
    intro vs hv; rw [List.eq_of_mem_replicate hv]; simp
  apply List.ext_getElem?
  intro j
  have hj : j = j / z.size * z.size + j % z.size := by rw [Nat.mul_comm]; exact (Nat.div_add_mod j z.size).symm
  have hm : j % z.size < z.size := Nat.mod_lt _ hz
  have e1 : (List.replicate k z.toList).flatten[j]? = ((List.replicate k z.toList)[j / z.size]?).bind (·[j % z.size]?) := by
    have := flat_get hall (i := j / z.size) hm
    rwa [← hj] at this
  rw [e1]
  by_cases hlt : j < k * z.size
  · have hq : j / z.size < k := Nat.div_lt_of_lt_mul (by rwa [Nat.mul_comm])
    simp [madeCells, hlt, hq, hm]
  · have hq : ¬ j / z.size < k := fun h => hlt (by
      have : (j / z.size + 1) * z.size ≤ k * z.size := Nat.mul_le_mul_right _ h
      rw [Nat.add_mul, Nat.one_mul] at this; omega)
    simp [madeCells, hlt, hq]

theorem zero_flat (z : Array Value) (hz : 0 < z.size) (k : Nat) : (Builtin.zeroCells z k).toList = (List.replicate k z.toList).flatten := made_flat z hz k

/-- The zero of a code. -/
theorem cz_rep {c : Ctx} : ∀ {t : Ty} {as : List AV} {vs : List Value}, czOk t as = true → VReps c as vs → CellsRep c.pr c.w t t.dflt vs := by
  intro t
  induction t with
  | int k =>
    intro as vs h hr
    match as, h with
    | [.int k' n], h =>
      simp only [czOk, Bool.and_eq_true, decide_eq_true_eq, beq_iff_eq] at h
      obtain ⟨u, rfl, hu⟩ := hr.one_of
      simp only [CellsRep, Ty.dflt]; rw [hu.int, h.1, h.2]
  | bool =>
    intro as vs h hr
    match as, h with
    | [.bool b], h =>
      obtain ⟨u, rfl, hu⟩ := hr.one_of
      simp only [czOk, Bool.not_eq_true'] at h
      simp only [CellsRep, Ty.dflt]; rw [hu.bool, h]
  | str =>
    intro as vs h hr
    match as, h with
    | [.str b], h =>
      obtain ⟨u, rfl, hu⟩ := hr.one_of
      simp only [czOk, beq_iff_eq] at h
      simp only [CellsRep, Ty.dflt]
      rw [hu.str, bytes_ext (a := b) (b := ByteArray.empty) (by rw [h]; simp)]
  | row e _ =>
    intro as vs h hr
    match as, h with
    | [.nils], h =>
      obtain ⟨u, rfl, hu⟩ := hr.one_of
      simp only [VRep] at hu
      obtain ⟨a, rfl⟩ := hu
      exact ⟨_, rfl, a, 0, rfl, Nat.le_refl _, fun _ => rfl, fun h => absurd rfl h⟩
  | unit =>
    intro as vs h hr
    match as, h with
    | [], h => match vs, hr with
      | [], _ => simp [CellsRep]
      | _ :: _, hr => simp [VReps] at hr
  | pair a b iha ihb =>
    intro as vs h hr
    simp only [czOk, Bool.and_eq_true] at h
    exact ⟨_, _, (List.take_append_drop a.size vs).symm, iha h.1 (hr.take _), ihb h.2 (hr.drop _)⟩
  | node =>
    intro as vs h hr
    unfold czOk at h
    split at h <;> first | (cases h; done) | (simp_all; done) | skip
    simp only [Bool.and_eq_true, beq_iff_eq] at h
    obtain ⟨⟨h1, h2⟩, h3⟩ := h
    refine CellsRep.of_vreps (t := .node) ?_
    match vs, hr with
    | [v1, v2, v3, v4], hr =>
      simp only [VReps, and_true] at hr
      obtain ⟨q1, q2, q3, q4⟩ := hr
      simp only [cellsT, VReps, and_true, Node.op, Node.s, Node.n, Node.kids, Ty.dflt]
      refine ⟨by rw [← h1]; exact q1, ?_, by rw [← h3]; exact q3, ?_⟩
      · rw [← bytes_ext (b := ByteArray.empty) (h2.trans (by simp))]; exact q2
      · simp only [VRep] at q4
        obtain ⟨a, rfl⟩ := q4
        simp only [VRep, TRep, Ty.isAgg, Bool.false_eq_true, if_false]
        exact ⟨_, rfl, a, 0, rfl, Nat.le_refl _, fun _ => rfl, fun h => absurd rfl h⟩

section
variable {ρ : Type} {P : Program} {E : Env} {s : List AV} {h : Heap} {o : Oper} {x : ρ}

theorem fill_es {t : TypeId} {ti : TI} (ty : TyIs P t ti) (n : Nat) : (Cont.fill ti n).es = ti.size ∧ (Cont.fill ti n).len = n := by
  unfold Cont.fill
  cases hc : ti.code with
  | none => exact ⟨rfl, by simp [Cont.len]⟩
  | some e =>
    simp only
    cases hd : (ti.deep && nodeless e)
    · exact ⟨(ty.code e hc).1, by simp [Cont.len]⟩
    · exact ⟨(ty.code e hc).1, by simp [Cont.len]⟩

theorem fill_rep {t : TypeId} {ti : TI} (ty : TyIs P t ti) {c : Ctx} {zs : List Value} (hz : VReps c ti.zero.cells zs) (h1 : ∀ v ∈ zs, v.oneCell' = true) (n : Nat) : ContV c (Cont.fill ti n) (List.replicate n zs) := by
  have hl : zs.length = ti.size := by rw [← hz.length, ty.zlen]
  unfold Cont.fill
  cases hc : ti.code with
  | none => exact ⟨ty.zagg, ty.zsize, All2.replicate ⟨ty.zagg, ty.zsize, hl, hz, h1⟩ n⟩
  | some e =>
    obtain ⟨q1, q2, q3⟩ := ty.code e hc
    simp only
    cases hd : (ti.deep && nodeless e)
    · exact All2.replicate (R := ElemT c e) ⟨by rw [hl, q1], cz_rep q3 hz⟩ n
    · exact All2.replicate (R := ElemD e.size) ⟨by rw [hl, q1], h1⟩ n

theorem cz_D {c : Ctx} {w : World} {F : Nat → Prop} : ∀ {t : Ty} {as : List AV} {vs : List Value}, czOk t as = true → nodeless t = true → VReps c as vs → DCells w t t.dflt vs F := by
  intro t
  induction t generalizing F with
  | int k => intro as vs h _ hr; exact cz_rep (t := .int k) h hr
  | bool => intro as vs h _ hr; exact cz_rep (t := .bool) h hr
  | str => intro as vs h _ hr; exact cz_rep (t := .str) h hr
  | unit => intro as vs h _ hr; exact cz_rep (t := .unit) h hr
  | node => intro as vs h hn; cases hn
  | row e _ =>
    intro as vs h _ hr
    match as, h with
    | [.nils], h =>
      obtain ⟨u, rfl, hu⟩ := hr.one_of
      simp only [VRep] at hu
      obtain ⟨a, rfl⟩ := hu
      exact .inl ⟨rfl, a, rfl⟩
  | pair a b iha ihb =>
    intro as vs h hn hr
    simp only [czOk, Bool.and_eq_true] at h
    simp only [nodeless, Bool.and_eq_true] at hn
    exact ⟨_, _, fun _ => False, fun _ => False, (List.take_append_drop a.size vs).symm, fun _ h => h.elim, fun _ h => h.elim, fun _ h => h.elim, iha h.1 hn.1 (hr.take _), ihb h.2 hn.2 (hr.drop _)⟩

theorem fill_D {t : TypeId} {ti : TI} (ty : TyIs P t ti) {c : Ctx} {h : Heap} {zs : List Value} (hz : VReps c ti.zero.cells zs) {n : Nat} {w' : World} {D : List Value} (hp : Pushed c.w w' ((List.replicate n zs).flatten ++ D)) {fx : Bool} {e : Ty} {xs : List e.C}
    (hc : Cont.fill ti n = .deep fx e xs) {i : Info} (hb : i.b = c.w.heap.size) (h0 : i.base = 0) (hhd : i.hd = fun _ _ _ => False) {c' : Ctx} (hw : c'.w = w') {id : Nat} : DeepRow c' id i fx e xs := by
  unfold Cont.fill at hc
  cases hcd : ti.code with
  | none => simp [hcd] at hc
  | some f =>
    rw [hcd] at hc
    cases hd : ti.deep && nodeless f with
    | false => simp [hd] at hc
    | true =>
      simp only [hd, cond_true] at hc
      cases hc
      simp only [Bool.and_eq_true] at hd
      obtain ⟨q1, q2, q3⟩ := ty.code e hcd
      have hl : zs.length = e.size := by rw [← hz.length, ty.zlen, q1]
      refine ⟨⟨fun _ _ => False, fun _ _ h => h.elim, fun _ _ _ h => h.elim, fun j x hj => ⟨zs, hl, ?_, ?_⟩⟩, fun h => (by cases h), fun a b v hv => (by rw [hhd] at hv; exact hv.elim)⟩
      · have hlj : j < n := by have := (List.getElem?_eq_some_iff.1 hj).1; simpa using this
        have := (lies_flat (w := c'.w) (b := i.b) (base := i.base) (es := e.size) (L := List.replicate n zs) (fun vs hv => by rw [(List.mem_replicate.1 hv).2, hl])).1 (by rw [hw, hb, h0]; exact hp.lies)
        exact this j zs (by simp [hlj])
      · have : x = e.dflt := by
          have hm := List.mem_of_getElem? hj
          exact (List.mem_replicate.1 hm).2
        rw [this]
        exact cz_D q3 hd.2 hz

/-- A new row as a slice. -/
theorem sl_new {c c' : Ctx} {w' : World} {C : List Value} {len es cap : Nat} {full : Bool} (hp : Pushed c.w w' C) (hw : c'.w = w') (hm : c'.m h.length = some (inf true c.w.heap.size 0 len es full))
    (hcap : len ≤ cap) (hfit : cap * es ≤ C.length) (hfull : full = true → cap = len) : VRep c' (.sl h.length) (.slice (some ⟨c.w.heap.size, 0, none⟩) len cap) := by
  simp only [VRep, slRep]
  exact ⟨⟨_, _, _, rfl⟩, .inr ⟨_, hm, .inl ⟨rfl, cap, C.length, rfl, hcap, by rw [hw]; exact hp.blkNew, by simpa using hfit, hfull⟩⟩⟩

theorem told_makeSlice (hT : TOk P E) {t : TypeId} {l m : Operand} (ho : o.op = .makeSlice t l m) {K : AV → Heap → Bool → Option ρ}
    (hk : (match kindOf E t, aeval s l, aeval s m with
     | some (.slice e), .int _ n, .int _ m =>
       (match E.ty e with
        | some ti =>
          bif decide (0 ≤ n) then bif decide (n ≤ m) then bif decide (m * ti.bytes ≤ (lim : Int)) then bif decide (m ≤ (lim : Int)) && Nat.blt 0 ti.size then
          K (.sl h.length) (h ++ [some ⟨Cont.fill ti n.toNat, false⟩]) false else none else none else none else none
        | none => none)
     | _, _, _ => none) = some x) : Told P s h o K x := by
  generalize hla : aeval s l = al at hk
  generalize hma : aeval s m = am at hk
  split at hk
  · rename_i e k1 n k2 m' hkt
    split at hk
    · rename_i ti hti
      by_cases h0 : 0 ≤ n
      · by_cases h1 : n ≤ m'
        · by_cases h2 : m' * ti.bytes ≤ (lim : Int)
          · by_cases h3 : m' ≤ (lim : Int)
            · have ty := hT.is hti
              have hpos : Nat.blt 0 ti.size = true := by simpa [Nat.blt_eq] using ty.pos
              simp only [h0, h1, h2, h3, hpos, decide_true, cond_true, Bool.and_true] at hk
              obtain ⟨i, z, hi, hz, hsz, hb, hrun, hzc, hzr, hz1⟩ := ty.zrun
              have hf := fill_es ty n.toNat
              have hzpos : 0 < z.cells.size := by rw [hzc]; exact ty.pos
              have hlim : (lim : Int) = 35184372088832 := rfl
              refine ⟨_, _, _, hk, OpOk.growQ (hpos := by rw [hf.1]; exact ty.pos) (Q := fun c L => ∃ zs, VReps c ti.zero.cells zs ∧ L = List.replicate n.toNat zs) (fun c w' L D hp hq fx e' xs hc => by
                obtain ⟨zs, hz', rfl⟩ := hq
                exact fill_D ty hz' hp hc rfl rfl rfl rfl (h := h)) fun c a hs hsl => ?_⟩
              have hl := hsl.eval l; rw [hla] at hl
              have hm := hsl.eval m; rw [hma] at hm
              have hrun2 := run_make (P := P) c.w t e i z (hT.slice hkt) hi hz k1 k2 n m' h0 h1 (by rw [hb, Int.mul_comm]; omega) (by omega)
              have hC : (madeCells z.cells (m'.toNat * i.size)).toList = (List.replicate n.toNat z.cells.toList).flatten ++ (List.replicate (m'.toNat - n.toNat) z.cells.toList).flatten := by
                rw [hsz, ← hzc, made_flat z.cells hzpos, ← List.flatten_append, List.replicate_append_replicate]
                congr 2; omega
              have hp := pushed_alloc c.w (madeCells z.cells (m'.toNat * i.size)) e
              rw [hC] at hp
              refine ⟨.slice (some ⟨c.w.heap.size, 0, none⟩) n.toNat m'.toNat, _, _, _, ?_, hp, fill_rep ty (hzr c) hz1 _, ⟨_, hzr c, rfl⟩, fun c' _ hw hm' => ?_⟩
              · have e1 : a.eval l = .int k1 n := hl.int
                have e2 : a.eval m = .int k2 m' := hm.int
                simp [execOp, ho, e1, e2, hrun2]
              · simp only [hf.1, hf.2] at hm'
                exact sl_new hp hw hm' (by omega) (by rw [← hC, Array.length_toList, size_madeCells, hsz]; exact Nat.le_refl _) (by simp)
            · simp [h0, h1, h2, h3] at hk
          · simp [h0, h1, h2] at hk
        · simp [h0, h1] at hk
      · simp [h0] at hk
    · cases hk
  · cases hk
end
end Go.AM
