/- An interpreter of the model's code over values that are told, and its soundness. -/
import Derived.Test.YteojdaobpjhddaaAS7b
namespace Go.AM

/-! Soundness: stores. -/
section
variable {ρ : Type} {P : Program} {E : Env} {s : List AV} {h : Heap} {o : Oper} {x : ρ}

theorem ContV.get {c : Ctx} {ct : Cont} {L : List (List Value)} (hnd : ct.isDeep = false) (h : ContV c ct L) {i : Nat} (hi : i < ct.len) : ∃ vs, L[i]? = some vs ∧ VReps c (ct.get i).cells vs ∧ (∀ v ∈ vs, v.oneCell' = true) ∧ (ct.get i).cells.length = ct.es := by
  cases ct with
  | typed e xs =>
    have h' : All2 (ElemT c e) xs L := h
    have hlt : i < xs.length := hi
    have hx : xs[i]? = some xs[i] := List.getElem?_eq_getElem hlt
    obtain ⟨vs, hvs, h1, h2⟩ := h'.get hx
    refine ⟨vs, hvs, ?_, h2.one, ?_⟩
    · have hd : xs.getD i e.dflt = xs[i] := by rw [List.getD_eq_getElem?_getD, hx]; rfl
      simp only [Cont.get, hd]
      have := h2.vreps
      cases e <;> exact this
    · have : ∀ (y : e.C), (tvn e y).cells.length = e.size := fun y => by
        cases e <;> simp [tvn, AV.cells, Ty.size, Ty.isAgg, cellsT, cellsT_len]
      simp only [Cont.get, Cont.es]; exact this _
  | raw a es d xs =>
    have hlt : i < xs.length := hi
    have hx : xs[i]? = some xs[i] := List.getElem?_eq_getElem hlt
    obtain ⟨vs, hvs, h1, h2, h3, h4, h5⟩ := h.2.2.get hx
    have hd : xs.getD i d = xs[i] := by rw [List.getD_eq_getElem?_getD, hx]; rfl
    simp only [Cont.get, hd, Cont.es]
    exact ⟨vs, hvs, h4, h5, by rw [← AV.size_cells, h2]⟩
  | deep fx e xs => cases hnd

/-- An element put anew. -/
theorem ContV.set {c : Ctx} {ct ct' : Cont} {L : List (List Value)} (h : ContV c ct L) {i : Nat} {v : AV} {vs : List Value} (hs : ct.set i v = some ct') (hv : VReps c v.cells vs) (h1 : ∀ u ∈ vs, u.oneCell' = true) :
    ContV c ct' (L.set i vs) ∧ ct'.len = ct.len ∧ ct'.es = ct.es ∧ vs.length = ct.es := by
  cases ct with
  | typed e xs =>
    simp only [Cont.set, Option.map_eq_some_iff] at hs
    obtain ⟨y, hy, rfl⟩ := hs
    have hc := as_ok hy hv
    exact ⟨All2.set (R := ElemT c e) i h ⟨hc.len, hc⟩, by simp [Cont.len], rfl, hc.len⟩
  | raw a es d xs =>
    simp only [Cont.set] at hs
    by_cases hb : ((v.isAgg == a) && (v.size == es)) = true
    · simp only [hb, cond_true, Option.some.injEq] at hs
      subst hs
      simp only [Bool.and_eq_true, beq_iff_eq] at hb
      have hl : vs.length = es := by rw [← hv.length, ← AV.size_cells, hb.2]
      exact ⟨⟨h.1, h.2.1, h.2.2.set i ⟨hb.1, hb.2, hl, hv, h1⟩⟩, by simp [Cont.len], rfl, hl⟩
    · simp only [Bool.not_eq_true] at hb; simp [hb] at hs
  | deep fx e xs => simp [Cont.set] at hs

theorem Cont.set_plain {ct ct' : Cont} {i : Nat} {v : AV} (hs : ct.set i v = some ct') : ct'.isDeep = false := by
  cases ct with
  | typed e xs =>
    simp only [Cont.set, Option.map_eq_some_iff] at hs
    obtain ⟨y, hy, rfl⟩ := hs; rfl
  | raw a es d xs =>
    simp only [Cont.set] at hs
    by_cases hb : ((v.isAgg == a) && (v.size == es)) = true
    · simp only [hb, cond_true, Option.some.injEq] at hs; subst hs; rfl
    · simp only [Bool.not_eq_true] at hb; simp [hb] at hs
  | deep fx e xs => simp [Cont.set] at hs

theorem stored_rep {c : Ctx} {ti : TI} {es sub : Nat} {e v : AV} {vs us : List Value} (he : VReps c e.cells vs) (hes : e.cells.length = es) (hv : VReps c v.cells us) (hvs : v.size = ti.size) (hle : sub + ti.size ≤ es) :
    VReps c (stored ti es e sub v).cells (vs.take sub ++ (us ++ vs.drop (sub + us.length))) := by
  have hul : us.length = ti.size := by rw [← hv.length, ← AV.size_cells, hvs]
  have hvl := he.length
  unfold stored
  by_cases hb : ((sub == 0) && (ti.size == es) && (ti.agg == e.isAgg)) = true
  · simp only [hb, cond_true]
    simp only [Bool.and_eq_true, beq_iff_eq] at hb
    obtain ⟨⟨rfl, h2⟩, _⟩ := hb
    rw [List.take_zero, List.nil_append, List.drop_eq_nil_of_le (by omega), List.append_nil]
    exact hv
  · simp only [Bool.not_eq_true] at hb
    simp only [hb, cond_false]
    have e1 : v.cells.length = us.length := hv.length
    show VReps c (splice e.cells sub v.cells) _
    unfold splice
    rw [e1]
    exact (he.take _).append (hv.append (he.drop _))

theorem told_store (hT : TOk P E) {t : TypeId} {y z : Operand} (ho : o.op = .store t y z) {K : AV → Heap → Bool → Option ρ}
    (hk : astore E t (aeval s y) (aeval s z) h (fun h' => K .undef h' true) = some x) : Told P s h o K x := by
  generalize hya : aeval s y = a at hk
  unfold astore at hk
  split at hk
  · rename_i ti id idx sub hti
    have ty := hT.is hti
    split at hk
    · rename_i fx e xs full hob
      split at hk
      · rename_i h' hst
        exact told_storeD hT ho hti hya hob hst hk
      · cases hk
    · rename_i ob hndp hob
      have hnd : ob.c.isDeep = false := by
        rcases ob with ⟨ct, f⟩
        cases ct with
        | deep fx e xs => exact (hndp fx e xs f rfl).elim
        | _ => rfl
      by_cases hb : (((aeval s z).size == ti.size) && ((aeval s z).isAgg == ti.agg) && (aeval s z).cells.all AV.one && Nat.ble (sub + ti.size) ob.c.es) = true
      · simp only [hb, cond_true] at hk
        simp only [Bool.and_eq_true, beq_iff_eq, Nat.ble_eq] at hb
        obtain ⟨⟨⟨h1, h2⟩, h3⟩, h4⟩ := hb
        split at hk
        · rename_i ct hct
          have hy : AV.ptr id idx sub ∈ opVals s o.op := by rw [ho, ← hya]; simp [opVals, Op.operands]
          refine ⟨_, _, _, hk, ?_, sta_set fun j hj => touch_ptr hj hy⟩
          intro c ac hs hf hsl next Q hn
          have hid := hget_lt hob
          have hr := hsl.eval y; rw [hya] at hr
          simp only [VRep, ptrRep] at hr
          have hd := hs.alive hob
          obtain ⟨i, hi, hix, hp⟩ := hr.2.resolve_left hd
          have rep := hs.rep hob hi
          have hloc := rep.loc (by omega)
          obtain ⟨n, hblk, hn'⟩ := rep.blk hloc
          obtain ⟨L, hL, hlies⟩ := contRep_iff.1 rep.cont
          obtain ⟨q1, q2⟩ := (hsl.eval z).cells h3
          have hulen : (ac.eval z).cells.toList.length = ti.size := by rw [← q1.length, ← AV.size_cells, h1]
          obtain ⟨vs, hvs, hg1, hg2, hg3⟩ := hL.get hnd (i := idx) (by rw [← rep.len]; exact hix)
          have hes : i.es = ob.c.es := rep.es
          have hvl : vs.length = ob.c.es := by rw [← hg1.length, hg3]
          have hst := stored_rep (ti := ti) (sub := sub) hg1 hg3 q1 h1 h4
          obtain ⟨hL', hlen', hes', hnl⟩ := hL.set hct hst (by
            intro u hu
            rcases List.mem_append.1 hu with hu | hu
            · exact hg2 u (List.mem_of_mem_take hu)
            · rcases List.mem_append.1 hu with hu | hu
              · exact q2 u hu
              · exact hg2 u (List.mem_of_mem_drop hu))
          have hmul : idx * i.es + i.es ≤ i.len * i.es := by
            have : (idx + 1) * i.es ≤ i.len * i.es := Nat.mul_le_mul_right _ hix
            rwa [Nat.add_mul, Nat.one_mul] at this
          have hroom : i.base + idx * i.es + sub + (ac.eval z).cells.toList.length ≤ n := by rw [hulen]; omega
          have hrun := run_store_blk (P := P) hblk hroom q2
          have hxrun : (execOp ac.eval o).run P c.w = .ok .skip (c.w.setCells i.b (i.base + idx * i.es + sub) (ac.eval z).cells.toList) := by
            have hsz := ty.size c.w
            have hcs : (ac.eval z).cells.size = ti.size := by rw [← hulen]; simp
            simp [execOp, ho, hp, Instr.storeAt, Instr.sureAddr, storeVar, hsz, hcs, hrun]
          have only := only_setCells i.b (ac.eval z).cells.toList (i.base + idx * i.es + sub) c.w
          have hnp := hs.apart id i hi hd hloc
          have htell := only.keeps (c := c) hnp
          have hlies2 : Lies (c.w.setCells i.b (i.base + idx * i.es + sub) (ac.eval z).cells.toList) i.b i.base (L.set idx (vs.take sub ++ ((ac.eval z).cells.toList ++ vs.drop (sub + (ac.eval z).cells.toList.length)))).flatten := by
            have hall : ∀ us ∈ L.set idx (vs.take sub ++ ((ac.eval z).cells.toList ++ vs.drop (sub + (ac.eval z).cells.toList.length))), us.length = i.es := by
              have := hL'.es; intro us hu; rw [this us hu, hes', hes]
            have hallL : ∀ us ∈ L, us.length = i.es := by intro us hu; rw [hL.es us hu, hes]
            have hl0 := (lies_flat (base := i.base) hallL).1 hlies
            refine (lies_flat (base := i.base) hall).2 fun k us hk => ?_
            by_cases hki : k = idx
            · subst hki
              have hlt : k < L.length := (List.getElem?_eq_some_iff.1 hvs).1
              rw [List.getElem?_set_self hlt] at hk
              cases hk
              have hold := hl0 k vs hvs
              have htl : (vs.take sub).length = sub := by simp; omega
              refine Lies.append ?_ ?_
              · exact lies_set_out (.inl (by rw [htl]; exact Nat.le_refl _)) (hold.take sub)
              · rw [htl]
                refine Lies.append (lies_set_in hblk hroom) ?_
                have := hold.drop (sub + (ac.eval z).cells.toList.length)
                rw [← Nat.add_assoc] at this
                exact lies_set_out (.inr (Nat.le_refl _)) this
            · rw [List.getElem?_set_ne (fun e => hki e.symm)] at hk
              have hold := hl0 k us hk
              have hul : us.length = i.es := hallL us (List.mem_of_getElem? hk)
              refine lies_set_out ?_ hold
              rw [hul, hulen]
              rcases Nat.lt_or_gt_of_ne hki with hlt | hgt
              · left
                have : (k + 1) * i.es ≤ idx * i.es := Nat.mul_le_mul_right _ hlt
                rw [Nat.add_mul, Nat.one_mul] at this; omega
              · right
                have : (idx + 1) * i.es ≤ k * i.es := Nat.mul_le_mul_right _ hgt
                rw [Nat.add_mul, Nat.one_mul] at this; omega
          have hrep' : ObjRep { c with w := c.w.setCells i.b (i.base + idx * i.es + sub) (ac.eval z).cells.toList } i { ob with c := ct } :=
            ⟨by rw [rep.len]; exact hlen'.symm, by rw [rep.es]; exact hes'.symm, rep.pos, rep.full, rep.loc, fun hl => by obtain ⟨m, hm, hm'⟩ := rep.blk hl; exact ⟨m, only.blk _ _ hm, hm'⟩,
              contRep_iff.2 ⟨_, hL'.mono htell, hlies2⟩⟩
          obtain ⟨g1, g2⟩ := write_ok hs hi hd hid (.inl hloc) only (h' := h.set id (some { ob with c := ct })) (by simp) (fun k hk => hget_set_other hk) (hget_set_same hid) hrep' (fun fx e xs hc => by have := Cont.set_plain hct; rw [show ct = _ from hc] at this; cases this)
          unfold Oper.wp
          rw [hxrun]
          exact hn _ Go.undef g1 g2 (by simp [VRep]) (by simp)
        · cases hk
      · simp only [Bool.not_eq_true] at hb; simp [hb] at hk
    · cases hk
  · cases hk
end
end Go.AM
