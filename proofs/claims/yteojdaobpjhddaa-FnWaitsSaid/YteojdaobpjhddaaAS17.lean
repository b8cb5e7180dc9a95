/- An interpreter of the model's code over values that are told, and its soundness. -/
import Derived.Test.YteojdaobpjhddaaAS16
namespace Go.AM

/-! Soundness: the other builtins. -/
section
variable {ρ : Type} {P : Program} {E : Env} {s : List AV} {h : Heap} {o : Oper} {x : ρ}

theorem list2 {α : Type} {a : Array α} {x y : α} (h : a.toList = [x, y]) : a = #[x, y] := by apply Array.ext'; simpa using h
theorem list1 {α : Type} {a : Array α} {x : α} (h : a.toList = [x]) : a = #[x] := by apply Array.ext'; simpa using h

theorem told_len (hT : TOk P E) {c : Go.Call} (ho : o.op = .call c) (hcal : c.callee = .builtin .len) {y : Operand} (ha : c.args = #[y]) {t : TypeId} (h0 : c.argTypes[0]? = some t) {K : AV → Heap → Bool → Option ρ}
    (hk : (match kindOf E t, aeval s y with
        | some TK.str, .str s => K (.int .i64 (s.size : Int)) h false
        | some (.slice _), x => (match lenOf h x with | some n => K (.int .i64 (n : Int)) h false | none => none)
        | _, _ => none) = some x) : Told P s h o K x := by
  generalize hya : aeval s y = a at hk
  split at hk
  · rename_i b hkt
    refine told_pure hk fun c0 ac hs hsl => ⟨.int .i64 (b.size : Int), ?_, by simp only [VRep]⟩
    have hr := hsl.eval y; rw [hya] at hr
    simp [execOp, ho, resolve, hcal, ha, invoke, builtin, Builtin.len_, h0, run_underlying (hT.str hkt), hr.str, goInt]
  · rename_i e a' hkt
    split at hk
    · rename_i n hn
      refine told_pure hk fun c0 ac hs hsl => ⟨.int .i64 (n : Int), ?_, by simp only [VRep]⟩
      have hr := hsl.eval y; rw [hya] at hr
      have hv : ∃ A cap, ac.eval y = .slice A n cap := by
        unfold lenOf at hn
        split at hn
        · rename_i id
          simp only [Option.map_eq_some_iff] at hn
          obtain ⟨ob, hob, rfl⟩ := hn
          obtain ⟨A, cap, L, hv, _⟩ := rowOf_rep hs hr (ct := ob.c) (by simp [rowOf, hob])
          exact ⟨A, cap, hv⟩
        · rename_i id off m
          simp only [Option.map_eq_some_iff] at hn
          obtain ⟨ob, hob, rfl⟩ := hn
          simp only [VRep, ssRep] at hr
          obtain ⟨i, hi, _, hr⟩ := hr.2.resolve_left (hs.alive hob)
          rcases hr with ⟨_, cap, m', hv, _⟩ | ⟨h0, A, hv⟩
          · exact ⟨_, cap, hv⟩
          · exact ⟨A, 0, by rw [h0]; exact hv⟩
        · rename_i e' xs
          simp only [Option.some.injEq] at hn
          subst hn
          obtain ⟨A, cap, hv, _⟩ := hr.row
          exact ⟨A, cap, hv⟩
        · simp only [Option.some.injEq] at hn
          subst hn
          simp only [VRep] at hr
          obtain ⟨A, hv⟩ := hr
          exact ⟨A, 0, hv⟩
        · cases hn
      obtain ⟨A, cap, hv⟩ := hv
      simp [execOp, ho, resolve, hcal, ha, invoke, builtin, Builtin.len_, h0, run_underlying (hT.slice hkt), hv, goInt]
    · cases hk
  · cases hk

theorem best_ok {op : Int → Int → Int} {f : Value → Value → Sem Value} {c : Ctx} {ac : Act} (hsl : Slots c s ac) (hf : ∀ k x y, f (.int k x) (.int k y) = pure (.int k (op x y))) (w : World) :
    ∀ (l : List Operand) (k : IntKind) (x n : Int), abest op k x (l.map (aeval s)) = some n → ((l.map ac.eval).foldlM f (.int k x)).run P w = .ok (.int k n) w
  | [], k, x, n, h => by simp only [List.map_nil, abest, Option.some.injEq] at h; subst h; simp
  | y :: l, k, x, n, h => by
    have hr := hsl.eval y
    generalize hya : aeval s y = a at hr
    simp only [List.map_cons, hya] at h
    cases a <;> simp only [abest, reduceCtorEq] at h
    rename_i k' m
    split at h
    · rename_i he
      subst he
      simp only [List.map_cons, List.foldlM_cons, hr.int, hf, Sem.run_bind, Sem.run_pure, Result.andThen_ok]
      exact best_ok hsl hf w l k _ n h
    · cases h

theorem told_best {c : Go.Call} {b : Bool} (ho : o.op = .call c) (hcal : c.callee = .builtin (if b then .max else .min)) {k : IntKind} {m n : Int} {rest : List AV} (ha : c.args.toList.map (aeval s) = .int k m :: rest)
    (hb : abest (if b then mx else mn) k m rest = some n) {K : AV → Heap → Bool → Option ρ} (hk : K (.int k n) h false = some x) : Told P s h o K x := by
  refine told_pure hk fun c0 ac hs hsl => ⟨.int k n, ?_, by simp only [VRep]⟩
  cases hl : c.args.toList with
  | nil => simp [hl] at ha
  | cons y l =>
    rw [hl] at ha
    simp only [List.map_cons, List.cons.injEq] at ha
    obtain ⟨ha1, ha2⟩ := ha
    have hr := hsl.eval y; rw [ha1] at hr
    rw [← ha2] at hb
    have hargs : (c.args.map ac.eval).toList = ac.eval y :: l.map ac.eval := by rw [Array.toList_map, hl]; rfl
    cases b with
    | true =>
      have := best_ok (P := P) (f := Builtin.max2) hsl (op := mx) (fun k x y => by simp only [Builtin.max2, mx]; by_cases hxy : y > x <;> simp [hxy]) c0.w l k m n hb
      have hm : (Builtin.max_ c.argTypes o.type (c.args.map ac.eval)).run P c0.w = .ok (.int k n) c0.w := by
        simp only [Builtin.max_, hargs, hr.int]; exact this
      simp only [if_true] at hcal
      simp [execOp, ho, resolve, hcal, invoke, builtin, hm]
    | false =>
      have := best_ok (P := P) (f := Builtin.min2) hsl (op := mn) (fun k x y => by simp only [Builtin.min2, mn]; by_cases hxy : y < x <;> simp [hxy]) c0.w l k m n hb
      have hm : (Builtin.min_ c.argTypes o.type (c.args.map ac.eval)).run P c0.w = .ok (.int k n) c0.w := by
        simp only [Builtin.min_, hargs, hr.int]; exact this
      simp only [Bool.false_eq_true, if_false] at hcal
      simp [execOp, ho, resolve, hcal, invoke, builtin, hm]

/-- A row's content changed from its begin on. -/
theorem over_ok {c0 : Ctx} (hs : Sim c0 h) {id : Nat} {ob : Obj} (hob : hget h id = some ob) {i : Info} (hi : c0.m id = some i) {ct : Cont} {L N : List (List Value)} {k : Nat} (hL : ContV c0 ob.c L) (hlies : Lies c0.w i.b i.base L.flatten)
    (hN : ContV c0 ct (N ++ L.drop k)) (hk : N.length = k) (hle : k ≤ L.length) (hes : ct.es = ob.c.es) (hpl : ct.isDeep = false) {w' : World} (hw : (i.loc = true ∧ w' = c0.w.setCells i.b i.base N.flatten) ∨ (w' = c0.w ∧ ob.c.len = 0)) :
    ∃ c', c'.w = w' ∧ Ext c0 h c' (h.set id (some { ob with c := ct })) ∧ Sim c' (h.set id (some { ob with c := ct })) := by
  have rep := hs.rep hob hi
  have hd := hs.alive hob
  have hid := hget_lt hob
  have hall := hN.es
  have hlen : ct.len = ob.c.len := by rw [← hN.len, ← hL.len, List.length_append, List.length_drop, hk]; omega
  have hNl : N.flatten.length = k * ct.es := by rw [flat_len (es := ct.es) (fun vs hv => hall vs (by simp [hv])), hk]
  have fin : ∀ (w' : World) (x : Only c0.w w' i.b) (hl : i.loc = true ∨ w' = c0.w), Lies w' i.b i.base (N ++ L.drop k).flatten → ∃ c', c'.w = w' ∧ Ext c0 h c' (h.set id (some { ob with c := ct })) ∧ Sim c' (h.set id (some { ob with c := ct })) := by
    intro w' x hl hlies'
    have t : Tells c0 { c0 with w := w' } := ⟨fun _ _ h => h, fun _ h => h, ⟨fun _ h => h, fun b hp => by
      rcases hl with hl | he
      · exact x.other b (fun e => hs.apart id i hi hd hl (e ▸ hp))
      · rw [he]⟩, x.blk⟩
    have hr : ObjRep { c0 with w := w' } i { ob with c := ct } := ⟨by rw [rep.len]; exact hlen.symm, by rw [rep.es]; exact hes.symm, rep.pos, rep.full, rep.loc, fun hl => by obtain ⟨m, hm, hm'⟩ := rep.blk hl; exact ⟨m, x.blk _ _ hm, hm'⟩,
      contRep_iff.2 ⟨_, hN.mono t, hlies'⟩⟩
    obtain ⟨g1, g2⟩ := write_ok hs hi hd hid hl x (h' := h.set id (some { ob with c := ct })) (by simp) (fun k hk => hget_set_other hk) (hget_set_same hid) hr (fun fx e xs hc => by rw [show ct = _ from hc] at hpl; cases hpl)
    exact ⟨_, rfl, g1, g2⟩
  rcases hw with ⟨hl, rfl⟩ | ⟨rfl, h0⟩
  · obtain ⟨n, hb, hbn⟩ := rep.blk hl
    refine fin _ (only_setCells _ _ _ _) (.inl hl) ?_
    have hmul : k * i.es ≤ i.len * i.es := Nat.mul_le_mul_right _ (by rw [rep.len, ← hL.len]; exact hle)
    have he : ct.es = i.es := by rw [hes, rep.es]
    rw [List.flatten_append]
    refine Lies.append (lies_set_in hb (by rw [hNl, he]; omega)) ?_
    have hd := hlies.drop (k * i.es)
    rw [flat_drop k (fun vs hv => by rw [hL.es vs hv, rep.es])] at hd
    rw [hNl, he]
    exact lies_set_out (.inr (by rw [hNl, he]; exact Nat.le_refl _)) hd
  · refine fin _ (Only.refl _ _) (.inr rfl) ?_
    have : N ++ L.drop k = [] := List.eq_nil_of_length_eq_zero (by rw [hN.len, hlen, h0])
    rw [this]; simp [Lies]

theorem Cont.over_plain {a b ct : Cont} (ha : a.over b = some ct) : ct.isDeep = false := by
  cases a with
  | typed e xs =>
    cases b with
    | typed f ys =>
      simp only [Cont.over] at ha
      split at ha
      · rename_i he; subst he; cases ha; rfl
      · cases ha
    | raw a es d xs => simp [Cont.over] at ha
    | deep fx f ys => simp [Cont.over] at ha
  | deep fx e xs => simp [Cont.over] at ha
  | raw a es d xs =>
    cases b with
    | deep fx f ys => simp [Cont.over] at ha
    | typed f ys => simp [Cont.over] at ha
    | raw a' es' d' ys =>
      simp only [Cont.over] at ha
      by_cases hb : ((a == a') && (es == es')) = true
      · simp only [hb, cond_true, Option.some.injEq] at ha; subst ha; rfl
      · simp only [Bool.not_eq_true] at hb; simp [hb] at ha

theorem ContV.over {c : Ctx} {a b ct : Cont} {L M : List (List Value)} (h : ContV c a L) (h' : ContV c b M) (ha : a.over b = some ct) : ContV c ct (M.take L.length ++ L.drop M.length) ∧ ct.es = a.es ∧ b.es = a.es := by
  cases a with
  | typed e xs =>
    cases b with
    | typed f ys =>
      simp only [Cont.over] at ha
      split at ha
      · rename_i he
        subst he
        cases ha
        have hl : xs.length = L.length := All2.length (R := ElemT c f) h
        have hl' : List.length ys = M.length := All2.length (R := ElemT c f) h'
        refine ⟨?_, rfl, rfl⟩
        show All2 (ElemT c f) (List.take xs.length ys ++ List.drop (List.length ys) xs) _
        rw [hl, hl']
        exact All2.append (All2.take (R := ElemT c f) _ h') (All2.drop (R := ElemT c f) _ h)
      · cases ha
    | raw a es d xs => simp [Cont.over] at ha
    | deep fx f ys => simp [Cont.over] at ha
  | deep fx e xs => simp [Cont.over] at ha
  | raw a es d xs =>
    cases b with
    | deep fx f ys => simp [Cont.over] at ha
    | typed f ys => simp [Cont.over] at ha
    | raw a' es' d' ys =>
      simp only [Cont.over] at ha
      by_cases hb : ((a == a') && (es == es')) = true
      · simp only [hb, cond_true, Option.some.injEq] at ha
        subst ha
        simp only [Bool.and_eq_true, beq_iff_eq] at hb
        obtain ⟨rfl, rfl⟩ := hb
        refine ⟨⟨h.1, h.2.1, ?_⟩, rfl, rfl⟩
        rw [h.2.2.length, h'.2.2.length]
        exact (h'.2.2.take _).append (h.2.2.drop _)
      · simp only [Bool.not_eq_true] at hb; simp [hb] at ha

theorem run_copy_at {w w' : World} {t e ty : TypeId} {ts : Array TypeId} (h0 : ts[0]? = some t) (hu : P.underlying t = some (.slice e)) {size : Nat} (hsz : ∀ w, (sizeOf e).run P w = .ok size w) {A B : Option Addr} {len cap blen cap2 : Nat} {cells : List Value}
    (hfirst : (Builtin.firstCells size (Nat.min blen len) (.slice B blen cap2)).run P w = .ok cells.toArray w) (hst : ∀ a, A = some a → (storeCells a cells).run P w = .ok () w') (hnone : A = none → w' = w) :
    (Builtin.copy_ ts ty #[.slice A len cap, .slice B blen cap2]).run P w = .ok (goInt (Nat.min blen len)) w' := by
  cases A with
  | none => rw [hnone rfl]; simp [Builtin.copy_, h0, run_underlying hu, Builtin.lenOf, hsz, hfirst]
  | some a => simp [Builtin.copy_, h0, run_underlying hu, Builtin.lenOf, hsz, hfirst, hst a rfl]

theorem run_call_copy {c : Go.Call} (ho : o.op = .call c) (hc : c.callee = .builtin .copy) {yx yy : Operand} (ha : c.args = #[yx, yy]) {ac : Act} {w w' : World} {v : Value}
    (h : (Builtin.copy_ c.argTypes o.type #[ac.eval yx, ac.eval yy]).run P w = .ok v w') : (execOp ac.eval o).run P w = .ok (.value v) w' := by
  simp [execOp, ho, resolve, hc, ha, invoke, builtin, h]

theorem told_copy (hT : TOk P E) {c : Go.Call} (ho : o.op = .call c) (hcal : c.callee = .builtin .copy) {yx yy : Operand} (ha : c.args = #[yx, yy]) {t : TypeId} (h0 : c.argTypes[0]? = some t) {id : Nat} (hxa : aeval s yx = .sl id) {K : AV → Heap → Bool → Option ρ}
    (hk : (match kindOf E t, hget h id with
        | some (.slice _), some o =>
          bif fits E t (.sl id) h then
          (match aeval s yy with
           | .nils => K (.int .i64 0) h false
           | y =>
             (match rowOf h y with
              | some ys =>
                (match o.c.over ys with
                 | some c => K (.int .i64 ((min ys.len o.c.len : Nat) : Int)) (h.set id (some { o with c })) true
                 | none => none)
              | none => none)) else none
        | _, _ => none) = some x) : Told P s h o K x := by
  generalize hya : aeval s yy = ay at hk
  split at hk
  · rename_i e ob hkt hob
    have hu := hT.slice hkt
    cases hf : fits E t (.sl id) h with
    | false => simp [hf] at hk
    | true =>
      simp only [hf, cond_true] at hk
      obtain ⟨e', ti, es, hkt', hti, hes, hts⟩ := fits_some hf
      rw [hkt] at hkt'; cases hkt'
      have hes' : ob.c.es = ti.size := by rw [hts]; simpa [esOf, hob] using hes
      have hsz := (hT.is hti).size
      have dst : ∀ (c0 : Ctx) (ac : Act), Sim c0 h → Slots c0 s ac → ∃ i A cap L, c0.m id = some i ∧ ac.eval yx = .slice A ob.c.len cap ∧ ContV c0 ob.c L ∧ Lies c0.w i.b i.base L.flatten ∧
          ((i.loc = true ∧ A = some ⟨i.b, i.base, none⟩ ∧ ∃ n, Blk c0.w i.b n ∧ i.base + ob.c.len * ti.size ≤ n) ∨ ob.c.len = 0) := by
        intro c0 ac hs hsl
        have hr := hsl.eval yx; rw [hxa] at hr
        simp only [VRep, slRep] at hr
        obtain ⟨i, hi, hr⟩ := hr.2.resolve_left (hs.alive hob)
        have rep := hs.rep hob hi
        obtain ⟨L, hL, hlies⟩ := contRep_iff.1 rep.cont
        rcases hr with ⟨hloc, cap, n, hv, hle, hb, hbn, _⟩ | ⟨_, hl0, A, hv⟩
        · refine ⟨i, _, cap, L, hi, by rw [hv, rep.len], hL, hlies, .inl ⟨hloc, rfl, n, hb, ?_⟩⟩
          have : i.len * i.es ≤ cap * i.es := Nat.mul_le_mul_right _ hle
          rw [rep.len, rep.es, hes'] at this
          rw [rep.es, hes'] at hbn
          omega
        · have : ob.c.len = 0 := by rw [← rep.len]; exact hl0
          exact ⟨i, A, 0, L, hi, by rw [hv, this], hL, hlies, .inr this⟩
      have nores : ∀ (y : AV), ay = y → (match rowOf h y with
              | some ys =>
                (match ob.c.over ys with
                 | some c => K (.int .i64 ((min ys.len ob.c.len : Nat) : Int)) (h.set id (some { ob with c })) true
                 | none => none)
              | none => none) = some x → Told P s h o K x := by
        intro y hy hk
        split at hk
        · rename_i ys hys
          split at hk
          · rename_i ct hct
            have hmem : AV.sl id ∈ opVals s o.op := by rw [ho, ← hxa]; simp [opVals, Op.operands, Go.Call.operands, hcal, ha]
            refine ⟨_, _, _, hk, OpOk.fin (hp := sta_set fun j hj => touch_sl hj hmem) fun c0 ac hs hf hsl => ?_⟩
            obtain ⟨i, A, cap, L, hi, hv, hL, hlies, hcase⟩ := dst c0 ac hs hsl
            have hr := hsl.eval yy; rw [hya, hy] at hr
            obtain ⟨B, cap2, M, hv2, hle2, hM, hl2⟩ := rowOf_rep hs hr hys
            obtain ⟨hN, he1, he2⟩ := hL.over hM hct
            have hfirst := run_first (P := P) (w := c0.w) (A := B) (cap := cap2) (es := ti.size) (n := min ys.len ob.c.len) (len := ys.len) (L := M) (by rw [← hes', ← he2]; exact hM.es) hM.len (Nat.min_le_left _ _) hl2
            have htk : M.take L.length = M.take (min ys.len ob.c.len) := by
              rw [hL.len]
              rcases Nat.le_total ys.len ob.c.len with hle | hle
              · rw [Nat.min_eq_left hle, List.take_of_length_le (by rw [hM.len]; exact hle), List.take_of_length_le (by rw [hM.len]; exact Nat.le_refl _)]
              · rw [Nat.min_eq_right hle]
            have hdr : L.drop M.length = L.drop (min ys.len ob.c.len) := by
              rw [hM.len]
              rcases Nat.le_total ys.len ob.c.len with hle | hle
              · rw [Nat.min_eq_left hle]
              · rw [Nat.min_eq_right hle, List.drop_eq_nil_of_le (by rw [hL.len]; exact hle), List.drop_eq_nil_of_le (by rw [hL.len]; exact Nat.le_refl _)]
            rw [htk, hdr] at hN
            have hkl : (M.take (min ys.len ob.c.len)).length = min ys.len ob.c.len := by rw [List.length_take, hM.len]; omega
            have hm1 : ∀ v ∈ (M.take (min ys.len ob.c.len)).flatten, v.oneCell' = true := fun v hv => by
              obtain ⟨vs, h1, h2⟩ := List.mem_flatten.1 hv
              exact hM.one v (List.mem_flatten.2 ⟨vs, List.mem_of_mem_take h1, h2⟩)
            have hfl : (M.take (min ys.len ob.c.len)).flatten.length = min ys.len ob.c.len * ti.size := by
              rw [flat_len (es := ti.size) (fun vs hv => by rw [← hes', ← he2]; exact hM.es vs (List.mem_of_mem_take hv)), hkl]
            rcases hcase with ⟨hloc, hA, n, hb, hbn⟩ | hz
            · subst hA
              have hle : min ys.len ob.c.len * ti.size ≤ ob.c.len * ti.size := Nat.mul_le_mul_right _ (Nat.min_le_right _ _)
              have hst := run_store_blk (P := P) hb (o := i.base) (vs := (M.take (min ys.len ob.c.len)).flatten) (by rw [hfl]; omega) hm1
              obtain ⟨c', hw, g1, g2⟩ := over_ok hs hob hi hL hlies hN hkl (by rw [hL.len]; exact Nat.min_le_right _ _) he1 (Cont.over_plain hct) (.inl ⟨hloc, rfl⟩)
              refine ⟨.int .i64 ((min ys.len ob.c.len : Nat) : Int), c', ?_, g1, g2, by simp only [VRep], by simp⟩
              rw [hw]
              have hr := run_copy_at (P := P) (ty := o.type) (w := c0.w) (len := ob.c.len) (cap := cap) h0 hu hsz hfirst (A := some ⟨i.b, i.base, none⟩) (fun a ha => by cases ha; exact hst) (fun h => by cases h)
              rw [← hv, ← hv2] at hr
              exact run_call_copy ho hcal ha hr
            · have hn0 : min ys.len ob.c.len = 0 := by omega
              obtain ⟨c', hw, g1, g2⟩ := over_ok hs hob hi hL hlies hN hkl (by rw [hL.len]; exact Nat.min_le_right _ _) he1 (Cont.over_plain hct) (.inr ⟨rfl, hz⟩)
              refine ⟨.int .i64 ((min ys.len ob.c.len : Nat) : Int), c', ?_, g1, g2, by simp only [VRep], by simp⟩
              rw [hw]
              have hempty : (M.take (min ys.len ob.c.len)).flatten = [] := by rw [hn0]; rfl
              rw [hempty] at hfirst
              have hr := run_copy_at (P := P) (ty := o.type) (w := c0.w) (w' := c0.w) (len := ob.c.len) (cap := cap) h0 hu hsz hfirst (A := A) (fun a _ => by simp [storeCells]) (fun _ => rfl)
              rw [← hv, ← hv2] at hr
              exact run_call_copy ho hcal ha hr
          · cases hk
        · cases hk
      split at hk
      · refine told_pure hk fun c0 ac hs hsl => ⟨.int .i64 0, ?_, by simp only [VRep]⟩
        have hr := hsl.eval yy; rw [hya] at hr
        simp only [VRep] at hr
        obtain ⟨B, hv2⟩ := hr
        obtain ⟨i, A, cap, L, hi, hv, hL, hlies, hcase⟩ := dst c0 ac hs hsl
        cases A <;> cases B <;> simp [execOp, ho, resolve, hcal, ha, invoke, builtin, Builtin.copy_, h0, run_underlying hu, hv, hv2, Builtin.lenOf, hsz, goInt, Builtin.firstCells, run_load0, storeCells]
      · exact nores _ rfl hk
  · cases hk

theorem run_clear_at {w w' : World} {t e ty : TypeId} {ts : Array TypeId} {z : Value} (h0 : ts[0]? = some t) (hu : P.underlying t = some (.slice e)) (hz : ∀ w, (zeroValue e).run P w = .ok z w) {A : Option Addr} {len cap : Nat}
    (hst : ∀ a, A = some a → len ≠ 0 → (storeCells a (Builtin.zeroCells z.cells len).toList).run P w = .ok () w') (hnone : A = none ∨ len = 0 → w' = w) :
    (Builtin.clear_ ts ty #[.slice A len cap]).run P w = .ok (.tuple #[]) w' := by
  cases A with
  | none => rw [hnone (.inl rfl)]; simp [Builtin.clear_, h0, run_underlying hu]
  | some a =>
    cases len with
    | zero => rw [hnone (.inr rfl)]; simp [Builtin.clear_, h0, run_underlying hu]
    | succ n => simp [Builtin.clear_, h0, run_underlying hu, hz, hst a rfl (by omega)]

theorem told_clear (hT : TOk P E) {c : Go.Call} (ho : o.op = .call c) (hcal : c.callee = .builtin .clear) {yx : Operand} (ha : c.args = #[yx]) {t : TypeId} (h0 : c.argTypes[0]? = some t) {id : Nat} (hxa : aeval s yx = .sl id) {K : AV → Heap → Bool → Option ρ}
    (hk : (match kindOf E t, hget h id with
        | some (.slice e), some o =>
          (match E.ty e with
           | some ti => bif (o.c.es == ti.size) && !ti.deep then K (.tup []) (h.set id (some { o with c := Cont.fill ti o.c.len })) true else none
           | none => none)
        | _, _ => none) = some x) : Told P s h o K x := by
  split at hk
  · rename_i e ob hkt hob
    have hu := hT.slice hkt
    split at hk
    · rename_i ti hti
      by_cases hb : ((ob.c.es == ti.size) && !ti.deep) = true
      · simp only [hb, cond_true] at hk
        simp only [Bool.and_eq_true, beq_iff_eq, Bool.not_eq_true'] at hb
        obtain ⟨hb, hdp⟩ := hb
        have hpl : (Cont.fill ti ob.c.len).isDeep = false := by
          unfold Cont.fill; rw [hdp]; cases ti.code <;> rfl
        have ty := hT.is hti
        obtain ⟨it, z, hi', hz, hsz, hby, hrun, hzc, hzr, hz1⟩ := ty.zrun
        have hfe := fill_es ty ob.c.len
        have hmem : AV.sl id ∈ opVals s o.op := by rw [ho, ← hxa]; simp [opVals, Op.operands, Go.Call.operands, hcal, ha]
        refine ⟨_, _, _, hk, OpOk.fin (hp := sta_set fun j hj => touch_sl hj hmem) fun c0 ac hs hf hsl => ?_⟩
        have hr := hsl.eval yx; rw [hxa] at hr
        simp only [VRep, slRep] at hr
        obtain ⟨i, hi, hr⟩ := hr.2.resolve_left (hs.alive hob)
        have rep := hs.rep hob hi
        obtain ⟨L, hL, hlies⟩ := contRep_iff.1 rep.cont
        have hN := fill_rep ty (hzr c0) hz1 ob.c.len
        have hN' : ContV c0 (Cont.fill ti ob.c.len) (List.replicate ob.c.len z.cells.toList ++ L.drop ob.c.len) := by
          rw [List.drop_eq_nil_of_le (by rw [hL.len]; exact Nat.le_refl _), List.append_nil]; exact hN
        have hzpos : 0 < z.cells.size := by rw [hzc]; exact ty.pos
        have call : ∀ {ac : Act} {w w' : World} {v : Value}, (Builtin.clear_ c.argTypes o.type #[ac.eval yx]).run P w = .ok v w' → (execOp ac.eval o).run P w = .ok (.value v) w' := by
          intro ac w w' v h; simp [execOp, ho, resolve, hcal, ha, invoke, builtin, h]
        rcases hr with ⟨hloc, cap, n, hv, hle, hb', hbn, _⟩ | ⟨_, hl0, A, hv⟩
        · have hfl : (Builtin.zeroCells z.cells ob.c.len).toList = (List.replicate ob.c.len z.cells.toList).flatten := zero_flat z.cells hzpos _
          have hlen : (List.replicate ob.c.len z.cells.toList).flatten.length = ob.c.len * ti.size := by rw [flat_len hN.es, hfe.1]; simp
          have hmul : i.len * i.es ≤ cap * i.es := Nat.mul_le_mul_right _ hle
          rw [rep.len, rep.es, hb] at hmul
          rw [rep.es, hb] at hbn
          have hst := run_store_blk (P := P) hb' (o := i.base) (vs := (List.replicate ob.c.len z.cells.toList).flatten) (by rw [hlen]; omega) (fun v hv => hN.one v hv)
          obtain ⟨c', hw, g1, g2⟩ := over_ok hs hob hi hL hlies hN' (by simp) (by rw [hL.len]; exact Nat.le_refl _) (by rw [hfe.1, hb]) hpl (.inl ⟨hloc, rfl⟩)
          refine ⟨.tuple #[], c', call ?_, g1, g2, by simp only [VRep]; exact ⟨#[], rfl, by simp [VReps]⟩, by simp⟩
          rw [hw, hv]
          refine run_clear_at h0 hu hrun (fun a ha' _ => ?_) (fun h => ?_)
          · cases ha'; rw [rep.len, hfl]; exact hst
          · rcases h with h | h
            · cases h
            · rw [rep.len] at h; rw [h]; simp [World.setCells]
        · have hz0 : ob.c.len = 0 := by rw [← rep.len]; exact hl0
          obtain ⟨c', hw, g1, g2⟩ := over_ok hs hob hi hL hlies hN' (by simp) (by rw [hL.len]; exact Nat.le_refl _) (by rw [hfe.1, hb]) hpl (.inr ⟨rfl, hz0⟩)
          refine ⟨.tuple #[], c', call ?_, g1, g2, by simp only [VRep]; exact ⟨#[], rfl, by simp [VReps]⟩, by simp⟩
          rw [hw, hv]
          exact run_clear_at h0 hu hrun (fun a _ h => absurd rfl h) (fun _ => rfl)
      · simp only [Bool.not_eq_true] at hb; simp [hb] at hk
    · cases hk
  · cases hk

theorem toList_get0 {α : Type} {a : Array α} {x : α} {l : List α} (h : a.toList = x :: l) : a[0]? = some x := by rw [← Array.getElem?_toList, h]; rfl
theorem toList_get1 {α : Type} {a : Array α} {x y : α} {l : List α} (h : a.toList = x :: y :: l) : a[1]? = some y := by rw [← Array.getElem?_toList, h]; rfl

theorem told_builtin (hT : TOk P E) {c : Go.Call} {b : Builtin} (ho : o.op = .call c) (hcal : c.callee = .builtin b) {K : AV → Heap → Bool → Option ρ}
    (hk : abuiltin E b c.argTypes.toList (c.args.toList.map (aeval s)) h K = some x) : Told P s h o K x := by
  generalize hxs : c.args.toList.map (aeval s) = xs at hk
  generalize hts : c.argTypes.toList = ts at hk
  unfold abuiltin at hk
  split at hk
  · rename_i x1 x2 t u rest
    obtain ⟨y1, l1, hl, e1, hl1⟩ := List.map_eq_cons_iff.1 hxs
    obtain ⟨y2, l2, hl', e2, hl2⟩ := List.map_eq_cons_iff.1 hl1
    have hl3 := List.map_eq_nil_iff.1 hl2
    subst hl3; subst hl'
    have ha := list2 hl
    subst e1; subst e2
    split at hk
    · rename_i e e' h1 h2
      exact told_append hT ho hcal ha (toList_get0 hts) (toList_get1 hts) h1 (.inl ⟨e', h2⟩) hk
    · rename_i e h1 h2
      exact told_append hT ho hcal ha (toList_get0 hts) (toList_get1 hts) h1 (.inr h2) hk
    · cases hk
  · rename_i x1 t rest
    obtain ⟨y1, l1, hl, e1, hl1⟩ := List.map_eq_cons_iff.1 hxs
    have hl3 := List.map_eq_nil_iff.1 hl1
    subst hl3
    subst e1
    exact told_len hT ho hcal (list1 hl) (toList_get0 hts) hk
  · rename_i k m rest
    split at hk
    · rename_i n hn
      exact told_best (b := true) ho hcal hxs hn hk
    · cases hk
  · rename_i k m rest
    split at hk
    · rename_i n hn
      exact told_best (b := false) ho hcal hxs hn hk
    · cases hk
  · rename_i id y t rest
    obtain ⟨y1, l1, hl, e1, hl1⟩ := List.map_eq_cons_iff.1 hxs
    obtain ⟨y2, l2, hl', e2, hl2⟩ := List.map_eq_cons_iff.1 hl1
    have hl3 := List.map_eq_nil_iff.1 hl2
    subst hl3; subst hl'
    subst e2
    exact told_copy hT ho hcal (list2 hl) (toList_get0 hts) e1 hk
  · rename_i id t rest
    obtain ⟨y1, l1, hl, e1, hl1⟩ := List.map_eq_cons_iff.1 hxs
    have hl3 := List.map_eq_nil_iff.1 hl1
    subst hl3
    exact told_clear hT ho hcal (list1 hl) (toList_get0 hts) e1 hk
  · cases hk
end
end Go.AM
