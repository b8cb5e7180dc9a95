/- An interpreter of the model's code over values that are told, and its soundness. -/
import Derived.Test.YtajlenpookikoaaAS12
import Derived.LoopN
namespace Go.AM

/-! Soundness: the other builtins. -/
section
variable {ρ : Type} {P : Program} {E : Env} {s : List AV} {h : Heap} {o : Oper} {x : ρ}

theorem list2 {α : Type} {a : Array α} {x y : α} (h : a.toList = [x, y]) : a = #[x, y] := by apply Array.ext'; simpa using h
theorem list1 {α : Type} {a : Array α} {x : α} (h : a.toList = [x]) : a = #[x] := by apply Array.ext'; simpa using h

theorem told_len (hT : TOk P E) {c : Go.Call} (ho : o.op = .call c) (hcal : c.callee = .builtin .len) {y : Operand} (ha : c.args = #[y]) {t : TypeId} (h0 : c.argTypes[0]? = some t) {K : AV → Heap → Bool → Option ρ}
    (hk : (match kindOf E t, aeval s y with
        | some TK.str, .str s => K (.int .i64 (s.size : Int)) h false
        | some (.slice _), x => (match lenOf h x with | some n => K (.int .i64 (n : Int)) h false | none => none)
        | _, _ => none) = some x) : Told P s h o K x := by
  generalize hya : aeval s y = a at hk
  split at hk
  · rename_i b hkt
    refine told_pure hk fun c0 ac hs hsl => ⟨.int .i64 (b.size : Int), ?_, by simp only [VRep]⟩
    have hr := hsl.eval y; rw [hya] at hr
    simp [execOp, ho, resolve, hcal, ha, invoke, builtin, Builtin.len_, h0, run_underlying (hT.str hkt), hr.str, goInt]
  · rename_i e a' hkt
    split at hk
    · rename_i n hn
      refine told_pure hk fun c0 ac hs hsl => ⟨.int .i64 (n : Int), ?_, by simp only [VRep]⟩
      have hr := hsl.eval y; rw [hya] at hr
      have hv : ∃ A cap, ac.eval y = .slice A n cap := by
        unfold lenOf at hn
        split at hn
        · rename_i id
          simp only [Option.map_eq_some_iff] at hn
          obtain ⟨ob, hob, rfl⟩ := hn
          obtain ⟨A, cap, L, hv, _⟩ := rowOf_rep hs hr (ct := ob.c) (by simp [rowOf, hob])
          exact ⟨A, cap, hv⟩
        · rename_i id off m
          simp only [Option.map_eq_some_iff] at hn
          obtain ⟨ob, hob, rfl⟩ := hn
          simp only [VRep, ssRep] at hr
          obtain ⟨i, hi, _, hr⟩ := hr.2.resolve_left (hs.alive hob)
          rcases hr with ⟨_, cap, m', hv, _⟩ | ⟨h0, A, hv⟩
          · exact ⟨_, cap, hv⟩
          · exact ⟨A, 0, by rw [h0]; exact hv⟩
        · rename_i e' xs
          simp only [Option.some.injEq] at hn
          subst hn
          obtain ⟨A, cap, hv, _⟩ := hr.row
          exact ⟨A, cap, hv⟩
        · simp only [Option.some.injEq] at hn
          subst hn
          simp only [VRep] at hr
          obtain ⟨A, hv⟩ := hr
          exact ⟨A, 0, hv⟩
        · cases hn
      obtain ⟨A, cap, hv⟩ := hv
      simp [execOp, ho, resolve, hcal, ha, invoke, builtin, Builtin.len_, h0, run_underlying (hT.slice hkt), hv, goInt]
    · cases hk
  · cases hk

theorem best_ok {op : Int → Int → Int} {f : Value → Value → Sem Value} {c : Ctx} {ac : Act} (hsl : Slots c s ac) (hf : ∀ k x y, f (.int k x) (.int k y) = pure (.int k (op x y))) (w : World) :
    ∀ (l : List Operand) (k : IntKind) (x n : Int), abest op k x (l.map (aeval s)) = some n → ((l.map ac.eval).foldlM f (.int k x)).run P w = .ok (.int k n) w
  | [], k, x, n, h => by simp only [List.map_nil, abest, Option.some.injEq] at h; subst h; simp
  | y :: l, k, x, n, h => by
    have hr := hsl.eval y
    generalize hya : aeval s y = a at hr
    simp only [List.map_cons, hya] at h
    cases a <;> simp only [abest, reduceCtorEq] at h
    rename_i k' m
    split at h
    · rename_i he
      subst he
      simp only [List.map_cons, List.foldlM_cons, hr.int, hf, Sem.run_bind, Sem.run_pure, Result.andThen_ok]
      exact best_ok hsl hf w l k _ n h
    · cases h

theorem told_best {c : Go.Call} {b : Bool} (ho : o.op = .call c) (hcal : c.callee = .builtin (if b then .max else .min)) {k : IntKind} {m n : Int} {rest : List AV} (ha : c.args.toList.map (aeval s) = .int k m :: rest)
    (hb : abest (if b then mx else mn) k m rest = some n) {K : AV → Heap → Bool → Option ρ} (hk : K (.int k n) h false = some x) : Told P s h o K x := by
  refine told_pure hk fun c0 ac hs hsl => ⟨.int k n, ?_, by simp only [VRep]⟩
  cases hl : c.args.toList with
  | nil => simp [hl] at ha
  | cons y l =>
    rw [hl] at ha
    simp only [List.map_cons, List.cons.injEq] at ha
    obtain ⟨ha1, ha2⟩ := ha
    have hr := hsl.eval y; rw [ha1] at hr
    rw [← ha2] at hb
    have hargs : (c.args.map ac.eval).toList = ac.eval y :: l.map ac.eval := by rw [Array.toList_map, hl]; rfl
    cases b with
    | true =>
      have := best_ok (P := P) (f := Builtin.max2) hsl (op := mx) (fun k x y => by simp only [Builtin.max2, mx]; by_cases hxy : y > x <;> simp [hxy]) c0.w l k m n hb
      have hm : (Builtin.max_ c.argTypes o.type (c.args.map ac.eval)).run P c0.w = .ok (.int k n) c0.w := by
        simp only [Builtin.max_, hargs, hr.int]; exact this
      simp only [if_true] at hcal
      simp [execOp, ho, resolve, hcal, invoke, builtin, hm]
    | false =>
      have := best_ok (P := P) (f := Builtin.min2) hsl (op := mn) (fun k x y => by simp only [Builtin.min2, mn]; by_cases hxy : y < x <;> simp [hxy]) c0.w l k m n hb
      have hm : (Builtin.min_ c.argTypes o.type (c.args.map ac.eval)).run P c0.w = .ok (.int k n) c0.w := by
        simp only [Builtin.min_, hargs, hr.int]; exact this
      simp only [Bool.false_eq_true, if_false] at hcal
      simp [execOp, ho, resolve, hcal, invoke, builtin, hm]

/-- A row's content changed from its begin on. -/
theorem over_ok {c0 : Ctx} (hs : Sim c0 h) {id : Nat} {ob : Obj} (hob : hget h id = some ob) {i : Info} (hi : c0.m id = some i) {ct : Cont} {L N : List (List Value)} {k : Nat} (hL : ContV c0 ob.c L) (hlies : Lies c0.w i.b i.base L.flatten)
    (hN : ContV c0 ct (N ++ L.drop k)) (hk : N.length = k) (hle : k ≤ L.length) (hes : ct.es = ob.c.es) (hpl : ct.isDeep = false) {w' : World} (hw : (i.loc = true ∧ w' = c0.w.setCells i.b i.base N.flatten) ∨ (w' = c0.w ∧ ob.c.len = 0)) :
    ∃ c', c'.w = w' ∧ Ext c0 h c' (h.set id (some { ob with c := ct })) ∧ Sim c' (h.set id (some { ob with c := ct })) := by
  have rep := hs.rep hob hi
  have hd := hs.alive hob
  have hid := hget_lt hob
  have hall := hN.es
  have hlen : ct.len = ob.c.len := by rw [← hN.len, ← hL.len, List.length_append, List.length_drop, hk]; omega
  have hNl : N.flatten.length = k * ct.es := by rw [flat_len (es := ct.es) (fun vs hv => hall vs (by simp [hv])), hk]
  have fin : ∀ (w' : World) (x : Only c0.w w' i.b) (hl : i.loc = true ∨ w' = c0.w), Lies w' i.b i.base (N ++ L.drop k).flatten → ∃ c', c'.w = w' ∧ Ext c0 h c' (h.set id (some { ob with c := ct })) ∧ Sim c' (h.set id (some { ob with c := ct })) := by
    intro w' x hl hlies'
    have t : Tells c0 { c0 with w := w' } := ⟨fun _ _ h => h, fun _ h => h, ⟨fun _ h => h, fun b hp => by
      rcases hl with hl | he
      · exact x.other b (fun e => hs.apart id i hi hd hl (e ▸ hp))
      · rw [he]⟩, x.blk⟩
    have hr : ObjRep { c0 with w := w' } i { ob with c := ct } := ⟨by rw [rep.len]; exact hlen.symm, by rw [rep.es]; exact hes.symm, rep.pos, rep.full, rep.loc, fun hl => by obtain ⟨m, hm, hm'⟩ := rep.blk hl; exact ⟨m, x.blk _ _ hm, hm'⟩,
      contRep_iff.2 ⟨_, hN.mono t, hlies'⟩⟩
    obtain ⟨g1, g2⟩ := write_ok hs hi hd hid hl x (h' := h.set id (some { ob with c := ct })) (by simp) (fun k hk => hget_set_other hk) (hget_set_same hid) hr (fun fx e xs hc => by rw [show ct = _ from hc] at hpl; cases hpl)
    exact ⟨_, rfl, g1, g2⟩
  rcases hw with ⟨hl, rfl⟩ | ⟨rfl, h0⟩
  · obtain ⟨n, hb, hbn⟩ := rep.blk hl
    refine fin _ (only_setCells _ _ _ _) (.inl hl) ?_
    have hmul : k * i.es ≤ i.len * i.es := Nat.mul_le_mul_right _ (by rw [rep.len, ← hL.len]; exact hle)
    have he : ct.es = i.es := by rw [hes, rep.es]
    rw [List.flatten_append]
    refine Lies.append (lies_set_in hb (by rw [hNl, he]; omega)) ?_
    have hd := hlies.drop (k * i.es)
    rw [flat_drop k (fun vs hv => by rw [hL.es vs hv, rep.es])] at hd
    rw [hNl, he]
    exact lies_set_out (.inr (by rw [hNl, he]; exact Nat.le_refl _)) hd
  · refine fin _ (Only.refl _ _) (.inr rfl) ?_
    have : N ++ L.drop k = [] := List.eq_nil_of_length_eq_zero (by rw [hN.len, hlen, h0])
    rw [this]; simp [Lies]

theorem Cont.over_plain {a b ct : Cont} (ha : a.over b = some ct) : ct.isDeep = false := by
  cases a with
  | typed e xs =>
    cases b with
    | typed f ys =>
      simp only [Cont.over] at ha
      split at ha
      · rename_i he; subst he; cases ha; rfl
      · cases ha
    | raw a es d xs => simp [Cont.over] at ha
    | deep fx f ys => simp [Cont.over] at ha
  | deep fx e xs => simp [Cont.over] at ha
  | raw a es d xs =>
    cases b with
    | deep fx f ys => simp [Cont.over] at ha
    | typed f ys => simp [Cont.over] at ha
    | raw a' es' d' ys =>
      simp only [Cont.over] at ha
      by_cases hb : ((a == a') && (es == es')) = true
      · simp only [hb, cond_true, Option.some.injEq] at ha; subst ha; rfl
      · simp only [Bool.not_eq_true] at hb; simp [hb] at ha

theorem ContV.over {c : Ctx} {a b ct : Cont} {L M : List (List Value)} (h : ContV c a L) (h' : ContV c b M) (ha : a.over b = some ct) : ContV c ct (M.take L.length ++ L.drop M.length) ∧ ct.es = a.es ∧ b.es = a.es := by
  cases a with
  | typed e xs =>
    cases b with
    | typed f ys =>
      simp only [Cont.over] at ha
      split at ha
      · rename_i he
        subst he
        cases ha
        have hl : xs.length = L.length := All2.length (R := ElemT c f) h
        have hl' : List.length ys = M.length := All2.length (R := ElemT c f) h'
        refine ⟨?_, rfl, rfl⟩
        show All2 (ElemT c f) (List.take xs.length ys ++ List.drop (List.length ys) xs) _
        rw [hl, hl']
        exact All2.append (All2.take (R := ElemT c f) _ h') (All2.drop (R := ElemT c f) _ h)
      · cases ha
    | raw a es d xs => simp [Cont.over] at ha
    | deep fx f ys => simp [Cont.over] at ha
  | deep fx e xs => simp [Cont.over] at ha
  | raw a es d xs =>
    cases b with
    | deep fx f ys => simp [Cont.over] at ha
    | typed f ys => simp [Cont.over] at ha
    | raw a' es' d' ys =>
      simp only [Cont.over] at ha
      by_cases hb : ((a == a') && (es == es')) = true
      · simp only [hb, cond_true, Option.some.injEq] at ha
        subst ha
        simp only [Bool.and_eq_true, beq_iff_eq] at hb
        obtain ⟨rfl, rfl⟩ := hb
        refine ⟨⟨h.1, h.2.1, ?_⟩, rfl, rfl⟩
        rw [h.2.2.length, h'.2.2.length]
        exact (h'.2.2.take _).append (h.2.2.drop _)
      · simp only [Bool.not_eq_true] at hb; simp [hb] at ha

theorem run_copy_at {w w' : World} {t e ty : TypeId} {ts : Array TypeId} (h0 : ts[0]? = some t) (hu : P.underlying t = some (.slice e)) {size : Nat} (hsz : ∀ w, (sizeOf e).run P w = .ok size w) {A B : Option Addr} {len cap blen cap2 : Nat} {cells : List Value}
    (hfirst : (Builtin.firstCells size (Nat.min blen len) (.slice B blen cap2)).run P w = .ok cells.toArray w) (hst : ∀ a, A = some a → (storeCells a cells).run P w = .ok () w') (hnone : A = none → w' = w) :
    (Builtin.copy_ ts ty #[.slice A len cap, .slice B blen cap2]).run P w = .ok (goInt (Nat.min blen len)) w' := by
  cases A with
  | none => rw [hnone rfl]; simp [Builtin.copy_, h0, run_underlying hu, Builtin.lenOf, hsz, hfirst]
  | some a => simp [Builtin.copy_, h0, run_underlying hu, Builtin.lenOf, hsz, hfirst, hst a rfl]

theorem run_call_copy {c : Go.Call} (ho : o.op = .call c) (hc : c.callee = .builtin .copy) {yx yy : Operand} (ha : c.args = #[yx, yy]) {ac : Act} {w w' : World} {v : Value}
    (h : (Builtin.copy_ c.argTypes o.type #[ac.eval yx, ac.eval yy]).run P w = .ok v w') : (execOp ac.eval o).run P w = .ok (.value v) w' := by
  simp [execOp, ho, resolve, hc, ha, invoke, builtin, h]

theorem told_copy (hT : TOk P E) {c : Go.Call} (ho : o.op = .call c) (hcal : c.callee = .builtin .copy) {yx yy : Operand} (ha : c.args = #[yx, yy]) {t : TypeId} (h0 : c.argTypes[0]? = some t) {id : Nat} (hxa : aeval s yx = .sl id) {K : AV → Heap → Bool → Option ρ}
    (hk : (match kindOf E t, hget h id with
        | some (.slice _), some o =>
          bif fits E t (.sl id) h then
          (match aeval s yy with
           | .nils => K (.int .i64 0) h false
           | y =>
             (match rowOf h y with
              | some ys =>
                (match o.c.over ys with
                 | some c => K (.int .i64 ((min ys.len o.c.len : Nat) : Int)) (h.set id (some { o with c })) true
                 | none => none)
              | none => none)) else none
        | _, _ => none) = some x) : Told P s h o K x := by
  generalize hya : aeval s yy = ay at hk
  split at hk
  · rename_i e ob hkt hob
    have hu := hT.slice hkt
    cases hf : fits E t (.sl id) h with
    | false => simp [hf] at hk
    | true =>
      simp only [hf, cond_true] at hk
      obtain ⟨e', ti, es, hkt', hti, hes, hts⟩ := fits_some hf
      rw [hkt] at hkt'; cases hkt'
      have hes' : ob.c.es = ti.size := by rw [hts]; simpa [esOf, hob] using hes
      have hsz := (hT.is hti).size
      have dst : ∀ (c0 : Ctx) (ac : Act), Sim c0 h → Slots c0 s ac → ∃ i A cap L, c0.m id = some i ∧ ac.eval yx = .slice A ob.c.len cap ∧ ContV c0 ob.c L ∧ Lies c0.w i.b i.base L.flatten ∧
          ((i.loc = true ∧ A = some ⟨i.b, i.base, none⟩ ∧ ∃ n, Blk c0.w i.b n ∧ i.base + ob.c.len * ti.size ≤ n) ∨ ob.c.len = 0) := by
        intro c0 ac hs hsl
        have hr := hsl.eval yx; rw [hxa] at hr
        simp only [VRep, slRep] at hr
        obtain ⟨i, hi, hr⟩ := hr.2.resolve_left (hs.alive hob)
        have rep := hs.rep hob hi
        obtain ⟨L, hL, hlies⟩ := contRep_iff.1 rep.cont
        rcases hr with ⟨hloc, cap, n, hv, hle, hb, hbn, _⟩ | ⟨_, hl0, A, hv⟩
        · refine ⟨i, _, cap, L, hi, by rw [hv, rep.len], hL, hlies, .inl ⟨hloc, rfl, n, hb, ?_⟩⟩
          have : i.len * i.es ≤ cap * i.es := Nat.mul_le_mul_right _ hle
          rw [rep.len, rep.es, hes'] at this
          rw [rep.es, hes'] at hbn
          omega
        · have : ob.c.len = 0 := by rw [← rep.len]; exact hl0
          exact ⟨i, A, 0, L, hi, by rw [hv, this], hL, hlies, .inr this⟩
      have nores : ∀ (y : AV), ay = y → (match rowOf h y with
              | some ys =>
                (match ob.c.over ys with
                 | some c => K (.int .i64 ((min ys.len ob.c.len : Nat) : Int)) (h.set id (some { ob with c })) true
                 | none => none)
              | none => none) = some x → Told P s h o K x := by
        intro y hy hk
        split at hk
        · rename_i ys hys
          split at hk
          · rename_i ct hct
            have hmem : AV.sl id ∈ opVals s h o.op := mem_vals (by rw [ho, ← hxa]; simp [Op.operands, Go.Call.operands, hcal, ha])
            refine ⟨_, _, _, hk, OpOk.fin (hp := sta_set fun j hj => touch_sl hj hmem) fun c0 ac hs hf hsl => ?_⟩
            obtain ⟨i, A, cap, L, hi, hv, hL, hlies, hcase⟩ := dst c0 ac hs hsl
            have hr := hsl.eval yy; rw [hya, hy] at hr
            obtain ⟨B, cap2, M, hv2, hle2, hM, hl2⟩ := rowOf_rep hs hr hys
            obtain ⟨hN, he1, he2⟩ := hL.over hM hct
            have hfirst := run_first (P := P) (w := c0.w) (A := B) (cap := cap2) (es := ti.size) (n := min ys.len ob.c.len) (len := ys.len) (L := M) (by rw [← hes', ← he2]; exact hM.es) hM.len (Nat.min_le_left _ _) hl2
            have htk : M.take L.length = M.take (min ys.len ob.c.len) := by
              rw [hL.len]
              rcases Nat.le_total ys.len ob.c.len with hle | hle
              · rw [Nat.min_eq_left hle, List.take_of_length_le (by rw [hM.len]; exact hle), List.take_of_length_le (by rw [hM.len]; exact Nat.le_refl _)]
              · rw [Nat.min_eq_right hle]
            have hdr : L.drop M.length = L.drop (min ys.len ob.c.len) := by
              rw [hM.len]
              rcases Nat.le_total ys.len ob.c.len with hle | hle
              · rw [Nat.min_eq_left hle]
              · rw [Nat.min_eq_right hle, List.drop_eq_nil_of_le (by rw [hL.len]; exact hle), List.drop_eq_nil_of_le (by rw [hL.len]; exact Nat.le_refl _)]
            rw [htk, hdr] at hN
            have hkl : (M.take (min ys.len ob.c.len)).length = min ys.len ob.c.len := by rw [List.length_take, hM.len]; omega
            have hm1 : ∀ v ∈ (M.take (min ys.len ob.c.len)).flatten, v.oneCell' = true := fun v hv => by
              obtain ⟨vs, h1, h2⟩ := List.mem_flatten.1 hv
              exact hM.one v (List.mem_flatten.2 ⟨vs, List.mem_of_mem_take h1, h2⟩)
            have hfl : (M.take (min ys.len ob.c.len)).flatten.length = min ys.len ob.c.len * ti.size := by
              rw [flat_len (es := ti.size) (fun vs hv => by rw [← hes', ← he2]; exact hM.es vs (List.mem_of_mem_take hv)), hkl]
            rcases hcase with ⟨hloc, hA, n, hb, hbn⟩ | hz
            · subst hA
              have hle : min ys.len ob.c.len * ti.size ≤ ob.c.len * ti.size := Nat.mul_le_mul_right _ (Nat.min_le_right _ _)
              have hst := run_store_blk (P := P) hb (o := i.base) (vs := (M.take (min ys.len ob.c.len)).flatten) (by rw [hfl]; omega) hm1
              obtain ⟨c', hw, g1, g2⟩ := over_ok hs hob hi hL hlies hN hkl (by rw [hL.len]; exact Nat.min_le_right _ _) he1 (Cont.over_plain hct) (.inl ⟨hloc, rfl⟩)
              refine ⟨.int .i64 ((min ys.len ob.c.len : Nat) : Int), c', ?_, g1, g2, by simp only [VRep], by simp⟩
              rw [hw]
              have hr := run_copy_at (P := P) (ty := o.type) (w := c0.w) (len := ob.c.len) (cap := cap) h0 hu hsz hfirst (A := some ⟨i.b, i.base, none⟩) (fun a ha => by cases ha; exact hst) (fun h => by cases h)
              rw [← hv, ← hv2] at hr
              exact run_call_copy ho hcal ha hr
            · have hn0 : min ys.len ob.c.len = 0 := by omega
              obtain ⟨c', hw, g1, g2⟩ := over_ok hs hob hi hL hlies hN hkl (by rw [hL.len]; exact Nat.min_le_right _ _) he1 (Cont.over_plain hct) (.inr ⟨rfl, hz⟩)
              refine ⟨.int .i64 ((min ys.len ob.c.len : Nat) : Int), c', ?_, g1, g2, by simp only [VRep], by simp⟩
              rw [hw]
              have hempty : (M.take (min ys.len ob.c.len)).flatten = [] := by rw [hn0]; rfl
              rw [hempty] at hfirst
              have hr := run_copy_at (P := P) (ty := o.type) (w := c0.w) (w' := c0.w) (len := ob.c.len) (cap := cap) h0 hu hsz hfirst (A := A) (fun a _ => by simp [storeCells]) (fun _ => rfl)
              rw [← hv, ← hv2] at hr
              exact run_call_copy ho hcal ha hr
          · cases hk
        · cases hk
      split at hk
      · refine told_pure hk fun c0 ac hs hsl => ⟨.int .i64 0, ?_, by simp only [VRep]⟩
        have hr := hsl.eval yy; rw [hya] at hr
        simp only [VRep] at hr
        obtain ⟨B, hv2⟩ := hr
        obtain ⟨i, A, cap, L, hi, hv, hL, hlies, hcase⟩ := dst c0 ac hs hsl
        cases A <;> cases B <;> simp [execOp, ho, resolve, hcal, ha, invoke, builtin, Builtin.copy_, h0, run_underlying hu, hv, hv2, Builtin.lenOf, hsz, goInt, Builtin.firstCells, run_load0, storeCells]
      · exact nores _ rfl hk
  · cases hk

theorem run_clear_at {w w' : World} {t e ty : TypeId} {ts : Array TypeId} {z : Value} (h0 : ts[0]? = some t) (hu : P.underlying t = some (.slice e)) (hz : ∀ w, (zeroValue e).run P w = .ok z w) {A : Option Addr} {len cap : Nat}
    (hst : ∀ a, A = some a → len ≠ 0 → (storeCells a (Builtin.zeroCells z.cells len).toList).run P w = .ok () w') (hnone : A = none ∨ len = 0 → w' = w) :
    (Builtin.clear_ ts ty #[.slice A len cap]).run P w = .ok (.tuple #[]) w' := by
  cases A with
  | none => rw [hnone (.inl rfl)]; simp [Builtin.clear_, h0, run_underlying hu]
  | some a =>
    cases len with
    | zero => rw [hnone (.inr rfl)]; simp [Builtin.clear_, h0, run_underlying hu]
    | succ n => simp [Builtin.clear_, h0, run_underlying hu, hz, hst a rfl (by omega)]

theorem told_clear (hT : TOk P E) {c : Go.Call} (ho : o.op = .call c) (hcal : c.callee = .builtin .clear) {yx : Operand} (ha : c.args = #[yx]) {t : TypeId} (h0 : c.argTypes[0]? = some t) {id : Nat} (hxa : aeval s yx = .sl id) {K : AV → Heap → Bool → Option ρ}
    (hk : (match kindOf E t, hget h id with
        | some (.slice e), some o =>
          (match E.ty e with
           | some ti => bif (o.c.es == ti.size) && !ti.deep then K (.tup []) (h.set id (some { o with c := Cont.fill ti o.c.len })) true else none
           | none => none)
        | _, _ => none) = some x) : Told P s h o K x := by
  split at hk
  · rename_i e ob hkt hob
    have hu := hT.slice hkt
    split at hk
    · rename_i ti hti
      by_cases hb : ((ob.c.es == ti.size) && !ti.deep) = true
      · simp only [hb, cond_true] at hk
        simp only [Bool.and_eq_true, beq_iff_eq, Bool.not_eq_true'] at hb
        obtain ⟨hb, hdp⟩ := hb
        have hpl : (Cont.fill ti ob.c.len).isDeep = false := by
          unfold Cont.fill; rw [hdp]; cases ti.code <;> rfl
        have ty := hT.is hti
        obtain ⟨it, z, hi', hz, hsz, hby, hrun, hzc, hzr, hz1⟩ := ty.zrun
        have hfe := fill_es ty ob.c.len
        have hmem : AV.sl id ∈ opVals s h o.op := mem_vals (by rw [ho, ← hxa]; simp [Op.operands, Go.Call.operands, hcal, ha])
        refine ⟨_, _, _, hk, OpOk.fin (hp := sta_set fun j hj => touch_sl hj hmem) fun c0 ac hs hf hsl => ?_⟩
        have hr := hsl.eval yx; rw [hxa] at hr
        simp only [VRep, slRep] at hr
        obtain ⟨i, hi, hr⟩ := hr.2.resolve_left (hs.alive hob)
        have rep := hs.rep hob hi
        obtain ⟨L, hL, hlies⟩ := contRep_iff.1 rep.cont
        have hN := fill_rep ty (hzr c0) hz1 ob.c.len
        have hN' : ContV c0 (Cont.fill ti ob.c.len) (List.replicate ob.c.len z.cells.toList ++ L.drop ob.c.len) := by
          rw [List.drop_eq_nil_of_le (by rw [hL.len]; exact Nat.le_refl _), List.append_nil]; exact hN
        have hzpos : 0 < z.cells.size := by rw [hzc]; exact ty.pos
        have call : ∀ {ac : Act} {w w' : World} {v : Value}, (Builtin.clear_ c.argTypes o.type #[ac.eval yx]).run P w = .ok v w' → (execOp ac.eval o).run P w = .ok (.value v) w' := by
          intro ac w w' v h; simp [execOp, ho, resolve, hcal, ha, invoke, builtin, h]
        rcases hr with ⟨hloc, cap, n, hv, hle, hb', hbn, _⟩ | ⟨_, hl0, A, hv⟩
        · have hfl : (Builtin.zeroCells z.cells ob.c.len).toList = (List.replicate ob.c.len z.cells.toList).flatten := zero_flat z.cells hzpos _
          have hlen : (List.replicate ob.c.len z.cells.toList).flatten.length = ob.c.len * ti.size := by rw [flat_len hN.es, hfe.1]; simp
          have hmul : i.len * i.es ≤ cap * i.es := Nat.mul_le_mul_right _ hle
          rw [rep.len, rep.es, hb] at hmul
          rw [rep.es, hb] at hbn
          have hst := run_store_blk (P := P) hb' (o := i.base) (vs := (List.replicate ob.c.len z.cells.toList).flatten) (by rw [hlen]; omega) (fun v hv => hN.one v hv)
          obtain ⟨c', hw, g1, g2⟩ := over_ok hs hob hi hL hlies hN' (by simp) (by rw [hL.len]; exact Nat.le_refl _) (by rw [hfe.1, hb]) hpl (.inl ⟨hloc, rfl⟩)
          refine ⟨.tuple #[], c', call ?_, g1, g2, by simp only [VRep]; exact ⟨#[], rfl, by simp [VReps]⟩, by simp⟩
          rw [hw, hv]
          refine run_clear_at h0 hu hrun (fun a ha' _ => ?_) (fun h => ?_)
          · cases ha'; rw [rep.len, hfl]; exact hst
          · rcases h with h | h
            · cases h
            · rw [rep.len] at h; rw [h]; simp [World.setCells]
        · have hz0 : ob.c.len = 0 := by rw [← rep.len]; exact hl0
          obtain ⟨c', hw, g1, g2⟩ := over_ok hs hob hi hL hlies hN' (by simp) (by rw [hL.len]; exact Nat.le_refl _) (by rw [hfe.1, hb]) hpl (.inr ⟨rfl, hz0⟩)
          refine ⟨.tuple #[], c', call ?_, g1, g2, by simp only [VRep]; exact ⟨#[], rfl, by simp [VReps]⟩, by simp⟩
          rw [hw, hv]
          exact run_clear_at h0 hu hrun (fun a _ h => absurd rfl h) (fun _ => rfl)
      · simp only [Bool.not_eq_true] at hb; simp [hb] at hk
    · cases hk
  · cases hk

theorem toList_get0 {α : Type} {a : Array α} {x : α} {l : List α} (h : a.toList = x :: l) : a[0]? = some x := by rw [← Array.getElem?_toList, h]; rfl
theorem toList_get1 {α : Type} {a : Array α} {x y : α} {l : List α} (h : a.toList = x :: y :: l) : a[1]? = some y := by rw [← Array.getElem?_toList, h]; rfl

theorem told_builtin (hT : TOk P E) {c : Go.Call} {b : Builtin} (ho : o.op = .call c) (hcal : c.callee = .builtin b) {K : AV → Heap → Bool → Option ρ}
    (hk : abuiltin E b c.argTypes.toList (c.args.toList.map (aeval s)) h K = some x) : Told P s h o K x := by
  generalize hxs : c.args.toList.map (aeval s) = xs at hk
  generalize hts : c.argTypes.toList = ts at hk
  unfold abuiltin at hk
  split at hk
  · rename_i x1 x2 t u rest
    obtain ⟨y1, l1, hl, e1, hl1⟩ := List.map_eq_cons_iff.1 hxs
    obtain ⟨y2, l2, hl', e2, hl2⟩ := List.map_eq_cons_iff.1 hl1
    have hl3 := List.map_eq_nil_iff.1 hl2
    subst hl3; subst hl'
    have ha := list2 hl
    subst e1; subst e2
    split at hk
    · rename_i e e' h1 h2
      exact told_append hT ho hcal ha (toList_get0 hts) (toList_get1 hts) h1 (.inl ⟨e', h2⟩) hk
    · rename_i e h1 h2
      exact told_append hT ho hcal ha (toList_get0 hts) (toList_get1 hts) h1 (.inr h2) hk
    · cases hk
  · rename_i x1 t rest
    obtain ⟨y1, l1, hl, e1, hl1⟩ := List.map_eq_cons_iff.1 hxs
    have hl3 := List.map_eq_nil_iff.1 hl1
    subst hl3
    subst e1
    exact told_len hT ho hcal (list1 hl) (toList_get0 hts) hk
  · rename_i k m rest
    split at hk
    · rename_i n hn
      exact told_best (b := true) ho hcal hxs hn hk
    · cases hk
  · rename_i k m rest
    split at hk
    · rename_i n hn
      exact told_best (b := false) ho hcal hxs hn hk
    · cases hk
  · rename_i id y t rest
    obtain ⟨y1, l1, hl, e1, hl1⟩ := List.map_eq_cons_iff.1 hxs
    obtain ⟨y2, l2, hl', e2, hl2⟩ := List.map_eq_cons_iff.1 hl1
    have hl3 := List.map_eq_nil_iff.1 hl2
    subst hl3; subst hl'
    subst e2
    exact told_copy hT ho hcal (list2 hl) (toList_get0 hts) e1 hk
  · rename_i id t rest
    obtain ⟨y1, l1, hl, e1, hl1⟩ := List.map_eq_cons_iff.1 hxs
    have hl3 := List.map_eq_nil_iff.1 hl1
    subst hl3
    exact told_clear hT ho hcal (list1 hl) (toList_get0 hts) e1 hk
  · cases hk
end
end Go.AM
namespace Go.AM

/-! Soundness: calls; all operations. -/
def Enters (P : Program) (f : FuncId) : Prop := ∃ fn, P.funcs[f]? = some fn ∧ (fn.name == "runtime.NumGoroutine") = false ∧ fn.body.isNone = false

/-- What is told of a call. -/
def CallOk (P : Program) (f : FuncId) (args : List AV) (h : Heap) (v : AV) (h' : Heap) (mod : Bool) : Prop :=
  Enters P f ∧ Sta args h h' mod ∧ ∀ (c : Ctx) (vs : Array Value), Sim c h → Free c h h' → VReps c args vs.toList → Calls P f vs c.w fun e w' =>
    ∃ v' c', e = .returned v' ∧ c'.w = w' ∧ Ext c h c' h' ∧ Sim c' h' ∧ VRep c' v v' ∧ (mod = false → Grow c h c' h')

/-- The same, where nothing else is told of than what the callee is given. -/
def Fre (c : Ctx) (h : Heap) : Prop := ∀ id, h.length ≤ id → c.m id = none ∧ ¬ c.dead id

def CallF (P : Program) (f : FuncId) (args : List AV) (h : Heap) (v : AV) (h' : Heap) : Prop :=
  Enters P f ∧ ∀ (c : Ctx) (vs : Array Value), Sim c h → Fre c h → VReps c args vs.toList → Calls P f vs c.w fun e w' =>
    ∃ v' c', e = .returned v' ∧ c'.w = w' ∧ Ext c h c' h' ∧ Sim c' h' ∧ VRep c' v v'

/-- A contract that is true. -/
def ConOk (P : Program) (g : FuncId) (m : Con) : Prop := ∀ (ρ : Type) args h (K : AV → Heap → Bool → Option ρ) (x : ρ), m ρ args h K = some x → ∃ v h' mod, K v h' mod = some x ∧ CallOk P g args h v h' mod

theorem noCon_ok {P : Program} {g : FuncId} : ConOk P g noCon := fun _ _ _ _ _ h => by cases h

structure CallsOk (P : Program) (E : Env) (run : Run) : Prop where
  con : ∀ g m, E.con g = some m → ConOk P g m
  run : ∀ (ρ : Type) g args h (fin : AV × Heap → Option ρ) (x : ρ), E.con g = none → run ρ g args h fin = some x → ∃ r, fin r = some x ∧ CallF P g args h r.1 r.2

theorem Fre.free {c : Ctx} {h h' : Heap} (f : Fre c h) : Free c h h' := fun id h1 _ => f id h1

/-- What it takes for an operation to be told where nothing else is told of. -/
def OpF (P : Program) (s : List AV) (h : Heap) (o : Oper) (v : AV) (h' : Heap) : Prop :=
  ∀ (c : Ctx) (a : Act), Sim c h → Fre c h → Slots c s a → ∀ (next : Act → World → Prop) (Q : Exit → Act → World → Prop),
    (∀ c' v', Ext c h c' h' → Sim c' h' → VRep c' v v' → next (a.put o.dst v') c'.w) → o.wp P a c.w next Q

def ToldF {ρ : Type} (P : Program) (s : List AV) (h : Heap) (o : Oper) (K : AV → Heap → Bool → Option ρ) (x : ρ) : Prop :=
  ∃ v h' mod, K v h' mod = some x ∧ OpF P s h o v h'

theorem Told.weak {ρ : Type} {P : Program} {s : List AV} {h : Heap} {o : Oper} {K : AV → Heap → Bool → Option ρ} {x : ρ} (t : Told P s h o K x) : ToldF P s h o K x := by
  obtain ⟨v, h', mod, hk, ho⟩ := t
  exact ⟨v, h', mod, hk, fun c a hs hf hsl next Q hn => ho.1 c a hs hf.free hsl next Q fun c' v' h1 h2 h3 _ => hn c' v' h1 h2 h3⟩

theorem run_enter {P : Program} {f : FuncId} (h : Enters P f) (args : Array Value) (w : World) : (callFunc f args).run P w = .ok (.enter f args) w := by
  obtain ⟨fn, h1, h2, h3⟩ := h
  have h1' : fn.name ≠ "runtime.NumGoroutine" := by simpa using h2
  cases hb : fn.body with
  | none => simp [hb] at h3
  | some b => simp [callFunc, h1, h1', hb]

section
variable {ρ : Type} {P : Program} {E : Env} {s : List AV} {h : Heap} {o : Oper} {x : ρ} {run : Run}

theorem call_run {c : Go.Call} {f : Operand} (ho : o.op = .call c) (hcal : c.callee = .value f) {g : FuncId} {caps : List AV} (hf : aeval s f = .fn g caps) (hent : Enters P g) {c0 : Ctx} {ac : Act} (hsl : Slots c0 s ac) :
    ∃ vs : Array Value, (execOp ac.eval o).run P c0.w = .ok (.enter g vs) c0.w ∧ VReps c0 (c.args.toList.map (aeval s) ++ caps) vs.toList := by
  have hr := hsl.eval f; rw [hf] at hr
  simp only [VRep] at hr
  obtain ⟨ws, hw, hcaps⟩ := hr
  refine ⟨c.args.map ac.eval ++ ws, ?_, ?_⟩
  · simp [execOp, ho, resolve, hcal, hw, Deferred.ofValue, invoke, run_enter hent]
  · simp only [Array.toList_append, Array.toList_map]
    exact (VReps.of_map hsl _).append hcaps

theorem tells_up {id : Nat} : ∀ (d : Nat) (v : AV), tells id (d + 1) v = true → tells id d v = true := by
  intro d
  induction d with
  | zero => intro v _; simp [tells]
  | succ d ih =>
    intro v h
    have up : ∀ cs : List AV, cs.any (tells id (d + 1)) = true → cs.any (tells id d) = true := fun cs h => by
      obtain ⟨u, hu, h⟩ := List.any_eq_true.1 h
      exact List.any_eq_true.2 ⟨u, hu, ih u h⟩
    cases v <;> first
      | exact up _ h
      | exact h
theorem touch_call {c : Go.Call} {f : Operand} {g : FuncId} {caps : List AV} (ho : o.op = .call c) (hcal : c.callee = .value f) (hf : aeval s f = .fn g caps) {id : Nat} (ht : touch id (opVals s h o.op) = false) : touch id (c.args.toList.map (aeval s) ++ caps) = false := by
  have hall : ∀ v ∈ o.op.operands.toList.map (aeval s), tells id 4 v = false := fun v hv => touch_of ht (mem_vals hv)
  have hops : o.op.operands.toList.map (aeval s) = aeval s f :: c.args.toList.map (aeval s) := by simp [ho, Op.operands, Go.Call.operands, hcal]
  rw [hops, hf] at hall
  cases hq : touch id (c.args.toList.map (aeval s) ++ caps) with
  | false => rfl
  | true =>
    obtain ⟨v, hv, hq⟩ := List.any_eq_true.1 hq
    rcases List.mem_append.1 hv with hv | hv
    · rw [hall v (List.mem_cons_of_mem _ hv)] at hq; cases hq
    · have h1 := hall _ (List.mem_cons_self ..)
      have : tells id 4 (.fn g caps) = true := by simp only [tells]; exact List.any_eq_true.2 ⟨v, hv, tells_up 3 v hq⟩
      rw [this] at h1; cases h1

theorem told_con (hC : CallsOk P E run) {c : Go.Call} {f : Operand} (ho : o.op = .call c) (hcal : c.callee = .value f) {g : FuncId} {caps : List AV} (hf : aeval s f = .fn g caps) {m : Con} (hm : E.con g = some m)
    {K : AV → Heap → Bool → Option ρ} (hk : m ρ (c.args.toList.map (aeval s) ++ caps) h K = some x) : Told P s h o K x := by
  obtain ⟨v, h', mod, hres, hent, hpre, hcall⟩ := hC.con g m hm _ _ _ _ _ hk
  refine ⟨v, h', mod, hres, fun c0 ac hs hfr hsl next Q hn => ?_, hpre.1, hpre.2.1, fun id hid ht => hpre.2.2 id hid (touch_call ho hcal hf ht)⟩
  obtain ⟨vs, hrun, hreps⟩ := call_run ho hcal hf hent hsl
  unfold Oper.wp
  rw [hrun, Oper.upon_enter]
  refine (hcall c0 vs hs hfr hreps).mono ?_
  rintro e w' ⟨v', c', rfl, rfl, h1, h2, h3, h4⟩
  exact hn c' v' h1 h2 h3 h4

theorem told_callD (hC : CallsOk P E run) {c : Go.Call} {f : Operand} (ho : o.op = .call c) (hcal : c.callee = .value f) {g : FuncId} {caps : List AV} (hf : aeval s f = .fn g caps) {K : AV → Heap → Bool → Option ρ}
    (hk : acall E run true g (c.args.toList.map (aeval s) ++ caps) h K = some x) : Told P s h o K x := by
  unfold acall at hk
  split at hk
  · rename_i m hm
    exact told_con hC ho hcal hf hm hk
  · simp at hk

theorem told_callF (hC : CallsOk P E run) {c : Go.Call} {f : Operand} (ho : o.op = .call c) (hcal : c.callee = .value f) {g : FuncId} {caps : List AV} (hf : aeval s f = .fn g caps) {K : AV → Heap → Bool → Option ρ}
    (hk : acall E run false g (c.args.toList.map (aeval s) ++ caps) h K = some x) : ToldF P s h o K x := by
  unfold acall at hk
  split at hk
  · rename_i m hm
    exact (told_con hC ho hcal hf hm hk).weak
  · rename_i hm
    simp only [cond_false] at hk
    obtain ⟨r, hk, hent, hcall⟩ := hC.run _ g _ _ _ _ hm hk
    refine ⟨_, _, _, hk, fun c0 ac hs hfr hsl next Q hn => ?_⟩
    obtain ⟨vs, hrun, hreps⟩ := call_run ho hcal hf hent hsl
    unfold Oper.wp
    rw [hrun, Oper.upon_enter]
    refine (hcall c0 vs hs hfr hreps).mono ?_
    rintro e w' ⟨v', c', rfl, rfl, h1, h2, h3⟩
    exact hn c' v' h1 h2 h3

theorem told_any (hT : TOk P E) {call : Call ρ} {K : AV → Heap → Bool → Option ρ} (hk : aop E call s h o.op K = some x) {T : Prop} (hT' : Told P s h o K x → T)
    (hcall : ∀ (c : Go.Call) (f : Operand) (g : FuncId) (caps : List AV), o.op = .call c → c.callee = .value f → aeval s f = .fn g caps → call g (c.args.toList.map (aeval s) ++ caps) h K = some x → T) : T := by
  generalize hop : o.op = op at hk
  cases op <;> simp only [aop, reduceCtorEq] at hk
  case move y => exact hT' (told_move (.inl hop) hk)
  case assign y => exact hT' (told_move (.inr hop) hk)
  case pick q a b =>
    split at hk
    · rename_i t ht
      exact hT' (told_pick hop ht hk)
    · cases hk
  case alloc t => exact hT' (told_alloc hT hop hk)
  case box t y => exact hT' (told_box hT hop hk)
  case build t ps => exact hT' (told_build hT hop hk)
  case buildSlice t n ps => exact hT' (told_buildSlice hT hop hk)
  case load t y => exact hT' (told_load hT hop hk)
  case store t y z => exact hT' (told_store hT hop hk)
  case nilCheck y => exact hT' (told_nilCheck hop hk)
  case binOp op t y z u => exact hT' (told_binOp hT hop hk)
  case unOp op t y => exact hT' (told_unOp hop hk)
  case convert src dst y => exact hT' (told_convert hT hop hk)
  case makeFunc f fs caps =>
    cases f <;> simp only [reduceCtorEq] at hk
    exact hT' (told_makeFunc hop hk)
  case makeSlice t l m => exact hT' (told_makeSlice hT hop hk)
  case slice t y lo hi mx => exact hT' (told_slice hT hop hk)
  case fieldAddr t y j => exact hT' (told_fieldAddr hT hop hk)
  case field t y j => exact hT' (told_field hT hop hk)
  case indexAddr t y z => exact hT' (told_indexAddr hT hop hk)
  case index t y z => exact hT' (told_index hT hop hk)
  case extract y j => exact hT' (told_extract hop hk)
  case call c =>
    split at hk
    · rename_i b hb
      exact hT' (told_builtin hT hop hb hk)
    · rename_i f hf
      split at hk
      · rename_i g caps hg
        exact hcall c f g caps hop hf hg hk
      · cases hk
    · cases hk

theorem told_op (hT : TOk P E) (hC : CallsOk P E run) {K : AV → Heap → Bool → Option ρ} (hk : aop E (acall E run true) s h o.op K = some x) : Told P s h o K x :=
  told_any hT hk id fun _ _ _ _ h1 h2 h3 h4 => told_callD hC h1 h2 h3 h4

theorem told_opF (hT : TOk P E) (hC : CallsOk P E run) {K : AV → Heap → Bool → Option ρ} (hk : aop E (acall E run false) s h o.op K = some x) : ToldF P s h o K x :=
  told_any hT hk Told.weak fun _ _ _ _ h1 h2 h3 h4 => told_callF hC h1 h2 h3 h4
end
end Go.AM
namespace Go.AM

/-! Soundness: regions in the text's order. -/
theorem Ext.fre {c c' : Ctx} {h h' : Heap} (x : Ext c h c' h') (f : Fre c h) : Fre c' h' := by
  intro id hid
  have hl := x.len
  constructor
  · cases hm : c'.m id with
    | none => rfl
    | some i =>
      have := x.fresh id i hm (f id (by omega)).1
      omega
  · intro hd
    rcases x.dead' id hd with h | h
    · exact (f id (by omega)).2 h
    · omega

section
variable {ρ : Type} {P : Program} {E : Env} {s : List AV} {h : Heap} {o : Oper} {x : ρ} {run : Run}

theorem put_defers (a : Act) (d : Option Tmp) (v : Value) : (a.put d v).defers = a.defers := by cases d <;> rfl

/-- A guard's slot. -/
theorem guard_told {ops : Array Oper} {c : Ctx} {a : Act} (hsl : Slots c s a) {j : Nat} {d : Tmp} (hd : (ops[j]?).bind (·.dst) = some d) {b : Bool} (hb : s.getD d .undef = .bool b) :
    yielded ops a.tmps j = some b := by
  have hr := hsl.2 d
  rw [hb] at hr
  have hr := hr.bool
  unfold yielded
  rw [hd]
  simp only [Array.getD_eq_getD_getElem?] at hr
  cases hq : a.tmps[d]? with
  | none =>
    have : s.length ≤ d := by rw [hsl.1]; simpa using hq
    simp [List.getD, List.getElem?_eq_none this] at hb
  | some v => simp [hq] at hr; simp [hq, hr]

theorem undef_rep (c : Ctx) : VRep c (.tup []) Go.undef := by simp only [VRep]; exact ⟨#[], rfl, by simp [VReps]⟩

theorem guard_tup {ops : Array Oper} {c : Ctx} {a : Act} (hsl : Slots c s a) {j : Nat} {d : Tmp} (hd : (ops[j]?).bind (·.dst) = some d) {vs : List AV} (hb : s.getD d .undef = .tup vs) :
    yielded ops a.tmps j = none := by
  have hr := hsl.2 d
  rw [hb] at hr
  simp only [VRep] at hr
  obtain ⟨ws, hw, _⟩ := hr
  unfold yielded
  rw [hd]
  simp only [Array.getD_eq_getD_getElem?] at hw
  cases hq : a.tmps[d]? with
  | none => simp [hq]
  | some v => simp [hq] at hw; simp [hq, hw]

theorem set_same {d : Nat} {v : AV} (hb : s.getD d .undef = v) (hv : v ≠ .undef) : s.set d v = s := by
  apply List.ext_getElem?
  intro k
  by_cases hk : k = d
  · subst hk
    rcases Nat.lt_or_ge k s.length with hl | hl
    · rw [List.getElem?_set_self hl, ← hb]; simp [List.getD, hl]
    · simp [List.getD, List.getElem?_eq_none hl] at hb; exact absurd hb.symm hv
  · rw [List.getElem?_set_ne (fun e => hk e.symm)]

theorem told_ops (hT : TOk P E) (hC : CallsOk P E run) {ops : Array Oper} : ∀ (l : List Oper) (k : Nat) (ms : List Mk) (st : St) (K : List Mk → St → Option ρ), (∀ i, l[i]? = ops[k + i]?) → aops E (acall E run false) ops l ms st K = some x →
    ∃ ms' st', K ms' st' = some x ∧ ∀ (c : Ctx) (a : Act), Sim c st.h → Fre c st.h → Slots c st.s a → ∀ (Q : Exit → Act → World → Prop),
      (∀ c' a', Ext c st.h c' st'.h → Sim c' st'.h → Slots c' st'.s a' → a'.defers = a.defers → Q .normal a' c'.w) → wpOps P ops Q (List.range' k l.length) a c.w
  | [], k, ms, st, K, _, hk => by
    simp only [aops] at hk
    exact ⟨ms, st, hk, fun c a hs hf hsl Q hq => hq c a (Ext.refl _ _) hs hsl rfl⟩
  | o :: l, k, ms, st, K, hl, hk => by
    have ho : ops[k]? = some o := by have := hl 0; simpa using this.symm
    have hl' : ∀ i, l[i]? = ops[k + 1 + i]? := fun i => by
      have := hl (i + 1)
      rw [List.getElem?_cons_succ] at this
      rw [this]; congr 1; omega
    -- one operation that is done
    have one : (∀ (c : Ctx) (a : Act), Slots c st.s a → Region.wanted o (yielded ops a.tmps) = true) → (aop E (acall E run false) st.s st.h o.op fun v h m => aops E (acall E run false) ops l (ms ++ [⟨m, opVals st.s st.h o.op, lookOf st.s o.op⟩]) ⟨putSlot st.s o.dst v, h⟩ K) = some x →
        ∃ ms' st', K ms' st' = some x ∧ ∀ (c : Ctx) (a : Act), Sim c st.h → Fre c st.h → Slots c st.s a → ∀ (Q : Exit → Act → World → Prop),
        (∀ c' a', Ext c st.h c' st'.h → Sim c' st'.h → Slots c' st'.s a' → a'.defers = a.defers → Q .normal a' c'.w) → wpOps P ops Q (List.range' k (l.length + 1)) a c.w := by
      intro hw hk
      obtain ⟨v, h', m, hk2, hop⟩ := told_opF hT hC hk
      obtain ⟨ms', st', hK, hrest⟩ := told_ops hT hC l (k + 1) _ _ K hl' hk2
      refine ⟨ms', st', hK, fun c a hs hf hsl Q hq => ?_⟩
      rw [List.range'_succ, wpOps_cons]
      unfold wpOp
      simp only [ho, hw c a hsl, if_true]
      refine .inl (hop c a hs hf hsl _ Q fun c1 v' e1 s1 r1 => ?_)
      refine hrest c1 (a.put o.dst v') s1 (e1.fre hf) ((hsl.mono e1.tells).put _ r1) Q fun c' a' e2 s2 r2 d2 => ?_
      exact hq c' a' (e1.trans e2) s2 r2 (d2.trans (put_defers _ _ _))
    simp only [aops] at hk
    split at hk
    · rename_i hg
      exact one (fun c a _ => by simp [Region.wanted, hg]) hk
    · rename_i j want hg
      split at hk
      · rename_i d hd
        split at hk
        · rename_i b hb
          by_cases hbw : b = want
          · subst hbw
            have hset : st.s.set d (.bool b) = st.s := set_same hb (by simp)
            have hcond : (bif b then b else !b) = true := by cases b <;> rfl
            rw [hcond] at hk
            simp only [cond_true, hset] at hk
            exact one (fun c a hsl => by simp [Region.wanted, hg, guard_told hsl hd hb]) hk
          · have hset : st.s.set d (.bool !want) = st.s := by
              have : b = !want := by cases b <;> cases want <;> simp_all
              rw [← this]; exact set_same hb (by simp)
            have hcond : (bif want then b else !b) = false := by cases b <;> cases want <;> simp_all
            rw [hcond] at hk
            simp only [cond_false, hset] at hk
            obtain ⟨ms', st', hK, hrest⟩ := told_ops hT hC l (k + 1) _ _ K hl' hk
            refine ⟨ms', st', hK, fun c a hs hf hsl Q hq => ?_⟩
            rw [List.length_cons, List.range'_succ, wpOps_cons]
            unfold wpOp
            have hw : Region.wanted o (yielded ops a.tmps) = false := by
              simp [Region.wanted, hg, guard_told hsl hd hb, hbw]
            simp only [ho, hw, Bool.false_eq_true, if_false]
            refine hrest c (a.put o.dst Go.undef) hs hf (hsl.put _ (undef_rep c)) Q fun c' a' e2 s2 r2 d2 => ?_
            exact hq c' a' e2 s2 r2 (d2.trans (put_defers _ _ _))
        · rename_i vs hb
          obtain ⟨ms', st', hK, hrest⟩ := told_ops hT hC l (k + 1) _ _ K hl' hk
          refine ⟨ms', st', hK, fun c a hs hf hsl Q hq => ?_⟩
          rw [List.length_cons, List.range'_succ, wpOps_cons]
          unfold wpOp
          have hw : Region.wanted o (yielded ops a.tmps) = false := by
            simp [Region.wanted, hg, guard_tup hsl hd hb]
          simp only [ho, hw, Bool.false_eq_true, if_false]
          refine hrest c (a.put o.dst Go.undef) hs hf (hsl.put _ (undef_rep c)) Q fun c' a' e2 s2 r2 d2 => ?_
          exact hq c' a' e2 s2 r2 (d2.trans (put_defers _ _ _))
        · cases hk
      · cases hk
end
end Go.AM
namespace Go.AM

/-! Soundness: states renamed. -/
theorem findIx_get : ∀ {l : List Nat} {id k j : Nat}, findIx id l k = some j → k ≤ j ∧ l[j - k]? = some id
  | [], id, k, j, h => by simp [findIx] at h
  | x :: l, id, k, j, h => by
    simp only [findIx] at h
    by_cases hx : x = id
    · simp only [hx, BEq.rfl, cond_true, Option.some.injEq] at h
      subst h; subst hx
      exact ⟨Nat.le_refl _, by simp⟩
    · have : (x == id) = false := by simpa using hx
      simp only [this, cond_false] at h
      obtain ⟨h1, h2⟩ := findIx_get h
      refine ⟨by omega, ?_⟩
      rw [show j - k = j - (k + 1) + 1 by omega]; simpa using h2

/-- What a renaming keeps. -/
structure Renames (c c2 : Ctx) (r : Nat → Option Nat) : Prop where
  m : ∀ id id', r id = some id' → c2.m id' = c.m id
  dead : ∀ id id', r id = some id' → c.dead id → c2.dead id'
  pr : c2.pr = c.pr
  w : c2.w = c.w

theorem ren_reps {c c2 : Ctx} {f : AV → AV} (hf : ∀ a v, VRep c a v → VRep c2 (f a) v) : ∀ {as : List AV} {vs : List Value}, VReps c as vs → VReps c2 (as.map f) vs
  | [], [], _ => by simp [VReps]
  | a :: as, v :: vs, h => by simp only [VReps, List.map_cons] at h ⊢; exact ⟨hf a v h.1, ren_reps hf h.2⟩
  | [], _ :: _, h => by simp [VReps] at h
  | _ :: _, [], h => by simp [VReps] at h

theorem ren_rep {c c2 : Ctx} {r : Nat → Option Nat} (hr : Renames c c2 r) : ∀ (d : Nat) (a : AV) (v : Value), VRep c a v → VRep c2 (ren r d a) v
  | 0, a, v, _ => by simp [ren, VRep]
  | d + 1, a, v, h => by
    have hpr := hr.pr
    have hw := hr.w
    cases a with
    | undef => simp [ren, VRep]
    | int k n => simpa [ren, VRep] using h
    | bool b => simpa [ren, VRep] using h
    | str s => simpa [ren, VRep] using h
    | nilp => simpa [ren, VRep] using h
    | nils => simpa [ren, VRep] using h
    | fn f cs =>
      simp only [ren, VRep] at h ⊢
      obtain ⟨ws, hv, hc⟩ := h
      exact ⟨ws, hv, ren_reps (ren_rep hr d) hc⟩
    | agg cs =>
      simp only [ren, VRep] at h ⊢
      obtain ⟨ws, hv, hc⟩ := h
      exact ⟨ws, hv, ren_reps (ren_rep hr d) hc⟩
    | tup cs =>
      simp only [ren, VRep] at h ⊢
      obtain ⟨ws, hv, hc⟩ := h
      exact ⟨ws, hv, ren_reps (ren_rep hr d) hc⟩
    | tv t x => simp only [ren, VRep] at h ⊢; rw [hpr, hw]; exact h
    | tp t x sub => simp only [ren, VRep] at h ⊢; rw [hpr, hw]; exact h
    | bp cs sub =>
      simp only [ren, VRep] at h ⊢
      obtain ⟨b, o, ws, hv, hp, hl, hc⟩ := h
      exact ⟨b, o, ws, hv, by rw [hpr]; exact hp, by rw [hw]; exact hl, ren_reps (ren_rep hr d) hc⟩
    | ptr id i j =>
      simp only [ren]
      cases hid : r id with
      | none => simp [VRep]
      | some id' =>
        simp only [VRep, ptrRep] at h ⊢
        refine ⟨h.1, ?_⟩
        rcases h.2 with hd | ⟨inf, hi, hrest⟩
        · exact .inl (hr.dead _ _ hid hd)
        · exact .inr ⟨inf, (hr.m _ _ hid).trans hi, hrest⟩
    | sl id =>
      simp only [ren]
      cases hid : r id with
      | none => simp [VRep]
      | some id' =>
        simp only [VRep, slRep] at h ⊢
        refine ⟨h.1, ?_⟩
        rcases h.2 with hd | ⟨inf, hi, hrest⟩
        · exact .inl (hr.dead _ _ hid hd)
        · rw [hw]; exact .inr ⟨inf, (hr.m _ _ hid).trans hi, hrest⟩
    | ss id off n =>
      simp only [ren]
      cases hid : r id with
      | none => simp [VRep]
      | some id' =>
        simp only [VRep, ssRep] at h ⊢
        refine ⟨h.1, ?_⟩
        rcases h.2 with hd | ⟨inf, hi, hrest⟩
        · exact .inl (hr.dead _ _ hid hd)
        · rw [hw]; exact .inr ⟨inf, (hr.m _ _ hid).trans hi, hrest⟩
    | dp id i j =>
      simp only [ren]
      cases hid : r id with
      | none => simp [VRep]
      | some id' =>
        simp only [VRep, dpRep] at h ⊢
        refine ⟨h.1, ?_⟩
        rcases h.2 with hd | ⟨inf, hi, hrest⟩
        · exact .inl (hr.dead _ _ hid hd)
        · exact .inr ⟨inf, (hr.m _ _ hid).trans hi, hrest⟩

theorem ren_shape (r : Nat → Option Nat) (d : Nat) (a : AV) : (ren r (d + 1) a).isAgg = a.isAgg ∧ (ren r (d + 1) a).size = a.size := by
  cases a <;> simp only [ren] <;> first | exact ⟨rfl, rfl⟩ | exact ⟨trivial, trivial⟩ | skip
  case agg cs => exact ⟨rfl, by simp [AV.size]⟩
  case ptr id i j => cases r id <;> exact ⟨rfl, rfl⟩
  case sl id => cases r id <;> exact ⟨rfl, rfl⟩
  case ss id off n => cases r id <;> exact ⟨rfl, rfl⟩
  case dp id off n => cases r id <;> exact ⟨rfl, rfl⟩

theorem ren_cells {c c2 : Ctx} {r : Nat → Option Nat} (hr : Renames c c2 r) (d : Nat) (a : AV) (vs : List Value) (h : VReps c a.cells vs) : VReps c2 (ren r (d + 1) a).cells vs := by
  cases hg : a.isAgg with
  | false =>
    have h1 : (ren r (d + 1) a).isAgg = false := by rw [(ren_shape r d a).1, hg]
    rw [AV.cells_one hg] at h
    rw [AV.cells_one h1]
    obtain ⟨u, rfl, hu⟩ := h.one_of
    simpa [VReps] using ren_rep hr (d + 1) a u hu
  | true =>
    cases a <;> simp [AV.isAgg] at hg
    case agg cs =>
      simp only [ren, AV.cells] at h ⊢
      exact ren_reps (ren_rep hr d) h
    case tv t x =>
      simp only [ren, AV.cells, hg, cond_true] at h ⊢
      have := CellsRep.of_vreps h
      rw [← hr.pr, ← hr.w] at this
      exact this.vreps

theorem ren_cont {c c2 : Ctx} {r : Nat → Option Nat} (hr : Renames c c2 r) {ct : Cont} {L : List (List Value)} (h : ContV c ct L) : ContV c2 (renC r 3 ct) L ∧ (renC r 3 ct).len = ct.len ∧ (renC r 3 ct).es = ct.es := by
  cases ct with
  | typed e xs =>
    refine ⟨?_, rfl, rfl⟩
    show All2 (ElemT c2 e) xs L
    refine All2.mono (fun x vs hx => ?_) h
    unfold ElemT at *
    rw [hr.pr, hr.w]; exact hx
  | deep fx e xs => exact ⟨h, rfl, rfl⟩
  | raw a es d xs =>
    refine ⟨⟨by rw [(ren_shape r 2 d).1]; exact h.1, by rw [(ren_shape r 2 d).2]; exact h.2.1, ?_⟩, by simp [renC, Cont.len], rfl⟩
    have : ∀ {xs : List AV} {L : List (List Value)}, All2 (ElemR c a es) xs L → All2 (ElemR c2 a es) (xs.map (ren r 3)) L := by
      intro xs
      induction xs with
      | nil => intro L h; cases L with
        | nil => trivial
        | cons _ _ => exact absurd h (by simp [All2])
      | cons x xs ih => intro L h; cases L with
        | nil => exact absurd h (by simp [All2])
        | cons vs L =>
          obtain ⟨⟨h1, h2, h3, h4, h5⟩, hrest⟩ := h
          exact ⟨⟨by rw [(ren_shape r 2 x).1]; exact h1, by rw [(ren_shape r 2 x).2]; exact h2, h3, ren_cells hr 2 x vs h4, h5⟩, ih hrest⟩
    exact this h.2.2

/-- Roots are told once each, and are there, but for what was seen ahead. -/
theorem roots_ok (h : Heap) (s0 : List Nat) : ∀ (n : Nat) (seen todo : List Nat), seen.Nodup → (∀ x ∈ seen, x ∈ s0 ∨ ∃ o, hget h x = some o) → (roots h n seen todo).Nodup ∧ ∀ x ∈ roots h n seen todo, x ∈ s0 ∨ ∃ o, hget h x = some o
  | 0, seen, todo, h1, h2 => by simp only [roots]; exact ⟨h1, h2⟩
  | n + 1, seen, [], h1, h2 => by simp only [roots]; exact ⟨h1, h2⟩
  | n + 1, seen, x :: todo, h1, h2 => by
    simp only [roots]
    cases hc : seen.contains x with
    | true => simp only [cond_true]; exact roots_ok h s0 n seen todo h1 h2
    | false =>
      simp only [cond_false]
      have hx : x ∉ seen := by simpa using hc
      split
      · rename_i o ho
        refine roots_ok h s0 n _ _ ?_ ?_
        · rw [List.nodup_append]; exact ⟨h1, by simp, by intro a ha b hb; simp at hb; subst hb; exact fun e => hx (e ▸ ha)⟩
        · intro y hy
          rcases List.mem_append.1 hy with hy | hy
          · exact h2 y hy
          · simp at hy; subst hy; exact .inr ⟨o, ho⟩
      · exact roots_ok h s0 n seen todo h1 h2

/-- What was seen ahead stands ahead. -/
theorem roots_pre (h : Heap) : ∀ (n : Nat) (seen todo : List Nat), ∃ l, roots h n seen todo = seen ++ l
  | 0, seen, todo => ⟨[], by simp [roots]⟩
  | n + 1, seen, [] => ⟨[], by simp [roots]⟩
  | n + 1, seen, x :: todo => by
    simp only [roots]
    cases seen.contains x with
    | true => simp only [cond_true]; exact roots_pre h n seen todo
    | false =>
      simp only [cond_false]
      split
      · rename_i o ho
        obtain ⟨l, hl⟩ := roots_pre h n (seen ++ [x]) (refsC o.c ++ todo)
        exact ⟨_, hl.trans (List.append_assoc _ _ _)⟩
      · exact roots_pre h n seen todo

structure Stt (c : Ctx) (st : St) (a : Act) : Prop where
  sim : Sim c st.h
  fre : Fre c st.h
  slots : Slots c st.s a

theorem canon_ok {c : Ctx} {st : St} {a : Act} (hst : Stt c st a) (p : Nat) (live : List Nat) : ∃ c2, c2.w = c.w ∧ Was c st.h c2 (canon p live st).h ∧ Stt c2 (canon p live st) a ∧ ∀ id, id < p → c2.m id = c.m id := by
  obtain ⟨hs, hf, hsl⟩ := hst
  generalize hsrc : roots st.h 64 (List.range p) (live.flatMap fun t => refs 3 (st.s.getD t .undef)) = src
  obtain ⟨hnd, hthere⟩ : src.Nodup ∧ ∀ x ∈ src, x ∈ List.range p ∨ ∃ o, hget st.h x = some o := by rw [← hsrc]; exact roots_ok _ (List.range p) _ _ _ List.nodup_range (fun x hx => .inl hx)
  have hpin : ∀ id, id < p → src[id]? = some id := fun id hid => by
    obtain ⟨l, hl⟩ := roots_pre st.h 64 (List.range p) (live.flatMap fun t => refs 3 (st.s.getD t .undef))
    rw [hsrc] at hl
    rw [hl, List.getElem?_append_left (by simpa using hid)]
    simp [hid]
  have hcan : canon p live st = ⟨(List.range st.s.length).map fun t => bif live.contains t then ren (fun x => findIx x src 0) 3 (st.s.getD t .undef) else .undef, srcHeap st.h src⟩ := by
    unfold canon; simp only [hsrc]
  let c2 : Ctx := { c with m := fun k => (src[k]?).bind c.m, dead := fun k => ∃ id, src[k]? = some id ∧ c.dead id, own := fun k b => ∃ id, src[k]? = some id ∧ c.own id b }
  have hren : Renames c c2 (fun x => findIx x src 0) := by
    refine ⟨fun id id' h => ?_, fun id id' h hd => ?_, rfl, rfl⟩
    · have := (findIx_get h).2
      simp only [Nat.sub_zero] at this
      simp [c2, this]
    · have := (findIx_get h).2
      simp only [Nat.sub_zero] at this
      exact ⟨id, this, hd⟩
  have hlen : (srcHeap st.h src).length = src.length := by simp [srcHeap]
  have hidlt : ∀ {x : Nat} {i : Info}, c.m x = some i → x < st.h.length := fun {x i} h => by
    rcases Nat.lt_or_ge x st.h.length with hl | hl
    · exact hl
    · rw [(hf x hl).1] at h; cases h
  have hget2 : ∀ {id x : Nat}, src[id]? = some x → hget (srcHeap st.h src) id = (hget st.h x).map (renO fun x => findIx x src 0) := fun {id x} h => by
    simp [hget, srcHeap, List.getD, h]
  have hm2 : ∀ {id : Nat} {i : Info}, c2.m id = some i → ∃ x, src[id]? = some x ∧ c.m x = some i := fun {id i} h => by
    simp only [c2, Option.bind_eq_some_iff] at h; exact h
  have hnd2 : ∀ {id x : Nat}, src[id]? = some x → ¬ c2.dead id → ¬ c.dead x := fun {id x} h hd hc => hd ⟨x, h, hc⟩
  have hone : ∀ {id id' x : Nat}, src[id]? = some x → src[id']? = some x → id = id' := fun {id id' x} hx hy => by
      obtain ⟨l1, e1⟩ := List.getElem?_eq_some_iff.1 hx
      obtain ⟨l2, e2⟩ := List.getElem?_eq_some_iff.1 hy
      rcases Nat.lt_trichotomy id id' with hlt | heq | hgt
      · exact absurd (e1.trans e2.symm) (List.pairwise_iff_getElem.1 hnd id id' l1 l2 hlt)
      · exact heq
      · exact absurd (e2.trans e1.symm) (List.pairwise_iff_getElem.1 hnd id' id l2 l1 hgt)
  refine ⟨c2, rfl, ?_, ?_, fun id hid => by simp [c2, hpin id hid]⟩
  · rw [hcan]
    refine ⟨fun _ h => h, Nat.le_refl _, fun _ _ => rfl, fun _ _ h => h, fun _ _ _ => rfl, ?_, fun _ h => .inl h, rfl, rfl, rfl⟩
    rintro b ⟨id, _, hd, ⟨x, hx, ho⟩ | ⟨i, hi, hl, hb⟩⟩
    · refine .inr ⟨x, ?_, hnd2 hx hd, .inl ho⟩
      cases hc : c.m x with
      | none => exact absurd hc (hs.own.told x b ho)
      | some i => exact hidlt hc
    · obtain ⟨x, hx, hi'⟩ := hm2 hi
      exact .inr ⟨x, hidlt hi', hnd2 hx hd, .inr ⟨i, hi', hl, hb⟩⟩
  · rw [hcan]
    refine ⟨⟨?_, ?_, ?_, ?_, hs.plow, ?_, ⟨?_, ?_, ?_, ?_, ?_⟩, ?_⟩, ?_, ⟨by simp [hsl.1], fun t => ?_⟩⟩
    · intro id i hid hi hd
      obtain ⟨x, hx, hi'⟩ := hm2 hi
      obtain ⟨o, ho, rep⟩ := hs.obj x i (hidlt hi') hi' (hnd2 hx hd)
      refine ⟨renO (fun x => findIx x src 0) o, by rw [hget2 hx, ho]; rfl, ?_⟩
      obtain ⟨L, hL, hlies⟩ := contRep_iff.1 rep.cont
      obtain ⟨h1, h2, h3⟩ := ren_cont hren hL
      exact ⟨by rw [rep.len]; exact h2.symm, by rw [rep.es]; exact h3.symm, rep.pos, rep.full, rep.loc, rep.blk, contRep_iff.2 ⟨L, h1, hlies⟩⟩
    · rintro id hid ⟨x, hx, hd⟩
      have hxl : x < st.h.length := by
        rcases Nat.lt_or_ge x st.h.length with hl | hl
        · exact hl
        · exact absurd hd (hf x hl).2
      rw [hget2 hx, hs.gone x hxl hd]; rfl
    · intro id i hi hd hl
      obtain ⟨x, hx, hi'⟩ := hm2 hi
      exact hs.low x i hi' (hnd2 hx hd) hl
    · intro id id' i i' hi hi' hd hd' hl hl' hb
      obtain ⟨x, hx, h1⟩ := hm2 hi
      obtain ⟨y, hy, h2⟩ := hm2 hi'
      have hxy := hs.inj x y i i' h1 h2 (hnd2 hx hd) (hnd2 hy hd') hl hl' hb
      subst hxy
      exact hone hx hy
    · intro id i hi hd hl
      obtain ⟨x, hx, hi'⟩ := hm2 hi
      exact hs.apart x i hi' (hnd2 hx hd) hl
    · rintro id b hd ⟨x, hx, ho⟩
      exact hs.own.low x b (hnd2 hx hd) ho
    · rintro id id' b hd hd' ⟨x, hx, ho⟩ ⟨y, hy, ho'⟩
      have hxy := hs.own.inj x y b (hnd2 hx hd) (hnd2 hy hd') ho ho'
      subst hxy
      exact hone hx hy
    · rintro id id' i hd hd' hi hl ⟨x, hx, ho⟩
      obtain ⟨y, hy, hi'⟩ := hm2 hi
      exact hs.own.row x y i (hnd2 hx hd) (hnd2 hy hd') hi' hl ho
    · rintro id b hd ⟨x, hx, ho⟩
      exact hs.own.apart x b (hnd2 hx hd) ho
    · rintro id b ⟨x, hx, ho⟩
      have := hs.own.told x b ho
      simp only [c2, hx, Option.bind_some]; exact this
    · intro id i fx e xs f hid hi hd hg
      obtain ⟨x, hx, hi'⟩ := hm2 hi
      rw [hget2 hx, Option.map_eq_some_iff] at hg
      obtain ⟨⟨ct, fl⟩, ho, hg⟩ := hg
      cases ct with
      | deep fx' e' xs' =>
        simp only [renO, renC, Obj.mk.injEq, Cont.deep.injEq] at hg
        obtain ⟨⟨rfl, rfl, he⟩, rfl⟩ := hg
        cases he
        exact (hs.deep x i fx' e' xs' fl (hidlt hi') hi' (hnd2 hx hd) ho).mono (fun b hb => ⟨x, hx, hb⟩) (fun _ _ => rfl) (fun _ => rfl)
      | typed e' xs' => simp [renO, renC] at hg
      | raw a' es' d' xs' => simp [renO, renC] at hg
    · intro id hid
      rw [hlen] at hid
      have : src[id]? = none := List.getElem?_eq_none hid
      refine ⟨by simp [c2, this], ?_⟩
      rintro ⟨x, hx, _⟩
      rw [this] at hx; cases hx
    · rcases Nat.lt_or_ge t st.s.length with ht | ht
      · simp only [List.getD, List.getElem?_map, List.getElem?_range ht, Option.map_some, Option.getD_some]
        cases live.contains t with
        | false => simp [VRep]
        | true => exact ren_rep hren 3 _ _ (hsl.2 t)
      · have : ((List.range st.s.length).map fun t => bif live.contains t then ren (fun x => findIx x src 0) 3 (st.s.getD t .undef) else .undef)[t]? = none := List.getElem?_eq_none (by simpa using ht)
        rw [List.getD_eq_getElem?_getD, this]; simp [VRep]
end Go.AM
namespace Go.AM

/-! Soundness: code. -/
def Out.ex : Out → Exit
  | .normal => .normal
  | .exit i => .exit i
  | .ret => .ret

/-- From a state on: numbers too, where no state is renamed. -/
def Since (lv : Bool) (p : Nat) (c : Ctx) (h : Heap) (c' : Ctx) (h' : Heap) : Prop := Was c h c' h' ∧ (lv = false → Ext c h c' h') ∧ ∀ id i, id < p → c.m id = some i → c'.m id = some i

theorem Since.refl (lv : Bool) (p : Nat) (c : Ctx) (h : Heap) : Since lv p c h c h := ⟨Was.refl c h, fun _ => Ext.refl c h, fun _ _ _ h => h⟩
theorem Since.trans {lv : Bool} {p : Nat} {c c1 c2 : Ctx} {h h1 h2 : Heap} (x : Since lv p c h c1 h1) (y : Since lv p c1 h1 c2 h2) : Since lv p c h c2 h2 := ⟨x.1.trans y.1, fun e => (x.2.1 e).trans (y.2.1 e), fun id i hid hi => y.2.2 id i hid (x.2.2 id i hid hi)⟩
theorem Ext.since {lv : Bool} {p : Nat} {c c' : Ctx} {h h' : Heap} (x : Ext c h c' h') : Since lv p c h c' h' := ⟨x.toWas, fun _ => x, fun id i _ hi => x.m id i hi⟩

/-- What is told of a region whose order is drawn. -/
def RegOk (P : Program) (E : Env) (run : Run) : Prop := ∀ (ρ : Type) (id : Nat) (ops : Array Oper) (st : St) (K : St → Option ρ) (x : ρ), aregion E (acall E run) ops true st K = some x →
  ∃ st', K st' = some x ∧ ∀ c a, Stt c st a → ∀ Q, (∀ c' a', Ext c st.h c' st'.h → Stt c' st' a' → a'.defers = a.defers → Q .normal a' c'.w) → (Code.region id ops true).wp P Q a c.w

section
variable {ρ : Type} {P : Program} {E : Env} {x : ρ} {run : Run}

/-- What a piece of code comes to. -/
def ToldC (P : Program) (lv : Bool) (p : Nat) (code : Code) (st : St) (K : Out → St → Option ρ) (x : ρ) : Prop :=
  ∃ out st', K out st' = some x ∧ ∀ c a, Stt c st a → ∀ Q, (∀ c' a', Since lv p c st.h c' st'.h → Stt c' st' a' → a'.defers = a.defers → Q out.ex a' c'.w) → code.wp P Q a c.w

theorem enter_ok {f : FuncId} {n : Nat} {b : Code} {st : St} {K : St → Option ρ} {lv : Bool} (hlv : lv = false → ∀ r, E.live f r = none) (hk : enter E f n b st K = some x) :
    ∃ st', K st' = some x ∧ ∀ c a, Stt c st a → ∃ c', c'.w = c.w ∧ Since lv (pinsOf E f) c st.h c' st'.h ∧ Stt c' st' a := by
  unfold enter at hk
  cases hq : (firstJ b).bind (E.live f) with
  | none => rw [hq] at hk; exact ⟨st, hk, fun c a hst => ⟨c, rfl, Since.refl _ _ _ _, hst⟩⟩
  | some live =>
    rw [hq] at hk
    have hk : K (canon (pinsOf E f) live st) = some x := by cases n with
      | zero => cases hk
      | succ n => exact hk
    refine ⟨canon (pinsOf E f) live st, hk, fun c a hst => ?_⟩
    obtain ⟨c2, hw, h1, h2, h3⟩ := canon_ok hst (pinsOf E f) live
    refine ⟨c2, hw, ⟨h1, fun e => ?_, fun id i hid hi => by rw [h3 id hid]; exact hi⟩, h2⟩
    obtain ⟨r, _, hr⟩ := Option.bind_eq_some_iff.1 hq
    rw [hlv e r] at hr; cases hr

theorem prune_ok {f : FuncId} {b : Code} {st : St} {lv : Bool} (hlv : lv = false → ∀ r, E.live f r = none) : ∀ c a, Stt c st a → ∃ c', c'.w = c.w ∧ Since lv (pinsOf E f) c st.h c' (prune E f b st).h ∧ Stt c' (prune E f b st) a := by
  intro c a hst
  unfold prune
  cases hq : (first b).bind (E.live f) with
  | none => exact ⟨c, rfl, Since.refl _ _ _ _, hst⟩
  | some live =>
    obtain ⟨c2, hw, h1, h2, h3⟩ := canon_ok hst (pinsOf E f) live
    refine ⟨c2, hw, ⟨h1, fun e => ?_, fun id i hid hi => by rw [h3 id hid]; exact hi⟩, h2⟩
    obtain ⟨r, _, hr⟩ := Option.bind_eq_some_iff.1 hq
    rw [hlv e r] at hr; cases hr

theorem then_ex {next : Act → World → Prop} {Q : Exit → Act → World → Prop} {out : Out} (h : out ≠ .normal) (a : Act) (w : World) : Exit.then next Q out.ex a w = Q out.ex a w := by
  cases out <;> first | exact absurd rfl h | rfl

theorem told_loop {lv : Bool} {f : FuncId} {b : Code} {body : St → (Out → St → Option ρ) → Option ρ} (hlv : lv = false → ∀ r, E.live f r = none) (hb : ∀ st K, body st K = some x → ToldC P lv (pinsOf E f) b st K x) :
    ∀ (m : Nat) (st : St) (K : Out → St → Option ρ), aloop (prune E f b) body m st K = some x →
      ∃ out st', K out st' = some x ∧ ∀ c a, Stt c st a → ∀ Q, (∀ c' a', Since lv (pinsOf E f) c st.h c' st'.h → Stt c' st' a' → a'.defers = a.defers → Q out.ex a' c'.w) → Code.rounds P b Q m a c.w
  | 0, st, K, hk => by simp [aloop] at hk
  | m + 1, st, K, hk => by
    simp only [aloop] at hk
    obtain ⟨out, st1, hK, hw⟩ := hb _ _ hk
    have other : out ≠ .normal → K out st1 = some x → ∃ out st', K out st' = some x ∧ ∀ c a, Stt c st a → ∀ Q, (∀ c' a', Since lv (pinsOf E f) c st.h c' st'.h → Stt c' st' a' → a'.defers = a.defers → Q out.ex a' c'.w) → Code.rounds P b Q (m + 1) a c.w := by
      intro hne hK
      refine ⟨out, st1, hK, fun c a hst Q hq => ?_⟩
      rw [rounds_succ]
      refine hw c a hst _ fun c' a' h1 h2 h3 => ?_
      rw [then_ex hne]
      exact hq c' a' h1 h2 h3
    cases out with
    | normal =>
      simp only at hK
      obtain ⟨out2, st2, hK2, hw2⟩ := told_loop hlv hb m _ K hK
      refine ⟨out2, st2, hK2, fun c a hst Q hq => ?_⟩
      rw [rounds_succ]
      refine hw c a hst _ fun c' a' h1 h2 h3 => ?_
      obtain ⟨c2, hw', g1, g2⟩ := prune_ok (b := b) hlv c' a' h2
      show Code.rounds P b Q m a' c'.w
      rw [← hw']
      exact hw2 c2 a' g2 Q fun c3 a3 k1 k2 k3 => hq c3 a3 (h1.trans (g1.trans k1)) k2 (k3.trans h3)
    | exit i => exact other (by simp) hK
    | ret => exact other (by simp) hK

theorem known_same {s : List AV} {c : Operand} {b : Bool} (h : aeval s c = .bool b) : known s c b = s := by
  cases c with
  | tmp t => exact set_same h (by simp)
  | _ => rfl

theorem told_exec (hT : TOk P E) (hC : CallsOk P E run) (hR : RegOk P E run) {lv : Bool} {f : FuncId} (hlv : lv = false → ∀ r, E.live f r = none) (n : Nat) : ∀ (code : Code) (st : St) (K : Out → St → Option ρ), aexec E f (acall E run) n code st K = some x → ToldC P lv (pinsOf E f) code st K x := by
  intro code
  induction code with
  | skip =>
    intro st K hk
    exact ⟨.normal, st, hk, fun c a hst Q hq => wp_skip (hq c a (Since.refl _ _ _ _) hst rfl)⟩
  | region id ops draw =>
    intro st K hk
    cases draw with
    | true =>
      obtain ⟨st', hK, hw⟩ := hR ρ id ops st _ x hk
      exact ⟨.normal, st', hK, fun c a hst Q hq => hw c a hst Q fun c' a' h1 h2 h3 => hq c' a' h1.since h2 h3⟩
    | false =>
      simp only [aexec, aregion] at hk
      obtain ⟨ms, st', hK, hw⟩ := told_ops hT hC (ops := ops) ops.toList 0 [] st _ (fun i => by simp) hk
      simp only [Bool.not_false, Bool.true_or, cond_true] at hK
      refine ⟨.normal, st', hK, fun c a hst Q hq => wp_region ?_⟩
      have := hw c a hst.sim hst.fre hst.slots Q fun c' a' h1 h2 h3 h4 => hq c' a' h1.since ⟨h2, h1.fre hst.fre, h3⟩ h4
      rwa [Array.length_toList, ← List.range_eq_range'] at this
  | seq a b iha ihb =>
    intro st K hk
    simp only [aexec] at hk
    obtain ⟨out, st1, hK, hw⟩ := iha _ _ hk
    cases out with
    | normal =>
      simp only [seqK] at hK
      obtain ⟨st2, hK2, he⟩ := enter_ok hlv hK
      obtain ⟨out3, st3, hK3, hw3⟩ := ihb _ _ hK2
      refine ⟨out3, st3, hK3, fun c ac hst Q hq => wp_seq (hw c ac hst _ fun c' a' h1 h2 h3 => ?_)⟩
      obtain ⟨c2, hww, g1, g2⟩ := he c' a' h2
      show b.wp P Q a' c'.w
      rw [← hww]
      exact hw3 c2 a' g2 Q fun c3 a3 k1 k2 k3 => hq c3 a3 (h1.trans (g1.trans k1)) k2 (k3.trans h3)
    | exit i => exact ⟨.exit i, st1, hK, fun c ac hst Q hq => wp_seq (hw c ac hst _ fun c' a' h1 h2 h3 => hq c' a' h1 h2 h3)⟩
    | ret => exact ⟨.ret, st1, hK, fun c ac hst Q hq => wp_seq (hw c ac hst _ fun c' a' h1 h2 h3 => hq c' a' h1 h2 h3)⟩
  | cond c x y ihx ihy =>
    intro st K hk
    simp only [aexec] at hk
    split at hk
    · rename_i b hb
      cases b with
      | true =>
        simp only [cond_true, known_same hb] at hk
        obtain ⟨out, st1, hK, hw⟩ := ihx _ _ hk
        refine ⟨out, st1, hK, fun c0 a hst Q hq => wp_cond_true ?_ (hw c0 a hst Q hq)⟩
        have := hst.slots.eval c; rw [hb] at this; exact this.bool
      | false =>
        simp only [cond_false, known_same hb] at hk
        obtain ⟨out, st1, hK, hw⟩ := ihy _ _ hk
        refine ⟨out, st1, hK, fun c0 a hst Q hq => wp_cond_false ?_ (hw c0 a hst Q hq)⟩
        have := hst.slots.eval c; rw [hb] at this; exact this.bool
    · cases hk
  | block id b ih =>
    intro st K hk
    simp only [aexec] at hk
    obtain ⟨out, st1, hK, hw⟩ := ih _ _ hk
    cases out with
    | normal => exact ⟨.normal, st1, hK, fun c ac hst Q hq => wp_block (hw c ac hst _ fun c' a' h1 h2 h3 => hq c' a' h1 h2 h3)⟩
    | exit i =>
      simp only [blockK] at hK
      by_cases hi : i = id
      · simp only [hi, BEq.rfl, cond_true] at hK
        refine ⟨.normal, st1, hK, fun c ac hst Q hq => wp_block (hw c ac hst _ fun c' a' h1 h2 h3 => ?_)⟩
        simp only [Out.ex, Exit.inBlock, hi, if_true]
        exact hq c' a' h1 h2 h3
      · have : (i == id) = false := by simpa using hi
        simp only [this, cond_false] at hK
        refine ⟨.exit i, st1, hK, fun c ac hst Q hq => wp_block (hw c ac hst _ fun c' a' h1 h2 h3 => ?_)⟩
        simp only [Out.ex, Exit.inBlock, hi, if_false]
        exact hq c' a' h1 h2 h3
    | ret => exact ⟨.ret, st1, hK, fun c ac hst Q hq => wp_block (hw c ac hst _ fun c' a' h1 h2 h3 => hq c' a' h1 h2 h3)⟩
  | loop b ih =>
    intro st K hk
    simp only [aexec] at hk
    obtain ⟨out, st', hK, hw⟩ := told_loop (P := P) hlv (fun st K hk => ih st K hk) n _ K hk
    refine ⟨out, st', hK, fun c a hst Q hq => wp_loop_rounds n ?_⟩
    obtain ⟨c2, hww, g1, g2⟩ := prune_ok (b := b) hlv c a hst
    rw [← hww]
    exact hw c2 a g2 Q fun c3 a3 k1 k2 k3 => hq c3 a3 (g1.trans k1) k2 k3
  | exit id =>
    intro st K hk
    exact ⟨.exit id, st, hk, fun c a hst Q hq => wp_exit (hq c a (Since.refl _ _ _ _) hst rfl)⟩
  | ret =>
    intro st K hk
    exact ⟨.ret, st, hk, fun c a hst Q hq => wp_ret (hq c a (Since.refl _ _ _ _) hst rfl)⟩
  | _ => intro st K hk; simp [aexec] at hk
end
end Go.AM
namespace Go.AM

/-! Soundness: functions. -/
section
variable {ρ : Type} {P : Program} {E : Env} {x : ρ} {run : Run}

theorem load_ok (hT : TOk P E) {t : TypeId} {a : AV} {h : Heap} {K : AV → Option ρ} (hk : aload E t a h K = some x) :
    ∃ v, K v = some x ∧ ∀ (c : Ctx) (va : Value), Sim c h → VRep c a va → ∃ p v', va = .pointer (some p) ∧ (loadVar t p).run P c.w = .ok v' c.w ∧ VRep c v v' := by
  unfold aload at hk
  split at hk
  · cases hk
  · rename_i ti hti
    split at hk
    · rename_i id idx sub
      split at hk
      · rename_i ob hob
        have key : ∀ v, ((dpOk ti ob.c sub = true ∧ v = .dp id idx sub) ∨ ob.c.part ti idx sub = some v) → K v = some x → ∃ v, K v = some x ∧ ∀ (c : Ctx) (va : Value), Sim c h → VRep c (.ptr id idx sub) va → ∃ p v', va = .pointer (some p) ∧ (loadVar t p).run P c.w = .ok v' c.w ∧ VRep c v v' := by
          intro v hv hk
          refine ⟨v, hk, fun c va hs hr => ?_⟩
          simp only [VRep, ptrRep] at hr
          obtain ⟨i, hi, hix, hv'⟩ := hr.2.resolve_left (hs.alive hob)
          obtain ⟨vs, hlies, hpart⟩ := part_at hs hob hi hix hv
          obtain ⟨v', hrun, hrv⟩ := run_loadVar hT hti hlies hpart
          exact ⟨_, v', hv', hrun, hrv⟩
        by_cases hdp : dpOk ti ob.c sub = true
        · rw [hdp, cond_true] at hk
          exact key _ (.inl ⟨hdp, rfl⟩) hk
        · simp only [Bool.not_eq_true] at hdp
          rw [hdp, cond_false] at hk
          split at hk
          · rename_i v hv
            exact key v (.inr hv) hk
          · cases hk
      · cases hk
    · rename_i e z sub
      split at hk
      · rename_i v hv
        refine ⟨v, hk, fun c va hs hr => ?_⟩
        simp only [VRep] at hr
        obtain ⟨b, off, vs, hp, _, _, hlies, hc⟩ := hr
        obtain ⟨v', hrun, hrv⟩ := run_loadVar hT hti hlies (partT_ok hc hv)
        exact ⟨_, v', hp, hrun, hrv⟩
      · cases hk
    · rename_i cs sub
      split at hk
      · rename_i v hv
        refine ⟨v, hk, fun c va hs hr => ?_⟩
        simp only [VRep] at hr
        obtain ⟨b, off, vs, hp, _, hlies, hc⟩ := hr
        obtain ⟨v', hrun, hrv⟩ := run_loadVar hT hti hlies (partC_ok hc hv)
        exact ⟨_, v', hp, hrun, hrv⟩
      · cases hk
    · cases hk

/-- One result. -/
def oneR (E : Env) (st : St) (r : ResultVar) : Option AV :=
  match r with
  | .tmp t => some (st.s.getD t .undef)
  | .cell t ty => aload E ty (st.s.getD t .undef) st.h some

def oneS (tmps : Array Value) (r : ResultVar) : Sem Value := match r with | .tmp t => pure (tmps.getD t Go.undef) | .cell p t => do loadVar t (← asAddr (tmps.getD p Go.undef))

theorem results_eq (fn : Func) (tmps : Array Value) : results fn tmps = (do let vs ← fn.results.mapM (oneS tmps); pure (if h : vs.size = 1 then vs[0] else .tuple vs)) := rfl

theorem oneR_ok (hT : TOk P E) {st : St} {r : ResultVar} {v : AV} (h : oneR E st r = some v) {c : Ctx} {a : Act} (hst : Stt c st a) :
    ∃ v', (oneS a.tmps r).run P c.w = .ok v' c.w ∧ VRep c v v' := by
  cases r with
  | tmp t => simp only [oneR, Option.some.injEq] at h; subst h; exact ⟨a.tmps.getD t Go.undef, by simp [oneS], hst.slots.2 t⟩
  | cell p t =>
    obtain ⟨v1, h1, h2⟩ := load_ok hT h
    simp only [Option.some.injEq] at h1
    subst h1
    obtain ⟨q, v', e1, e2, e3⟩ := h2 c _ hst.sim (hst.slots.2 p)
    exact ⟨v', by simp only [oneS, e1]; simp [asAddr, e2], e3⟩

theorem results_ok (hT : TOk P E) {fn : Func} {st : St} {v : AV} {h' : Heap} (h : aresults E fn st = some (v, h')) : h' = st.h ∧ ∀ c a, Stt c st a → ∃ v', (results fn a.tmps).run P c.w = .ok v' c.w ∧ VRep c v v' := by
  unfold aresults at h
  simp only at h
  split at h
  · rename_i hl
    cases h
    have hl' : fn.results = #[] := by apply Array.ext'; simpa using hl
    exact ⟨rfl, fun c a hst => ⟨.tuple #[], by simp [results, hl'], by simp only [VRep]; exact ⟨#[], rfl, by simp [VReps]⟩⟩⟩
  · rename_i r hl
    have hl' : fn.results = #[r] := by apply Array.ext'; simpa using hl
    obtain ⟨v1, h1, h2⟩ := Option.map_eq_some_iff.1 h
    cases h2
    refine ⟨rfl, fun c a hst => ?_⟩
    obtain ⟨v', hr, hv⟩ := oneR_ok hT h1 hst
    exact ⟨v', by simp [results_eq, hl', hr], hv⟩
  · rename_i r q hl
    have hl' : fn.results = #[r, q] := by apply Array.ext'; simpa using hl
    split at h
    · rename_i v1 v2 h1 h2
      cases h
      refine ⟨rfl, fun c a hst => ?_⟩
      obtain ⟨u1, r1, e1⟩ := oneR_ok hT h1 hst
      obtain ⟨u2, r2, e2⟩ := oneR_ok hT h2 hst
      refine ⟨.tuple #[u1, u2], ?_, by simp only [VRep]; exact ⟨_, rfl, by simp [VReps, e1, e2]⟩⟩
      simp [results_eq, hl', r1, r2]
    · cases h
  · rename_i r q p hl
    have hl' : fn.results = #[r, q, p] := by apply Array.ext'; simpa using hl
    split at h
    · rename_i v1 v2 v3 h1 h2 h3
      cases h
      refine ⟨rfl, fun c a hst => ?_⟩
      obtain ⟨u1, r1, e1⟩ := oneR_ok hT h1 hst
      obtain ⟨u2, r2, e2⟩ := oneR_ok hT h2 hst
      obtain ⟨u3, r3, e3⟩ := oneR_ok hT h3 hst
      refine ⟨.tuple #[u1, u2, u3], ?_, by simp only [VRep]; exact ⟨_, rfl, by simp [VReps, e1, e2, e3]⟩⟩
      simp [results_eq, hl', r1, r2, r3]
    · cases h
  · cases h

theorem begin_slots {c : Ctx} {fn : Func} {args : List AV} {vs : Array Value} (hr : VReps c args vs.toList) (h : Heap) : Slots c (begin fn args h).s { tmps := vs ++ Array.replicate (fn.ntmps - vs.size) Go.undef, defers := [] } := by
  have hl : args.length = vs.size := by rw [hr.length]; simp
  refine ⟨by simp [begin, hl], fun t => ?_⟩
  simp only [begin, List.getD_eq_getElem?_getD, Array.getD_eq_getD_getElem?]
  rcases Nat.lt_or_ge t args.length with ht | ht
  · rw [List.getElem?_append_left ht, Array.getElem?_append_left (by omega)]
    have hx : args[t]? = some args[t] := by simp [ht]
    obtain ⟨v, hv, hrv⟩ := hr.get hx
    rw [Array.getElem?_toList] at hv
    rw [hx, hv]; exact hrv
  · rw [List.getElem?_append_right ht]
    have : ((List.replicate (fn.ntmps - args.length) AV.undef)[t - args.length]?).getD .undef = .undef := by
      rw [List.getElem?_replicate]; split <;> rfl
    rw [this]; simp [VRep]

/-- A function's own run. -/
theorem told_body (hT : TOk P E) (hC : CallsOk P E run) (hR : RegOk P E run) {lv : Bool} {f : FuncId} {fn : Func} (hf : P.funcs[f]? = some fn) (hlv : lv = false → ∀ r, E.live f r = none) {k : Nat} {args : List AV} {h : Heap} {fin : AV × Heap → Option ρ}
    (hk : abody E run k f fn args h fin = some x) :
    ∃ r, fin r = some x ∧ ∀ (c : Ctx) (vs : Array Value), Sim c h → Fre c h → VReps c args vs.toList → Calls P f vs c.w fun e w' =>
      ∃ v' c', e = .returned v' ∧ c'.w = w' ∧ Since lv (pinsOf E f) c h c' r.2 ∧ Sim c' r.2 ∧ Fre c' r.2 ∧ VRep c' r.1 v' := by
  unfold abody at hk
  split at hk
  · rename_i code hb
    obtain ⟨out, st', hK, hw⟩ := told_exec hT hC hR hlv k code _ _ hk
    have main : ∀ (r : AV × Heap), aresults E fn st' = some r → fin r = some x → (out.ex = .normal ∨ out.ex = .ret) → ∃ r, fin r = some x ∧ ∀ (c : Ctx) (vs : Array Value), Sim c h → Fre c h → VReps c args vs.toList → Calls P f vs c.w fun e w' =>
      ∃ v' c', e = .returned v' ∧ c'.w = w' ∧ Since lv (pinsOf E f) c h c' r.2 ∧ Sim c' r.2 ∧ Fre c' r.2 ∧ VRep c' r.1 v' := by
      intro r hr hfin hex
      obtain ⟨rv, rh⟩ := r
      obtain ⟨hh, hres⟩ := results_ok hT hr
      subst hh
      refine ⟨_, hfin, fun c vs hs hfr hreps => ?_⟩
      refine calls_of_wp hf hb ?_
      refine hw c _ ⟨hs, hfr, begin_slots hreps h⟩ _ fun c' a' h1 h2 h3 => ?_
      obtain ⟨v', hrun, hrv⟩ := hres c' a' h2
      have hpost : a'.defers = [] ∧ ∃ v, (results fn a'.tmps).run P c'.w = .ok v c'.w ∧ ∃ v' c'', Ending.returned v = .returned v' ∧ c''.w = c'.w ∧ Since lv (pinsOf E f) c h c'' st'.h ∧ Sim c'' st'.h ∧ Fre c'' st'.h ∧ VRep c'' rv v' :=
        ⟨h3, v', hrun, v', c', rfl, rfl, h1, h2.sim, h2.fre, hrv⟩
      rcases hex with hex | hex <;> rw [hex] <;> exact hpost
    unfold leave at hK
    split at hK
    · obtain ⟨r, hr, hfin⟩ := Option.bind_eq_some_iff.1 hK
      exact main r hr hfin (.inl rfl)
    · obtain ⟨r, hr, hfin⟩ := Option.bind_eq_some_iff.1 hK
      exact main r hr hfin (.inr rfl)
    · cases hK
  · cases hk

/-- Functions without a contract run in place. -/
theorem told_run (hT : TOk P E) (hcon : ∀ g m, E.con g = some m → ConOk P g m) (hR : ∀ run, CallsOk P E run → RegOk P E run)
    (hlive : ∀ g, E.con g = none → ∀ r, E.live g r = none) (hent : ∀ (g : FuncId) (fn : Func), P.funcs[g]? = some fn → (fn.name == "runtime.NumGoroutine") = false) : ∀ k, CallsOk P E (arun P E k)
  | 0 => ⟨hcon, fun ρ g args h fin x _ hr => by simp [arun] at hr⟩
  | k + 1 => by
    have ih := told_run hT hcon hR hlive hent k
    refine ⟨hcon, fun ρ g args h fin x hg hr => ?_⟩
    simp only [arun] at hr
    split at hr
    · rename_i fn hf
      obtain ⟨r', hfin, hw⟩ := told_body (lv := false) hT ih (hR _ ih) hf (fun _ => hlive g hg) hr
      refine ⟨r', hfin, ⟨fn, hf, hent g fn hf, ?_⟩, fun c vs hs hfr hreps => (hw c vs hs hfr hreps).mono ?_⟩
      · unfold abody at hr
        split at hr
        · rename_i code hb; simp [hb]
        · cases hr
      · rintro e w' ⟨v', c', h1, h2, h3, h4, h5, h6⟩
        exact ⟨v', c', h1, h2, h3.2.1 rfl, h4, h6⟩
    · cases hr
end
end Go.AM
