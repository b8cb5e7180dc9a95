/- An interpreter of the model's code over values that are told, and its soundness. -/
import Derived.Test.YteojdaobpjhddaaAS15
namespace Go.AM

/-! Soundness: append, told. -/
section
variable {ρ : Type} {P : Program} {E : Env} {s : List AV} {h : Heap} {o : Oper} {x : ρ}

theorem OpOk.fin {v : AV} {h' : Heap} {mod : Bool} (run : ∀ c a, Sim c h → Free c h h' → Slots c s a → ∃ v' c', (execOp a.eval o).run P c.w = .ok (.value v') c'.w ∧ Ext c h c' h' ∧ Sim c' h' ∧ VRep c' v v' ∧ (mod = false → Grow c h c' h'))
    (hp : Sta (opVals s o.op) h h' mod := by exact (Pre.snoc _ _).sta _) : OpOk P s h o v h' mod := by
  refine ⟨?_, hp⟩
  intro c a hs hf hsl next Q hn
  obtain ⟨v', c', hr, h1, h2, h3, h4⟩ := run c a hs hf hsl
  unfold Oper.wp
  rw [hr]
  exact hn c' v' h1 h2 h3 h4

theorem isNil_len {ct : Cont} (h : ct.isNil = true) : ct.len = 0 := by
  unfold Cont.isNil at h
  split at h
  · rfl
  · rfl
  · cases h

theorem told_append (hT : TOk P E) {c : Go.Call} (ho : o.op = .call c) (hcal : c.callee = .builtin .append) {yx yy : Operand} (ha : c.args = #[yx, yy]) {t u e : TypeId} (h0 : c.argTypes[0]? = some t) (h1 : c.argTypes[1]? = some u)
    (hkt : kindOf E t = some (.slice e)) (hku : (∃ e', kindOf E u = some (.slice e')) ∨ kindOf E u = some .str) {K : AV → Heap → Bool → Option ρ} (hk : aappend E e (aeval s yx) (aeval s yy) h K = some x) : Told P s h o K x := by
  have hu := hT.slice hkt
  have hU : (∃ e', P.underlying u = some (.slice e')) ∨ P.underlying u = some .string := by
    rcases hku with ⟨e', he'⟩ | hs
    · exact .inl ⟨e', hT.slice he'⟩
    · exact .inr (hT.str hs)
  generalize hxa : aeval s yx = ax at hk
  generalize hya : aeval s yy = ay at hk
  unfold aappend at hk
  split at hk
  · cases hk
  · rename_i ti hti
    have ty := hT.is hti
    by_cases hpos : (Nat.blt 0 ti.size && Nat.blt 0 ti.bytes) = true
    · simp only [hpos, cond_true] at hk
      simp only [Bool.and_eq_true, Nat.blt_eq] at hpos
      split at hk
      · cases hk
      · rename_i ys hys
        -- what a run comes to, once all is told of where it goes
        have core : ∀ (c0 : Ctx) (ac : Act), Sim c0 h → Slots c0 s ac → ys.es = ti.size → ∃ M, ContV c0 ys M ∧ (∀ w, (Builtin.lenOf (ac.eval yy)).run P w = .ok ys.len w) ∧
            (Builtin.firstCells ti.size ys.len (ac.eval yy)).run P c0.w = .ok M.flatten.toArray c0.w ∧ (Builtin.firstCells ti.size ys.len (ac.eval yy)).run P c0.w.drew = .ok M.flatten.toArray c0.w.drew := by
          intro c0 ac hs hsl hes
          have hr := hsl.eval yy; rw [hya] at hr
          obtain ⟨M, hM, hl, hfirst⟩ := src_rep hs ty hr hys hes
          have := hfirst ys.len (Nat.le_refl _)
          rw [← hM.len, List.take_length] at this
          rw [hM.len] at this
          exact ⟨M, hM, hl, this⟩
        -- a new row
        have more : ∀ (c0 : Ctx) (ac : Act) (A : Option Addr) (cap : Nat) (a ct : Cont) (L M : List (List Value)), ac.eval yx = .slice A a.len cap → ContV c0 a L → a.es = ti.size → (0 < a.len → ∃ b o, A = some ⟨b, o, none⟩ ∧ Lies c0.w b o L.flatten) → ContV c0 ys M → a.app ys = some ct →
            (∀ w, (Builtin.lenOf (ac.eval yy)).run P w = .ok ys.len w) → (Builtin.firstCells ti.size ys.len (ac.eval yy)).run P c0.w.drew = .ok M.flatten.toArray c0.w.drew → cap < ct.len → ct.len * ti.bytes ≤ lim →
            ∃ cap' w' D, (execOp ac.eval o).run P c0.w = .ok (.value (.slice (some ⟨c0.w.heap.size, 0, none⟩) ct.len cap')) w' ∧ Pushed c0.w w' ((L ++ M).flatten ++ D) ∧ ContV c0 ct (L ++ M) ∧ (0 < ct.es ∧ ct.isDeep = false) ∧ ct.len ≤ cap' ∧ cap' * ct.es ≤ ((L ++ M).flatten ++ D).length := by
          intro c0 ac A cap a ct L M hv hL hes hlie hM happ hlen hfirst hcap hlim
          obtain ⟨hN, hctl, hcte⟩ := hL.app hM happ
          have hold : (Builtin.firstCells ti.size a.len (.slice A a.len cap)).run P c0.w.drew = .ok L.flatten.toArray c0.w.drew := by
            have := run_first (P := P) (w := c0.w.drew) (A := A) (cap := cap) (es := ti.size) (n := a.len) (len := a.len) (L := L) (by rw [← hes]; exact hL.es) hL.len (Nat.le_refl _) (fun h => by obtain ⟨b, o, q1, q2⟩ := hlie h; exact ⟨b, o, q1, q2⟩)
            rwa [← hL.len, List.take_length, hL.len] at this
          obtain ⟨cap', w', D, hr, hp, hge, hfit⟩ := app_more (P := P) (w := c0.w) (ty := o.type) ty h0 h1 hu hU (hlen c0.w) (L := L) (M := M) (A := A) (cap := cap) hold hfirst hL.len hM.len (by rw [← hes, ← hcte]; exact hN.es) (by omega) hpos.2 (by rw [← hctl]; exact hlim)
          rw [← hv, ← hctl] at hr
          refine ⟨cap', w', D, run_call_append ho hcal ha hr, hp, hN, ⟨by rw [hcte, hes]; exact hpos.1, Cont.app_plain happ⟩, by omega, by rw [hcte, hes]; exact hfit⟩
        -- room
        have room : ∀ (c0 : Ctx) (ac : Act) (A : Option Addr) (cap : Nat) (a ct : Cont) (L M : List (List Value)) (w' : World), ac.eval yx = .slice A a.len cap → ContV c0 a L → ContV c0 ys M → a.app ys = some ct →
            (∀ w, (Builtin.lenOf (ac.eval yy)).run P w = .ok ys.len w) → (Builtin.firstCells ti.size ys.len (ac.eval yy)).run P c0.w = .ok M.flatten.toArray c0.w → ct.len ≤ cap →
            (∀ b, A = some b → (storeCells (b.add (a.len * ti.size)) M.flatten).run P c0.w = .ok () w') → (A = none → w' = c0.w) →
            (execOp ac.eval o).run P c0.w = .ok (.value (.slice A ct.len cap)) w' := by
          intro c0 ac A cap a ct L M w' hv hL hM happ hlen hfirst hcap hst hnone
          obtain ⟨hN, hctl, hcte⟩ := hL.app hM happ
          have hr := run_append_room (P := P) (w := c0.w) (w' := w') (ty := o.type) h0 h1 hu hU (ty.size) (hlen c0.w) hfirst (A := A) (len := a.len) (cap := cap) (by omega) hst hnone
          rw [← hv, ← hctl] at hr
          exact run_call_append ho hcal ha hr
        -- an empty slice without room
        have empt : ∀ (c0 : Ctx) (ac : Act) (A : Option Addr) (a ct : Cont), Sim c0 h → Slots c0 s ac → ac.eval yx = .slice A 0 0 → ContV c0 a [] → a.es = ti.size → ys.es = ti.size → a.app ys = some ct → ct.len * ti.bytes ≤ lim → ContV c0 ct [] ∧ (0 < ct.es ∧ ct.isDeep = false) ∧
            (execOp ac.eval o).run P c0.w = .ok (.value (.slice A 0 0)) c0.w ∨
            ∃ cap' w' D N, (execOp ac.eval o).run P c0.w = .ok (.value (.slice (some ⟨c0.w.heap.size, 0, none⟩) ct.len cap')) w' ∧ Pushed c0.w w' (List.flatten N ++ D) ∧ ContV c0 ct N ∧ (0 < ct.es ∧ ct.isDeep = false) ∧ ct.len ≤ cap' ∧ cap' * ct.es ≤ (List.flatten N ++ D).length := by
          intro c0 ac A a ct hs hsl hv ha0 hae hye happ hlim
          obtain ⟨M, hM, hlen, hf1, hf2⟩ := core c0 ac hs hsl hye
          obtain ⟨hN, hctl, hcte⟩ := ha0.app hM happ
          have hal : a.len = 0 := ha0.len.symm
          by_cases hz : ys.len = 0
          · have hMe : M = [] := List.eq_nil_of_length_eq_zero (by rw [hM.len, hz])
            subst hMe
            have hct0 : ct.len = 0 := by omega
            have hr := room c0 ac A 0 a ct [] [] c0.w (by rw [hal]; exact hv) ha0 hM happ hlen hf1 (by omega) (fun b _ => by simp [storeCells]) (fun _ => rfl)
            rw [hct0] at hr
            exact .inl ⟨by simpa using hN, ⟨by rw [hcte, hae]; exact hpos.1, Cont.app_plain happ⟩, hr⟩
          · obtain ⟨cap', w', D, q1, q2, q3, q4, q5, q6⟩ := more c0 ac A 0 a ct [] M (by rw [hal]; exact hv) ha0 hae (fun h => by omega) hM happ hlen hf2 (by omega) hlim
            exact .inr ⟨cap', w', D, _, q1, q2, q3, q4, q5, q6⟩
        -- one that lies in a row of ours
        have full : ∀ (c0 : Ctx) (ac : Act) (id : Nat) (i : Info) (a ct : Cont) (L : List (List Value)) (base cap n : Nat), Sim c0 h → (c0.m h.length = none ∧ ¬ c0.dead h.length) → Slots c0 s ac → id < h.length → c0.m id = some i → ¬ c0.dead id → i.loc = true →
            ac.eval yx = .slice (some ⟨i.b, base, none⟩) a.len cap → ContV c0 a L → Lies c0.w i.b base L.flatten → Blk c0.w i.b n → base + cap * a.es ≤ n → a.es = ti.size → ys.es = ti.size → a.app ys = some ct → ct.len * ti.bytes ≤ lim →
            ∃ v' c', (execOp ac.eval o).run P c0.w = .ok (.value v') c'.w ∧ Ext c0 h c' (h.set id none ++ [some ⟨ct, false⟩]) ∧ Sim c' (h.set id none ++ [some ⟨ct, false⟩]) ∧ VRep c' (.sl h.length) v' := by
          intro c0 ac id i a ct L base cap n hs hf hsl hid hi hd hl hv hL hlies hb hfit hae hye happ hlim
          obtain ⟨M, hM, hlen, hf1, hf2⟩ := core c0 ac hs hsl hye
          obtain ⟨hN, hctl, hcte⟩ := hL.app hM happ
          by_cases hroom : ct.len ≤ cap
          · have hMl : M.flatten.length = M.length * ct.es := flat_len (es := ct.es) (fun vs hv => hN.es vs (by simp [hv]))
            have hmul : ct.len * ct.es ≤ cap * ct.es := Nat.mul_le_mul_right _ hroom
            rw [hctl, Nat.add_mul] at hmul
            have hst : ∀ b, some (⟨i.b, base, none⟩ : Addr) = some b → (storeCells (b.add (a.len * ti.size)) M.flatten).run P c0.w = .ok () (c0.w.setCells i.b (base + a.len * ct.es) M.flatten) := by
              intro b hb'
              cases hb'
              rw [add_none, hcte, hae]
              exact run_store_blk hb (by rw [hMl, hM.len, hcte, hae]; rw [hcte, hae] at hmul; rw [hae] at hfit; omega) (fun v hv => hM.one v hv)
            have hr := room c0 ac _ cap a ct L M _ hv hL hM happ hlen hf1 hroom hst (fun h => by cases h)
            obtain ⟨c', hw, k1, k2, k3⟩ := app_room hs hf hid hi hd hl hN hL.len ⟨by rw [hcte, hae]; exact hpos.1, Cont.app_plain happ⟩ hlies hb (cap := cap) (by rw [hcte]; exact hfit) hroom
            exact ⟨_, c', by rw [hw]; exact hr, k1, k2, k3⟩
          · obtain ⟨cap', w', D, q1, q2, q3, q4, q5, q6⟩ := more c0 ac _ cap a ct L M hv hL hae (fun _ => ⟨i.b, base, rfl, hlies⟩) hM happ hlen hf2 (by omega) hlim
            obtain ⟨c', hw, k1, k2, k3⟩ := app_new_kill hs hf hid q2 q3 q4 q5 q6
            exact ⟨_, c', by rw [hw]; exact q1, k1, k2, k3⟩
        have lone : ∀ (c0 : Ctx) (ac : Act) (id : Nat) (i : Info) (A : Option Addr) (a ct : Cont), Sim c0 h → (c0.m h.length = none ∧ ¬ c0.dead h.length) → Slots c0 s ac → id < h.length → c0.m id = some i → ¬ c0.dead id →
            ac.eval yx = .slice A 0 0 → ContV c0 a [] → a.es = ti.size → ys.es = ti.size → a.app ys = some ct → ct.len * ti.bytes ≤ lim →
            ∃ v' c', (execOp ac.eval o).run P c0.w = .ok (.value v') c'.w ∧ Ext c0 h c' (h.set id none ++ [some ⟨ct, false⟩]) ∧ Sim c' (h.set id none ++ [some ⟨ct, false⟩]) ∧ VRep c' (.sl h.length) v' := by
          intro c0 ac id i A a ct hs hf hsl hid hi hd hv hL hae hye happ hlim
          rcases empt c0 ac A a ct hs hsl hv hL hae hye happ hlim with ⟨q1, q2, q3⟩ | ⟨cap', w', D, N, q1, q2, q3, q4, q5, q6⟩
          · obtain ⟨c', hw, k1, k2, k3⟩ := app_none hs hf hid hi hd q1 q2 A
            exact ⟨_, c', by rw [hw]; exact q3, k1, k2, k3⟩
          · obtain ⟨c', hw, k1, k2, k3⟩ := app_new_kill hs hf hid q2 q3 q4 q5 q6
            exact ⟨_, c', by rw [hw]; exact q1, k1, k2, k3⟩
        have lone0 : ∀ (c0 : Ctx) (ac : Act) (A : Option Addr) (a ct : Cont), Sim c0 h → (c0.m h.length = none ∧ ¬ c0.dead h.length) → Slots c0 s ac →
            ac.eval yx = .slice A 0 0 → ContV c0 a [] → a.es = ti.size → ys.es = ti.size → a.app ys = some ct → ct.len * ti.bytes ≤ lim →
            ∃ v' c', (execOp ac.eval o).run P c0.w = .ok (.value v') c'.w ∧ Ext c0 h c' (h ++ [some ⟨ct, false⟩]) ∧ Sim c' (h ++ [some ⟨ct, false⟩]) ∧ VRep c' (.sl h.length) v' ∧ Grow c0 h c' (h ++ [some ⟨ct, false⟩]) := by
          intro c0 ac A a ct hs hf hsl hv hL hae hye happ hlim
          rcases empt c0 ac A a ct hs hsl hv hL hae hye happ hlim with ⟨q1, q2, q3⟩ | ⟨cap', w', D, N, q1, q2, q3, q4, q5, q6⟩
          · obtain ⟨c', hw, k1, k2, k3, k4⟩ := app_none0 hs hf q1 q2 A
            exact ⟨_, c', by rw [hw]; exact q3, k1, k2, k4, k3⟩
          · obtain ⟨c', hw, k1, k2, k3, k4⟩ := app_new hs hf q2 q3 q4 q5 q6
            exact ⟨_, c', by rw [hw]; exact q1, k1, k2, k4, k3⟩
        have nilL : ∀ {c0 : Ctx} {a : Cont} {L : List (List Value)}, ContV c0 a L → a.len = 0 → ContV c0 a [] := by
          intro c0 a L hL h0
          have : L = [] := List.eq_nil_of_length_eq_zero (by rw [hL.len, h0])
          rwa [this] at hL
        split at hk
        · rename_i id
          split at hk
          · rename_i ob hob
            by_cases hes : ((ob.c.es == ti.size) && (ys.es == ti.size)) = true
            · simp only [hes, cond_true] at hk
              simp only [Bool.and_eq_true, beq_iff_eq] at hes
              split at hk
              · rename_i ct happ
                by_cases hlim : ct.len * ti.bytes ≤ lim
                · simp only [hlim, decide_true, cond_true] at hk
                  have hid := hget_lt hob
                  by_cases hfn : (ob.full && ob.c.isNil) = true
                  · simp only [hfn, cond_true] at hk
                    simp only [Bool.and_eq_true] at hfn
                    have hn0 := isNil_len hfn.2
                    refine ⟨_, _, _, hk, OpOk.fin fun c0 ac hs hf hsl => ?_⟩
                    have hr := hsl.eval yx; rw [hxa] at hr
                    simp only [VRep, slRep] at hr
                    obtain ⟨i, hi, hr⟩ := hr.2.resolve_left (hs.alive hob)
                    have rep := hs.rep hob hi
                    have hl0 : i.len = 0 := by rw [rep.len, hn0]
                    obtain ⟨L, hL, _⟩ := contRep_iff.1 rep.cont
                    have hv : ∃ A, ac.eval yx = .slice A 0 0 := by
                      rcases hr with ⟨_, cap, n, hv, _, _, _, hfc⟩ | ⟨_, _, A, hv⟩
                      · have := hfc (rep.full.trans hfn.1)
                        exact ⟨_, by rw [hv, this, hl0]⟩
                      · exact ⟨A, hv⟩
                    obtain ⟨A, hv⟩ := hv
                    obtain ⟨v', c', k1, k2, k3, k4, k5⟩ := lone0 c0 ac A ob.c ct hs (hf _ (Nat.le_refl _) (by simp)) hsl hv (nilL hL hn0) hes.1 hes.2 happ hlim
                    exact ⟨v', c', k1, k2, k3, k4, fun _ => k5⟩
                  · simp only [Bool.not_eq_true] at hfn
                    simp only [hfn, cond_false] at hk
                    have hmem : AV.sl id ∈ opVals s o.op := by rw [ho, ← hxa]; simp [opVals, Op.operands, Go.Call.operands, hcal, ha]
                    refine ⟨_, _, _, hk, OpOk.fin (hp := sta_setApp fun j hj => touch_sl hj hmem) fun c0 ac hs hf hsl => ?_⟩
                    have hr := hsl.eval yx; rw [hxa] at hr
                    simp only [VRep, slRep] at hr
                    have hd := hs.alive hob
                    obtain ⟨i, hi, hr⟩ := hr.2.resolve_left hd
                    have rep := hs.rep hob hi
                    have hff := hf h.length (Nat.le_refl _) (by simp)
                    obtain ⟨L, hL, hlies⟩ := contRep_iff.1 rep.cont
                    rcases hr with ⟨hloc, cap, n, hv, hle, hb, hbn, _⟩ | ⟨hloc, hl0, A, hv⟩
                    · obtain ⟨v', c', k1, k2, k3, k4⟩ := full c0 ac id i ob.c ct L i.base cap n hs hff hsl hid hi hd hloc (by rw [hv, rep.len]) hL hlies hb (by rw [← rep.es]; exact hbn) hes.1 hes.2 happ hlim
                      exact ⟨v', c', k1, k2, k3, k4, by simp⟩
                    · obtain ⟨v', c', k1, k2, k3, k4⟩ := lone c0 ac id i A ob.c ct hs hff hsl hid hi hd hv (nilL hL (by rw [← rep.len, hl0])) hes.1 hes.2 happ hlim
                      exact ⟨v', c', k1, k2, k3, k4, by simp⟩
                · simp [hlim] at hk
              · cases hk
            · simp only [Bool.not_eq_true] at hes; simp [hes] at hk
          · cases hk
        · rename_i id off n
          split at hk
          · rename_i ob hob
            by_cases hes : ((ob.c.es == ti.size) && (ys.es == ti.size)) = true
            · simp only [hes, cond_true] at hk
              simp only [Bool.and_eq_true, beq_iff_eq] at hes
              split at hk
              · rename_i ct happ
                by_cases hlim : ct.len * ti.bytes ≤ lim
                · simp only [hlim, decide_true, cond_true] at hk
                  have hid := hget_lt hob
                  have hmem : AV.ss id off n ∈ opVals s o.op := by rw [ho, ← hxa]; simp [opVals, Op.operands, Go.Call.operands, hcal, ha]
                  refine ⟨_, _, _, hk, OpOk.fin (hp := sta_setApp fun j hj => touch_ss hj hmem) fun c0 ac hs hf hsl => ?_⟩
                  have hr := hsl.eval yx; rw [hxa] at hr
                  simp only [VRep, ssRep] at hr
                  have hd := hs.alive hob
                  obtain ⟨i, hi, hon, hr⟩ := hr.2.resolve_left hd
                  have rep := hs.rep hob hi
                  have hff := hf h.length (Nat.le_refl _) (by simp)
                  obtain ⟨L, hL, hlies⟩ := contRep_iff.1 rep.cont
                  have hcl := cut_len ob.c off n (by rw [← rep.len]; exact hon)
                  have hes' : ∀ vs ∈ L, vs.length = i.es := by intro vs hv; rw [hL.es vs hv, rep.es]
                  have hlies' := (hlies.drop (off * i.es)).take (n * i.es)
                  rw [flat_drop off hes', flat_take n (fun vs hv => hes' vs (List.mem_of_mem_drop hv))] at hlies'
                  rcases hr with ⟨hloc, cap, m, hv, hle, hb, hbn⟩ | ⟨hl0, A, hv⟩
                  · obtain ⟨v', c', k1, k2, k3, k4⟩ := full c0 ac id i (ob.c.cut off n) ct _ (i.base + off * i.es) cap m hs hff hsl hid hi hd hloc (by rw [hv, hcl.1]) (hL.cut off n) hlies' hb
                      (by rw [hcl.2, ← rep.es, Nat.add_assoc, ← Nat.add_mul]; exact hbn) (hcl.2.trans hes.1) hes.2 happ hlim
                    exact ⟨v', c', k1, k2, k3, k4, by simp⟩
                  · obtain ⟨v', c', k1, k2, k3, k4⟩ := lone c0 ac id i A (ob.c.cut off n) ct hs hff hsl hid hi hd hv (nilL (hL.cut off n) (by rw [hcl.1, hl0])) (hcl.2.trans hes.1) hes.2 happ hlim
                    exact ⟨v', c', k1, k2, k3, k4, by simp⟩
                · simp [hlim] at hk
              · cases hk
            · simp only [Bool.not_eq_true] at hes; simp [hes] at hk
          · cases hk
        · by_cases hes : (ys.es == ti.size) = true
          · simp only [hes, cond_true] at hk
            simp only [beq_iff_eq] at hes
            split at hk
            · rename_i ct happ
              by_cases hlim : ct.len * ti.bytes ≤ lim
              · simp only [hlim, decide_true, cond_true] at hk
                refine ⟨_, _, _, hk, OpOk.fin fun c0 ac hs hf hsl => ?_⟩
                have hr := hsl.eval yx; rw [hxa] at hr
                simp only [VRep] at hr
                obtain ⟨A, hv⟩ := hr
                obtain ⟨v', c', k1, k2, k3, k4, k5⟩ := lone0 c0 ac A (Cont.empty ti) ct hs (hf _ (Nat.le_refl _) (by simp)) hsl hv (empty_rep ty c0) (empty_es ty).1 hes happ hlim
                exact ⟨v', c', k1, k2, k3, k4, fun _ => k5⟩
              · simp [hlim] at hk
            · cases hk
          · simp only [Bool.not_eq_true] at hes; simp [hes] at hk
        · cases hk
    · simp only [Bool.not_eq_true] at hpos; simp [hpos] at hk
end
end Go.AM
