/- An interpreter of the model's code over values that are told, and its soundness. -/
import Derived.Test.YteojdaobpjhddaaAS36
namespace Go.AM

/-! A row that is asked whether it is nil: a copy of it, handed back as a new row. -/
theorem run_sl_in {P : Program} (d : Nat) (w : World) {t e : TypeId} (hu : P.underlying t = some (.slice e)) (a : Option Addr) (n m : Nat) : (Op.equalIn (d + 1) t (.slice a n m) (.slice none 0 0)).run P w = .ok a.isNone w := by
  cases a <;> simp [Op.equalIn, run_underlying hu]
theorem run_slice_nil {P : Program} {t e : TypeId} (hu : P.underlying t = some (.slice e)) (a : Option Addr) (n m : Nat) (w : World) :
    (binOp .eql t (.slice a n m) (.slice none 0 0)).run P w = .ok (.bool a.isNone) w := by
  have hq : (Op.equalIn 10000 t (.slice a n m) (.slice none 0 0)).run P w = .ok a.isNone w := run_sl_in 9999 w hu a n m
  have hm : Op.equal t (.slice a n m) (.slice none 0 0) = Op.equalIn 10000 t (.slice a n m) (.slice none 0 0) := rfl
  have : (binOp .eql t (.slice a n m) (.slice none 0 0)) = (do pure (.bool (← Op.equal t (.slice a n m) (.slice none 0 0)))) := by cases a <;> rfl
  rw [this, hm]; simp [hq]

theorem kind_slice {P : Program} {E : Env} (hT : TOk P E) {t e : TypeId} (h : kindOf E t = some (.slice e)) : P.underlying t = some (.slice e) := by
  unfold kindOf at h
  obtain ⟨ti, h1, h2⟩ := Option.map_eq_some_iff.1 h
  have := hT t ti h1
  simp only [tyOk, h2, Bool.and_eq_true] at this
  have hk := this.1.1.1.1.1.2
  simp only [kindOk] at hk
  split at hk
  · rename_i e' he
    rw [he]
    have := of_decide_eq_true hk
    simp_all
  · cases hk

/-- Such a test: it tells nothing but of an empty row. -/
theorem nil_test {P : Program} {E : Env} (hT : TOk P E) {id : Nat} {ops : Array Oper} {o1 o2 : Oper} (hops : ops = #[o1, o2]) {i d g : Nat} {t u e0 : TypeId} (h1 : o1.op = .move (.tmp i)) (h1d : o1.dst = some d) (h1g : o1.guard = none)
    (h2 : o2.op = .binOp .eql t (.tmp d) (.const (.slice none 0 0)) u) (h2d : o2.dst = some g) (h2g : o2.guard = none) (hk : kindOf E t = some (.slice e0)) {s : List AV} {e : Ty} {xs : List e.C} (hi : s.getD i .undef = .tv (.row e) xs) (hd : d < s.length)
    {c : Ctx} {a : Act} (hsl : Slots c s a) {Q : Exit → Act → World → Prop}
    (hq : ∀ b a', (b = true → xs = []) → Slots c ((s.set d (.tv (.row e) xs)).set g (.bool b)) a' → a'.defers = a.defers → Q .normal a' c.w) : (Code.region id ops false).wp P Q a c.w := by
  subst hops
  refine wp_region ?_
  have hr : List.range (#[o1, o2] : Array Oper).size = [0, 1] := rfl
  rw [hr, wpOps_cons]
  unfold wpOp
  have hw1 : Region.wanted o1 (yielded #[o1, o2] a.tmps) = true := by simp [Region.wanted, h1g]
  have e0' : (#[o1, o2] : Array Oper)[0]? = some o1 := rfl
  have e1' : (#[o1, o2] : Array Oper)[1]? = some o2 := rfl
  simp only [e0', hw1, if_true]
  refine .inl ?_
  have hrun1 : (execOp a.eval o1).run P c.w = .ok (.value (a.eval (.tmp i))) c.w := by simp [execOp, h1]
  unfold Oper.wp
  rw [hrun1]
  have hv0 : VRep c (.tv (.row e) xs) (a.eval (.tmp i)) := by have := hsl.2 i; rw [hi] at this; exact this
  have hs1 : Slots c (putSlot s (some d) (.tv (.row e) xs)) (a.put (some d) (a.eval (.tmp i))) := hsl.put (some d) hv0
  show wpOps P #[o1, o2] Q [1] (a.put o1.dst (a.eval (.tmp i))) c.w
  rw [h1d]
  show wpOps P #[o1, o2] Q [1] (a.put (some d) (a.eval (.tmp i))) c.w
  rw [wpOps_cons]
  unfold wpOp
  have hw2 : Region.wanted o2 (yielded #[o1, o2] (a.put (some d) (a.eval (.tmp i))).tmps) = true := by simp [Region.wanted, h2g]
  simp only [e1', hw2, if_true]
  refine .inl ?_
  have hv1 : VRep c (.tv (.row e) xs) ((a.put (some d) (a.eval (.tmp i))).eval (.tmp d)) := by
    have := hs1.2 d
    have hg : (putSlot s (some d) (.tv (.row e) xs)).getD d .undef = .tv (.row e) xs := by simp [putSlot, List.getD, hd]
    rw [hg] at this
    exact this
  have hv1' := hv1
  simp only [VRep, TRep, Ty.isAgg, Bool.false_eq_true, if_false, CellsRep] at hv1'
  obtain ⟨v, hv, p, cap, rfl, hcap, hnone, hne⟩ := hv1'
  simp only [List.cons.injEq, and_true] at hv
  have hrun2 : (execOp (a.put (some d) (a.eval (.tmp i))).eval o2).run P c.w = .ok (.value (.bool p.isNone)) c.w := by
    have hcst : (a.put (some d) (a.eval (.tmp i))).eval (.const (.slice none 0 0)) = .slice none 0 0 := rfl
    have g1 := eqGuard_word (P := P) .eql t (.tmp d) (.const (.slice none 0 0)) (.slice p xs.length cap) (.slice none 0 0) c.w (by simp) (by simp)
    have g2 := run_slice_nil (kind_slice hT hk) p xs.length cap c.w
    simp [execOp, h2, hv, hcst, g1, g2]
  unfold Oper.wp
  rw [hrun2]
  show Q .normal ((a.put (some d) (a.eval (.tmp i))).put o2.dst (.bool p.isNone)) c.w
  rw [h2d]
  show Q .normal ((a.put (some d) (a.eval (.tmp i))).put (some g) (.bool p.isNone)) c.w
  refine hq p.isNone _ (fun hb => ?_) (hs1.put (some g) (by simp [VRep])) (by rw [put_defers, put_defers])
  cases xs with
  | nil => rfl
  | cons y ys =>
    obtain ⟨b, o, hp, _⟩ := hne (by simp)
    rw [hp] at hb
    cases hb

theorem lawF_tail {pr : Nat → Prop} {w : World} {e : Ty} {x : List e.C} {rv : AV} {rh : Heap} {c' : Ctx} {v' : Value} (hfin : finF e (rv, rh) = some x) (W : Was (still0 pr w) [] c' rh) (hs' : Sim c' rh) (hf' : Fre c' rh) (hvr : VRep c' rv v') :
    ∃ pr' i, VRep (alone pr' c'.w i) (.sl 0) v' ∧ ObjRep (alone pr' c'.w i) i ⟨.typed e x, false⟩ ∧ (i.loc = true → w.heap.size ≤ i.b ∧ i.b < c'.w.heap.size ∧ ¬ pr' i.b) ∧
      (∀ b, pr b → pr' b) ∧ (∀ b, pr' b → pr b ∨ w.heap.size ≤ b) ∧ (∀ b, pr' b → b < c'.w.heap.size) ∧ w.heap.size ≤ c'.w.heap.size ∧
      (∀ b, b < w.heap.size → c'.w.heap[b]? = w.heap[b]?) ∧ c'.w.os = w.os ∧ c'.w.tape = w.tape ∧ c'.w.output = w.output := by
  have hframe : ∀ b, b < w.heap.size → c'.w.heap[b]? = w.heap[b]? := fun b hb => W.frame b hb Ctx.has0
  unfold finF at hfin
  by_cases hpos : Nat.blt 0 e.size = true
  · simp only [hpos, cond_true] at hfin
    have hes : 0 < e.size := by simpa [Nat.blt_eq] using hpos
    split at hfin
    · rename_i id
      split at hfin
      · rename_i t xs fl hob
        split at hfin
        · rename_i hte
          subst hte
          simp only [Option.some.injEq] at hfin
          subst hfin
          have hd := hs'.alive hob
          have hvr' := hvr
          simp only [VRep, slRep] at hvr'
          obtain ⟨hany, hv⟩ := hvr'
          obtain ⟨i, hi, hcase⟩ := hv.resolve_left hd
          have hid : id < rh.length := by
            rcases Nat.lt_or_ge id rh.length with h | h
            · exact h
            · rw [(hf' id h).1] at hi; cases hi
          obtain ⟨ob, hob2, hrep⟩ := hs'.obj id i hid hi hd
          rw [hob] at hob2
          simp only [Option.some.injEq] at hob2
          subst hob2
          refine ⟨c'.pr, { i with full := false }, ?_, ⟨hrep.len, hrep.es, hrep.pos, rfl, hrep.loc, hrep.blk, hrep.cont⟩, fun hl => ⟨?_, hs'.low id i hi hd hl, hs'.apart id i hi hd hl⟩, W.pr, W.pnew, hs'.plow, W.size, hframe, W.os, W.tape, W.output⟩
          · simp only [VRep, slRep]
            refine ⟨hany, .inr ⟨{ i with full := false }, by simp [alone], ?_⟩⟩
            rcases hcase with ⟨a1, cap, n, a2, a3, a4, a5, _⟩ | ⟨a1, a2, a3⟩
            · exact .inl ⟨a1, cap, n, a2, a3, a4, a5, fun h => by cases h⟩
            · exact .inr ⟨a1, a2, a3⟩
          · exact (W.own i.b ⟨id, hid, hd, .inr ⟨i, hi, hl, rfl⟩⟩).elim (fun h => h) fun h => absurd h Ctx.has0
        · cases hfin
      · cases hfin
    · rename_i id off n
      split at hfin
      · rename_i t xs fl hob
        split at hfin
        · rename_i hte
          subst hte
          simp only [Option.some.injEq] at hfin
          subst hfin
          obtain ⟨i2, g1, g2, g3⟩ := ss_own hs' hob hvr hes
          have hd := hs'.alive hob
          refine ⟨c'.pr, i2, by simp only [VRep]; exact g1, g2, fun hl => ⟨?_, hs'.at_low hd (g3 hl), hs'.at_apart hd (g3 hl)⟩, W.pr, W.pnew, hs'.plow, W.size, hframe, W.os, W.tape, W.output⟩
          exact (W.own i2.b ⟨id, hget_lt hob, hd, g3 hl⟩).elim (fun h => h) fun h => absurd h Ctx.has0
        · cases hfin
      · cases hfin
    · simp only [Option.some.injEq] at hfin
      subst hfin
      simp only [VRep] at hvr
      obtain ⟨a, rfl⟩ := hvr
      refine ⟨c'.pr, (inf false 0 0 0 e.size false), ?_, ⟨rfl, rfl, hes, rfl, (fun h => absurd h (Nat.lt_irrefl 0)), (fun h => by cases h), (fun k y hy => by simp at hy)⟩, (fun h => by cases h), W.pr, W.pnew, hs'.plow, W.size, hframe, W.os, W.tape, W.output⟩
      simp only [VRep, slRep]
      exact ⟨⟨_, _, _, rfl⟩, .inr ⟨(inf false 0 0 0 e.size false), by simp [alone], .inr ⟨rfl, rfl, a, rfl⟩⟩⟩
    · cases hfin
  · simp only [Bool.not_eq_true] at hpos; simp [hpos] at hfin

section
variable {ρ : Type} {P : Program} {E : Env} {run : Run} {x : ρ}
theorem told_seq (hT : TOk P E) (hC : CallsOk P E run) (hR : RegOk P E run) {f : FuncId} {n : Nat} {a b : Code} {st : St} {K : Out → St → Option ρ} (hk : aexec E f (acall E run) n (.seq a b) st K = some x) :
    ∃ out st', K out st' = some x ∧ ∀ c ac, Stt c st ac → ∀ Q, (∀ c' a', Since true (pinsOf E f) c st.h c' st'.h → Stt c' st' a' → a'.defers = ac.defers → Q out.ex a' c'.w) → a.wp P (Exit.then (b.wp P Q) Q) ac c.w := by
  have hlv : true = false → ∀ r, E.live f r = none := fun h => by cases h
  simp only [aexec] at hk
  obtain ⟨out, st1, hK, hw⟩ := told_exec hT hC hR hlv n _ _ _ hk
  cases out with
  | normal =>
    simp only [seqK] at hK
    obtain ⟨st2, hK2, he⟩ := enter_ok hlv hK
    obtain ⟨out3, st3, hK3, hw3⟩ := told_exec hT hC hR hlv n _ _ _ hK2
    refine ⟨out3, st3, hK3, fun c ac hst Q hq => hw c ac hst _ fun c' a' h1 h2 h3 => ?_⟩
    obtain ⟨c2, hww, g1, g2⟩ := he c' a' h2
    show b.wp P Q a' c'.w
    rw [← hww]
    exact hw3 c2 a' g2 Q fun c3 a3 k1 k2 k3 => hq c3 a3 (h1.trans (g1.trans k1)) k2 (k3.trans h3)
  | exit i => exact ⟨.exit i, st1, hK, fun c ac hst Q hq => hw c ac hst _ fun c' a' h1 h2 h3 => hq c' a' h1 h2 h3⟩
  | ret => exact ⟨.ret, st1, hK, fun c ac hst Q hq => hw c ac hst _ fun c' a' h1 h2 h3 => hq c' a' h1 h2 h3⟩
end

section
variable {P : Program} {E : Env} {run : Run}
/-- A copy: the code asks whether the row is nil; either way its run comes to the same row. -/
theorem lawClone (hT : TOk P E) (hC : CallsOk P E run) (hmix : P.follows .mixedOrders = true) {f : FuncId} {fn : Func} (hf : P.funcs[f]? = some fn) (hname : (fn.name == "runtime.NumGoroutine") = false)
    {r0 cnd rest : Code} {id : Nat} {o1 o2 : Oper} {i d g : Nat} {t u e0 : TypeId} (hb : fn.body = some (.seq r0 (.seq (.seq (.region id #[o1, o2] false) cnd) rest)))
    (h1 : o1.op = .move (.tmp i)) (h1d : o1.dst = some d) (h1g : o1.guard = none) (h2 : o2.op = .binOp .eql t (.tmp d) (.const (.slice none 0 0)) u) (h2d : o2.dst = some g) (h2g : o2.guard = none) (hkd : kindOf E t = some (.slice e0))
    {k : Nat} {e : Ty} {xs : List e.C} {st0 : St} (hr0 : aexec E f (acall E run) k r0 (begin fn [.tv (.row e) xs] []) (fun o st => some (o, st)) = some (.normal, st0)) (hi : st0.s.getD i .undef = .tv (.row e) xs) (hd : d < st0.s.length)
    (hrun : ∀ b, aexec E f (acall E run) k (.seq cnd rest) ⟨(st0.s.set d (.tv (.row e) xs)).set g (.bool b), st0.h⟩ (leave E fn (finF e)) = some (bif b then [] else xs)) : LawF P f [.tv (.row e) xs] e xs := by
  have hlv : true = false → ∀ r, E.live f r = none := fun h => by cases h
  obtain ⟨out, st1, hK, hw0⟩ := told_exec hT hC (regOk hT hmix hC) hlv k _ _ _ hr0
  simp only [Option.some.injEq, Prod.mk.injEq] at hK
  obtain ⟨rfl, rfl⟩ := hK
  refine ⟨⟨fn, hf, hname, by rw [hb]; rfl⟩, fun pr w vs hp hr => ?_⟩
  have hs : Sim (still0 pr w) [] := sim_still0 hp
  refine calls_of_wp hf hb ?_
  refine wp_seq (hw0 (still0 pr w) _ ⟨hs, (fun id _ => ⟨rfl, fun h => h⟩), begin_slots hr []⟩ _ fun c1 a1 s1 t1 d1 => ?_)
  refine wp_seq (wp_seq (nil_test hT rfl h1 h1d h1g h2 h2d h2g hkd hi hd t1.slots fun b a2 hbx hsl2 d2 => ?_))
  obtain ⟨out, st3, hK3, hw3⟩ := told_seq hT hC (regOk hT hmix hC) (hrun b)
  have hx : (bif b then [] else xs) = xs := by
    cases b with
    | false => rfl
    | true => exact (hbx rfl).symm
  rw [hx] at hK3
  refine hw3 c1 a2 ⟨t1.sim, t1.fre, hsl2⟩ _ fun c3 a3 s3 t3 d3 => ?_
  have main : ∀ r : AV × Heap, aresults E fn st3 = some r → finF e r = some xs → (a3.defers = [] ∧ ∃ v, (results fn a3.tmps).run P c3.w = .ok v c3.w ∧ ∃ v' pr' i, Ending.returned v = .returned v' ∧ VRep (alone pr' c3.w i) (.sl 0) v' ∧ ObjRep (alone pr' c3.w i) i ⟨.typed e xs, false⟩ ∧ (i.loc = true → w.heap.size ≤ i.b ∧ i.b < c3.w.heap.size ∧ ¬ pr' i.b) ∧
      (∀ b, pr b → pr' b) ∧ (∀ b, pr' b → pr b ∨ w.heap.size ≤ b) ∧ (∀ b, pr' b → b < c3.w.heap.size) ∧ w.heap.size ≤ c3.w.heap.size ∧
      (∀ b, b < w.heap.size → c3.w.heap[b]? = w.heap[b]?) ∧ c3.w.os = w.os ∧ c3.w.tape = w.tape ∧ c3.w.output = w.output) := by
    intro r hr hfin
    obtain ⟨rv, rh⟩ := r
    obtain ⟨hh, hres⟩ := results_ok hT hr
    subst hh
    obtain ⟨v', hrun', hrv⟩ := hres c3 a3 t3
    have W := (s1.trans (p := pinsOf E f) s3).1
    obtain ⟨pr', i', g1⟩ := lawF_tail hfin W t3.sim t3.fre hrv
    exact ⟨d3.trans (d2.trans d1), v', hrun', v', pr', i', rfl, g1⟩
  unfold leave at hK3
  split at hK3
  · obtain ⟨r, hr, hfin⟩ := Option.bind_eq_some_iff.1 hK3
    exact main r hr hfin
  · obtain ⟨r, hr, hfin⟩ := Option.bind_eq_some_iff.1 hK3
    exact main r hr hfin
  · cases hK3
end
/-- The parts of such a code. -/
def cndOf (fn : Func) : Code := match fn.body with | some (.seq _ (.seq (.seq _ c) _)) => c | _ => .skip
def rstOf (fn : Func) : Code := match fn.body with | some (.seq _ (.seq _ r)) => r | _ => .skip
end Go.AM
