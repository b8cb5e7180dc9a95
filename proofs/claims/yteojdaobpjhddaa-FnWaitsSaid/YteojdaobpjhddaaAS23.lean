/- An interpreter of the model's code over values that are told, and its soundness. -/
import Derived.Test.YteojdaobpjhddaaAS22
namespace Go.AM

/-! Soundness: what a region's operations look at; its order. -/
theorem bits_fold {α : Type} (b : α → Bool) (on : α → Nat) (g : α → Nat) (i : Nat) : ∀ (l : List α) (s0 : Nat), (l.foldl (fun s e => if b e then s ||| 2 ^ on e ||| g e else s) s0).testBit i = true →
    s0.testBit i = true ∨ ∃ e ∈ l, b e = true ∧ (i = on e ∨ (g e).testBit i = true)
  | [], s0, h => .inl h
  | e :: l, s0, h => by
    simp only [List.foldl_cons] at h
    rcases bits_fold b on g i l _ h with h | ⟨e', he', h⟩
    · by_cases hb : b e = true
      · simp only [hb, if_true, Nat.testBit_or, Nat.testBit_two_pow, Bool.or_eq_true, decide_eq_true_eq] at h
        rcases h with (h | h) | h
        · exact .inl h
        · exact .inr ⟨e, by simp, hb, .inl h.symm⟩
        · exact .inr ⟨e, by simp, hb, .inr h⟩
      · simp only [hb] at h; exact .inl h
    · exact .inr ⟨e', by simp [he'], h⟩

theorem before_spec (ops : Array Oper) {j i : Nat} (h : ((Region.before ops).toList.getD j 0).testBit i = true) :
    ∃ o, ops[j]? = some o ∧ ∃ e ∈ o.after, Region.binds .any e = true ∧ (i = e.on ∨ (e.on < j ∧ ((Region.before ops).toList.getD e.on 0).testBit i = true)) := by
  have key : ∀ (l : List Oper) (k : Nat) (acc : Array Nat), (∀ i, l[i]? = ops[k + i]?) → acc.size = k →
      (∀ j i, j < k → (acc.getD j 0).testBit i = true → ∃ o, ops[j]? = some o ∧ ∃ e ∈ o.after, Region.binds .any e = true ∧ (i = e.on ∨ (e.on < j ∧ (acc.getD e.on 0).testBit i = true))) →
      ∀ j i, ((l.foldl (fun acc o => acc.push (o.after.foldl (fun s e => if Region.binds .any e then s ||| 2 ^ e.on ||| acc.getD e.on 0 else s) 0)) acc).getD j 0).testBit i = true →
        ∃ o, ops[j]? = some o ∧ ∃ e ∈ o.after, Region.binds .any e = true ∧ (i = e.on ∨ (e.on < j ∧
          ((l.foldl (fun acc o => acc.push (o.after.foldl (fun s e => if Region.binds .any e then s ||| 2 ^ e.on ||| acc.getD e.on 0 else s) 0)) acc).getD e.on 0).testBit i = true)) := by
    intro l
    induction l with
    | nil =>
      intro k acc _ hk hspec j i hji
      simp only [List.foldl_nil] at hji ⊢
      rcases Nat.lt_or_ge j k with hlt | hge
      · exact hspec j i hlt hji
      · simp [Array.getD_eq_getD_getElem?, Array.getElem?_eq_none (show acc.size ≤ j by omega)] at hji
    | cons o l ih =>
      intro k acc hl hk hspec
      simp only [List.foldl_cons]
      have ho : ops[k]? = some o := by have := hl 0; simpa using this.symm
      refine ih (k + 1) _ (fun i => ?_) (by simp [hk]) (fun j i hj hji => ?_)
      · have := hl (i + 1)
        rw [List.getElem?_cons_succ] at this
        rw [this]; congr 1; omega
      · have old : ∀ m, m < k → (acc.push (o.after.foldl (fun s e => if Region.binds .any e then s ||| 2 ^ e.on ||| acc.getD e.on 0 else s) 0)).getD m 0 = acc.getD m 0 := by
          intro m hm
          simp [Array.getD_eq_getD_getElem?, Array.getElem?_push, show m ≠ acc.size by omega]
        rcases Nat.lt_or_ge j k with hlt | hge
        · rw [old j hlt] at hji
          obtain ⟨o', ho', e, he, hb, hor⟩ := hspec j i hlt hji
          refine ⟨o', ho', e, he, hb, hor.imp id fun ⟨h1, h2⟩ => ⟨h1, by rw [old _ (by omega)]; exact h2⟩⟩
        · have hjk : j = k := by omega
          subst hjk
          have pushd : ∀ X, (acc.push X).getD j 0 = X := by intro X; rw [← hk]; simp [Array.getD_eq_getD_getElem?]
          rw [pushd, ← Array.foldl_toList] at hji
          rcases bits_fold _ _ _ i _ _ hji with h | ⟨e, he, hb, hor⟩
          · simp at h
          · refine ⟨o, ho, e, by simpa using he, hb, hor.imp id fun h => ?_⟩
            have hlt : e.on < j := by
              rcases Nat.lt_or_ge e.on j with h' | h'
              · exact h'
              · simp [Array.getD_eq_getD_getElem?, Array.getElem?_eq_none (show acc.size ≤ e.on by omega)] at h
            exact ⟨hlt, by rw [old _ hlt]; exact h⟩
  have hb : ∀ m, (Region.before ops).toList.getD m 0 = (ops.toList.foldl (fun acc o => acc.push (o.after.foldl (fun s e => if Region.binds .any e then s ||| 2 ^ e.on ||| acc.getD e.on 0 else s) 0)) #[]).getD m 0 := by
    intro m
    unfold Region.before
    rw [← Array.foldl_toList]
    simp [List.getD_eq_getElem?_getD, Array.getD_eq_getD_getElem?]
  rw [hb] at h
  obtain ⟨o, ho, e, he, hbb, hor⟩ := key ops.toList 0 #[] (fun i => by simp) rfl (fun j i hj => by omega) j i h
  exact ⟨o, ho, e, he, hbb, hor.imp id fun ⟨h1, h2⟩ => ⟨h1, by rw [hb]; exact h2⟩⟩

/-- Slots with those of a list alone. -/
def onlyS (l : List Nat) (s : List AV) : List AV := (List.range s.length).map fun t => if t ∈ l then s.getD t .undef else .undef

theorem onlyS_get {l : List Nat} {s : List AV} (t : Nat) : (onlyS l s).getD t .undef = if t ∈ l then s.getD t .undef else .undef := by
  unfold onlyS
  simp only [List.getD_eq_getElem?_getD]
  rcases Nat.lt_or_ge t s.length with ht | ht
  · rw [List.getElem?_map, List.getElem?_range ht]; rfl
  · rw [List.getElem?_eq_none (by simpa using ht), List.getElem?_eq_none ht]; simp

section
variable {ρ : Type} {P : Program} {E : Env} {s s' : List AV} {h : Heap} {x : ρ}

theorem aop_congr {call : Call ρ} {op : Op} {K : AV → Heap → Bool → Option ρ} (hx : ∀ y ∈ op.operands, aeval s y = aeval s' y) : aop E call s h op K = aop E call s' h op K := by
  have pairs : ∀ ps : Array (Nat × Operand), (∀ y ∈ ps.map (·.2), aeval s y = aeval s' y) → (ps.toList.map fun p => (p.1, aeval s p.2)) = (ps.toList.map fun p => (p.1, aeval s' p.2)) ∧ (ps.toList.map fun p => aeval s p.2) = ps.toList.map fun p => aeval s' p.2 := by
    intro ps hp
    constructor <;> apply List.map_congr_left <;> intro p hm <;> rw [hp p.2 (Array.mem_map.2 ⟨p, by simpa using hm, rfl⟩)]
  have list : ∀ l : Array Operand, (∀ y ∈ l, aeval s y = aeval s' y) → l.toList.map (aeval s) = l.toList.map (aeval s') := fun l hl => List.map_congr_left fun y hy => hl y (by simpa using hy)
  have opt : ∀ l : Option Operand, (∀ y ∈ l.toArray, aeval s y = aeval s' y) → l.map (aeval s) = l.map (aeval s') := fun l hl => by cases l <;> simp_all
  cases op <;> simp only [Op.operands] at hx <;> simp only [aop]
  case build t ps => rw [(pairs ps (fun y hy => hx y (by simpa using hy))).1]
  case buildSlice t n ps => rw [(pairs ps (fun y hy => hx y (by simpa using hy))).1, (pairs ps (fun y hy => hx y (by simpa using hy))).2]
  case makeFunc f first caps =>
    cases f <;> simp only
    rw [list caps (fun y hy => hx y (by simp [hy]))]
  case call c =>
    simp only [Call.operands] at hx
    cases hc : c.callee with
    | builtin b => simp only [hc] at hx ⊢; rw [list c.args (fun y hy => hx y (by simp [hy]))]
    | value f => simp only [hc] at hx ⊢; rw [list c.args (fun y hy => hx y (by simp [hy])), hx f (by simp)]
    | invoke r m => rfl
  case slice t y lo hi mx =>
    rw [hx y (by simp), opt lo (fun y hy => hx y (by simp [hy])), opt hi (fun y hy => hx y (by simp [hy])), opt mx (fun y hy => hx y (by simp [hy]))]
  all_goals first | rfl | (simp_all; done)

theorem abinInt_still {op : BinOp} {k : IntKind} {a b : Int} {K : AV → Option ρ} (hk : abinInt op k a b K = some x) : ∃ v, K v = some x ∧ ∀ {σ : Type} (K' : AV → Option σ), abinInt op k a b K' = K' v := by
  cases op <;> simp only [abinInt] at hk <;> first
    | (cases hk; done)
    | exact ⟨_, hk, fun _ => rfl⟩
    | (by_cases hb : b = 0
       · simp [hb] at hk
       · have hb' : (b == 0) = false := by simpa using hb
         simp only [hb', cond_false] at hk
         exact ⟨_, hk, fun _ => by simp only [abinInt, hb', cond_false]⟩)

theorem ashift_still {op : BinOp} {k : IntKind} {a b : Int} {K : AV → Option ρ} (hk : ashift op k a b K = some x) : ∃ v, K v = some x ∧ ∀ {σ : Type} (K' : AV → Option σ), ashift op k a b K' = K' v := by
  unfold ashift at hk
  by_cases hb : b < 0
  · simp [hb] at hk
  · cases op <;> simp only [hb, decide_false, cond_false] at hk <;> first
      | (cases hk; done)
      | exact ⟨_, hk, fun _ => by simp [ashift, hb]⟩

theorem abinStr_still {op : BinOp} {a b : ByteArray} {K : AV → Option ρ} (hk : abinStr op a b K = some x) : ∃ v, K v = some x ∧ ∀ {σ : Type} (K' : AV → Option σ), abinStr op a b K' = K' v := by
  cases op <;> simp only [abinStr] at hk <;> first
    | (cases hk; done)
    | exact ⟨_, hk, fun _ => rfl⟩
    | (by_cases hb : a.size + b.size ≤ 9223372036854775807
       · simp only [hb, decide_true, cond_true] at hk
         exact ⟨_, hk, fun _ => by simp only [abinStr, hb, decide_true, cond_true]⟩
       · simp [hb] at hk)

theorem abin_still {op : BinOp} {t : TypeId} {a b : AV} {K : AV → Option ρ} (hk : abin E op t a b K = some x) : ∃ v, K v = some x ∧ ∀ {σ : Type} (K' : AV → Option σ), abin E op t a b K' = K' v := by
  unfold abin at hk
  split at hk
  · rename_i k a k' b
    split at hk
    · obtain ⟨v, h1, h2⟩ := ashift_still hk; exact ⟨v, h1, fun K' => by simp only [abin]; exact h2 K'⟩
    · obtain ⟨v, h1, h2⟩ := ashift_still hk; exact ⟨v, h1, fun K' => by simp only [abin]; exact h2 K'⟩
    · rename_i n1 n2
      split at hk
      · rename_i hkk
        obtain ⟨v, h1, h2⟩ := abinInt_still hk
        refine ⟨v, h1, fun K' => ?_⟩
        rw [← h2 K']
        unfold abin
        simp only [hkk, if_true]
      · cases hk
  · obtain ⟨v, h1, h2⟩ := abinStr_still hk; exact ⟨v, h1, fun K' => by simp only [abin]; exact h2 K'⟩
  · split at hk
    · rename_i e he; exact ⟨_, hk, fun K' => by simp only [abin, he]⟩
    · cases hk
  · rename_i n1 n2 n3
    have fall : ∀ {σ : Type} (K' : AV → Option σ), abin E op t a b K' = (match eqKind E t op with
     | some (e, .struct fs) =>
       bif a.isAgg && b.isAgg && (fs.zipIdx.all fun p => p.1.1 == p.2) then
       (match eqCells E fs a.cells b.cells with
        | some r => K' (.bool (bif e then r else !r))
        | none => none) else none
     | some (e, .ptr _) =>
       (match (generalizing := false) a, b with
        | .nilp, .nilp => K' (.bool e)
        | .nilp, y => bif isAddr y then K' (.bool (!e)) else none
        | x, .nilp => bif isAddr x then K' (.bool (!e)) else none
        | _, _ => none)
     | _ => none) := by
      intro σ K'
      unfold abin
      split
      · exact absurd rfl (n1 _ _ _ _ rfl)
      · exact absurd rfl (n2 _ _ rfl)
      · exact absurd rfl (n3 _ _ rfl)
      · rfl
    split at hk
    · rename_i e fs he
      by_cases hc : (a.isAgg && b.isAgg && (fs.zipIdx.all fun p => p.1.1 == p.2)) = true
      · simp only [hc, cond_true] at hk
        split at hk
        · rename_i r hr
          exact ⟨_, hk, fun K' => by rw [fall K']; simp only [he, hc, cond_true, hr]⟩
        · cases hk
      · simp only [Bool.not_eq_true] at hc; simp only [hc, cond_false, reduceCtorEq] at hk
    · rename_i e p he
      split at hk
      · exact ⟨_, hk, fun K' => by rw [fall K']; simp only [he]⟩
      · rename_i q
        cases hq : isAddr b with
        | false => simp [hq] at hk
        | true =>
          simp only [hq, cond_true] at hk
          refine ⟨_, hk, fun K' => ?_⟩
          rw [fall K']
          cases b <;> simp [isAddr] at hq <;> simp only [he, isAddr, cond_true]
      · rename_i q
        cases hq : isAddr a with
        | false => simp [hq] at hk
        | true =>
          simp only [hq, cond_true] at hk
          refine ⟨_, hk, fun K' => ?_⟩
          rw [fall K']
          cases a <;> simp [isAddr] at hq <;> simp only [he, isAddr, cond_true]
      · cases hk
    · cases hk

theorem aun_still {op : UnOp} {a : AV} {K : AV → Option ρ} (hk : aun op a K = some x) : ∃ v, K v = some x ∧ ∀ {σ : Type} (K' : AV → Option σ), aun op a K' = K' v := by
  unfold aun at hk
  split at hk
  · exact ⟨_, hk, fun _ => rfl⟩
  · exact ⟨_, hk, fun _ => rfl⟩
  · cases hk

/-- What does not look into memory: the same at any. -/
theorem aop_still {call : Call ρ} {op : Op} (hh : heapy op = false) {K : AV → Heap → Bool → Option ρ} (hk : aop E call s h op K = some x) :
    ∃ v, K v h false = some x ∧ ∀ {σ : Type} (call' : Call σ) (h' : Heap) (K' : AV → Heap → Bool → Option σ), aop E call' s h' op K' = K' v h' false := by
  cases op <;> simp only [aop, reduceCtorEq] at hk <;> simp only [heapy, reduceCtorEq] at hh
  case move y => exact ⟨_, hk, fun _ _ _ => rfl⟩
  case assign y => exact ⟨_, hk, fun _ _ _ => rfl⟩
  case pick q a b =>
    split at hk
    · rename_i t ht
      cases t
      · exact ⟨_, hk, fun _ _ _ => by simp only [aop, ht, cond_false]⟩
      · exact ⟨_, hk, fun _ _ _ => by simp only [aop, ht, cond_true]⟩
    · cases hk
  case build t ps =>
    split at hk
    · rename_i fs n1 n2 z n3 ht
      split at hk
      · rename_i cs hcs; exact ⟨_, hk, fun _ _ _ => by simp only [aop, ht, hcs]⟩
      · cases hk
    · cases hk
  case nilCheck y =>
    split at hk <;> first | (cases hk; done) | (rename_i ha; exact ⟨_, hk, fun _ _ _ => by simp only [aop, ha]⟩)
  case binOp op t y z u =>
    obtain ⟨v, h1, h2⟩ := abin_still hk
    exact ⟨v, h1, fun _ h' K' => by simp only [aop]; exact h2 _⟩
  case unOp op t y =>
    obtain ⟨v, h1, h2⟩ := aun_still hk
    exact ⟨v, h1, fun _ h' K' => by simp only [aop]; exact h2 _⟩
  case makeFunc f fs caps =>
    cases f <;> simp only [reduceCtorEq] at hk
    rename_i f
    by_cases h0 : fs.size = 0
    · simp only [h0, BEq.rfl, cond_true] at hk
      exact ⟨_, hk, fun _ _ _ => by simp only [aop, h0, BEq.rfl, cond_true]⟩
    · have : (fs.size == 0) = false := by simpa using h0
      simp [this] at hk
  case fieldAddr t y j =>
    split at hk
    · rename_i fs n1 n2 n3 n4 ht
      split at hk
      · rename_i off ft hj
        split at hk <;> first | (cases hk; done) | (rename_i ha; exact ⟨_, hk, fun _ _ _ => by simp only [aop, ht, hj, ha]⟩)
      · cases hk
    · cases hk
  case field t y j =>
    split at hk
    · rename_i fs n1 n2 n3 n4 ht
      split at hk
      · rename_i off ft hj
        split at hk
        · rename_i ti hti
          split at hk
          · rename_i v hv; exact ⟨_, hk, fun _ _ _ => by simp only [aop, ht, hj, hti, hv]⟩
          · cases hk
        · cases hk
      · cases hk
    · cases hk
  case index t y z =>
    split at hk
    · rename_i b k n h1 h2 h3
      by_cases h0 : 0 ≤ n
      · by_cases h4 : n < (b.size : Int)
        · simp only [h0, h4, decide_true, cond_true] at hk
          exact ⟨_, hk, fun _ _ _ => by simp only [aop, h1, h2, h3, h0, h4, decide_true, cond_true]⟩
        · simp [h0, h4] at hk
      · simp [h0] at hk
    · cases hk
  case extract y j =>
    split at hk
    · rename_i vs hv
      split at hk
      · rename_i v hj; exact ⟨_, hk, fun _ _ _ => by simp only [aop, hv, hj]⟩
      · cases hk
    · cases hk

theorem withB_still {lo hi : Option AV} {n : Nat} {K : Nat → Nat → Option ρ} (hk : withBounds lo hi n K = some x) : ∃ a b, K a b = some x ∧ ∀ {σ : Type} (K' : Nat → Nat → Option σ), withBounds lo hi n K' = K' a b := by
  unfold withBounds at hk
  split at hk
  · rename_i k b
    by_cases h1 : 0 ≤ b
    · by_cases h2 : b ≤ (n : Int)
      · simp only [h1, h2, decide_true, cond_true] at hk
        split at hk
        · rename_i k' a
          by_cases h3 : 0 ≤ a
          · by_cases h4 : a ≤ b
            · simp only [h3, h4, decide_true, cond_true] at hk
              exact ⟨_, _, hk, fun _ => by simp only [withBounds, h1, h2, h3, h4, decide_true, cond_true]⟩
            · simp [h3, h4] at hk
          · simp [h3] at hk
        · exact ⟨_, _, hk, fun _ => by simp only [withBounds, h1, h2, decide_true, cond_true]⟩
        · cases hk
      · simp [h1, h2] at hk
    · simp [h1] at hk
  · split at hk
    · rename_i k' a
      by_cases h3 : 0 ≤ a
      · by_cases h4 : a ≤ (n : Int)
        · simp only [h3, h4, decide_true, cond_true] at hk
          exact ⟨_, _, hk, fun _ => by simp only [withBounds, h3, h4, decide_true, cond_true]⟩
        · simp [h3, h4] at hk
      · simp [h3] at hk
    · exact ⟨_, _, hk, fun _ => by simp only [withBounds]⟩
    · cases hk
  · cases hk

/-- What looks at some rows alone: the same at any heap that has these. -/
theorem aop_look {call : Call ρ} {op : Op} {l : List Nat} (hl : lookOf s op = some l) {K : AV → Heap → Bool → Option ρ} (hk : aop E call s h op K = some x) :
    ∃ v, K v h false = some x ∧ ∀ {σ : Type} (call' : Call σ) (h' : Heap) (K' : AV → Heap → Bool → Option σ), (∀ id ∈ l, hget h' id = hget h id) → aop E call' s h' op K' = K' v h' false := by
  by_cases hh : heapy op = false
  · obtain ⟨v, h1, h2⟩ := aop_still hh hk
    exact ⟨v, h1, fun call' h' K' _ => h2 call' h' K'⟩
  cases op <;> simp only [lookOf, heapy, cond_true, reduceCtorEq, not_true_eq_false, not_false_eq_true] at hl hh
  case load t y =>
    simp only [aop] at hk ⊢
    generalize aeval s y = a at hk hl ⊢
    unfold aload at hk ⊢
    split at hk
    · cases hk
    · rename_i ti hti
      cases a <;> simp only [reduceCtorEq] at hl hk
      case ptr id idx sub =>
        cases hl
        split at hk
        · rename_i o ho
          cases hd : dpOk ti o.c sub with
          | true => rw [hd, cond_true] at hk; exact ⟨_, hk, fun _ h' K' heq => by simp only [hti, heq id (by simp), ho, hd, cond_true]⟩
          | false =>
            rw [hd, cond_false] at hk
            split at hk
            · rename_i v hv; exact ⟨_, hk, fun _ h' K' heq => by simp only [hti, heq id (by simp), ho, hd, cond_false, hv]⟩
            · cases hk
        · cases hk
      case tp e y sub =>
        split at hk
        · rename_i v hv; exact ⟨_, hk, fun _ h' K' heq => by simp only [hti, hv]⟩
        · cases hk
      case bp cs sub =>
        split at hk
        · rename_i v hv; exact ⟨_, hk, fun _ h' K' heq => by simp only [hti, hv]⟩
        · cases hk
  case slice t y lo hi mx =>
    simp only [aop] at hk ⊢
    generalize aeval s y = a at hk hl ⊢
    unfold aslice at hk ⊢
    split at hk
    · rename_i b hk1
      cases hm : (mx.map (aeval s)).isNone with
      | false => rw [hm] at hk; cases hk
      | true =>
        rw [hm, cond_true] at hk
        obtain ⟨u, v, h1, h2⟩ := withB_still hk
        exact ⟨_, h1, fun _ h' K' heq => by simp only [hk1, hm, cond_true]; exact h2 _⟩
    · rename_i a o1 a1 e hk1
      cases he : (E.ty e).isNone with
      | true => rw [he] at hk; cases hk
      | false =>
        rw [he, cond_false] at hk
        have hlen : ∀ h', (∀ id ∈ l, hget h' id = hget h id) → lenOf h' a = lenOf h a ∧ fits E t a h' = fits E t a h := by
          intro h' heq
          cases a <;> simp only [reduceCtorEq, Option.some.injEq] at hl <;> first
            | exact ⟨rfl, rfl⟩
            | (subst hl; rename_i tt _; cases tt <;> exact ⟨rfl, rfl⟩)
            | (subst hl; have := heq _ (List.mem_singleton.2 rfl); exact ⟨by simp only [lenOf, this], by simp only [fits, esOf, this]⟩)
        cases hz : isZero (mx.map (aeval s)) with
        | true =>
          rw [hz, cond_true] at hk
          cases hq : ((lo.map (aeval s)).isNone && isZero (hi.map (aeval s))) with
          | false => rw [hq] at hk; cases hk
          | true =>
            rw [hq, cond_true] at hk
            split at hk
            · rename_i n hn
              refine ⟨_, hk, fun _ h' K' heq => ?_⟩
              simp only [hk1, he, hz, hq, cond_true, cond_false, (hlen h' heq).1, hn]
            · cases hk
        | false =>
          rw [hz, cond_false] at hk
          cases hm : (mx.map (aeval s)).isNone with
          | false => rw [hm] at hk; cases hk
          | true =>
            rw [hm, cond_true] at hk
            split at hk
            · rename_i id
              cases hl
              split at hk
              · rename_i o ho
                cases hf : fits E t (.sl id) h with
                | false => rw [hf] at hk; cases hk
                | true =>
                  rw [hf, cond_true] at hk
                  obtain ⟨u, v, h1, h2⟩ := withB_still hk
                  refine ⟨_, h1, fun _ h' K' heq => ?_⟩
                  simp only [hk1, he, hz, hm, cond_true, cond_false, heq id (by simp), ho, (hlen h' heq).2, hf]
                  exact h2 _
              · cases hk
            · rename_i id off n
              cases hl
              cases hf : fits E t (.ss id off n) h with
              | false => rw [hf] at hk; cases hk
              | true =>
                rw [hf, cond_true] at hk
                obtain ⟨u, v, h1, h2⟩ := withB_still hk
                refine ⟨_, h1, fun _ h' K' heq => ?_⟩
                simp only [hk1, he, hz, hm, cond_true, cond_false, (hlen h' heq).2, hf]
                exact h2 _
            · rename_i e' xs
              cases hl
              cases hf : fits E t (.tv (.row e') xs) h with
              | false => rw [hf] at hk; cases hk
              | true =>
                rw [hf, cond_true] at hk
                obtain ⟨u, v, h1, h2⟩ := withB_still hk
                refine ⟨_, h1, fun _ h' K' heq => ?_⟩
                simp only [hk1, he, hz, hm, cond_true, cond_false, (hlen h' heq).2, hf]
                exact h2 _
            · obtain ⟨u, v, h1, h2⟩ := withB_still hk
              refine ⟨_, h1, fun _ h' K' heq => ?_⟩
              simp only [hk1, he, hz, hm, cond_true, cond_false]
              exact h2 _
            · cases hk
    · cases hk
  case indexAddr t y z =>
    simp only [aop] at hk ⊢
    generalize aeval s y = a at hk hl ⊢
    generalize aeval s z = b at hk ⊢
    cases b <;> simp only [reduceCtorEq] at hk
    rename_i k n
    unfold aindexAddr at hk ⊢
    have hfit : ∀ h', (∀ id ∈ l, hget h' id = hget h id) → fits E t a h' = fits E t a h := by
      intro h' heq
      cases a <;> simp only [reduceCtorEq, Option.some.injEq] at hl <;> first
        | rfl
        | (subst hl; rename_i tt _; cases tt <;> rfl)
        | (subst hl; have := heq _ (List.mem_singleton.2 rfl); simp only [fits, esOf, this])
    cases hf : fits E t a h with
    | false => rw [hf] at hk; cases hk
    | true =>
      rw [hf, cond_true] at hk
      split at hk
      · rename_i id
        cases hl
        split at hk
        · rename_i o ho
          by_cases h1 : 0 ≤ n
          · by_cases h2 : n < (o.c.len : Int)
            · simp only [h1, h2, decide_true, cond_true] at hk
              exact ⟨_, hk, fun _ h' K' heq => by simp only [hfit h' heq, hf, cond_true, heq id (by simp), ho, h1, h2, decide_true]⟩
            · simp [h1, h2] at hk
          · simp [h1] at hk
        · cases hk
      · rename_i id off m
        by_cases h1 : 0 ≤ n
        · by_cases h2 : n < (m : Int)
          · simp only [h1, h2, decide_true, cond_true] at hk
            exact ⟨_, hk, fun _ h' K' heq => by simp only [hfit h' heq, hf, cond_true, h1, h2, decide_true]⟩
          · simp [h1, h2] at hk
        · simp [h1] at hk
      · rename_i e xs
        by_cases h1 : 0 ≤ n
        · by_cases h2 : n < (List.length xs : Int)
          · simp only [h1, h2, decide_true, cond_true] at hk
            exact ⟨_, hk, fun _ h' K' heq => by simp only [hfit h' heq, hf, cond_true, h1, h2, decide_true]⟩
          · simp [h1, h2] at hk
        · simp [h1] at hk
      · cases hk
  case convert src dst y =>
    simp only [aop] at hk ⊢
    generalize aeval s y = a at hk hl ⊢
    cases a <;> simp only [reduceCtorEq] at hl
    rename_i k n
    unfold aconv at hk ⊢
    split at hk
    · rename_i h1 h2 h3; cases h3; exact ⟨_, hk, fun _ h' K' heq => by simp only [h1, h2]⟩
    · rename_i h1 h2 h3; cases h3; exact ⟨_, hk, fun _ h' K' heq => by simp only [h1, h2]⟩
    · rename_i h3; cases h3
    · rename_i h3; cases h3
    · split at hk
      · rename_i h4; cases h4
      · cases hk
    · cases hk
end
end Go.AM
