/- An interpreter of the model's code over values that are told, and its soundness. -/
import Derived.Test.YtajlenpookikoaaAS17
namespace Go.AM

/-! Soundness: what a region's operations look at; its order. -/
theorem bits_fold {α : Type} (b : α → Bool) (on : α → Nat) (g : α → Nat) (i : Nat) : ∀ (l : List α) (s0 : Nat), (l.foldl (fun s e => if b e then s ||| 2 ^ on e ||| g e else s) s0).testBit i = true →
    s0.testBit i = true ∨ ∃ e ∈ l, b e = true ∧ (i = on e ∨ (g e).testBit i = true)
  | [], s0, h => .inl h
  | e :: l, s0, h => by
    simp only [List.foldl_cons] at h
    rcases bits_fold b on g i l _ h with h | ⟨e', he', h⟩
    · by_cases hb : b e = true
      · simp only [hb, if_true, Nat.testBit_or, Nat.testBit_two_pow, Bool.or_eq_true, decide_eq_true_eq] at h
        rcases h with (h | h) | h
        · exact .inl h
        · exact .inr ⟨e, by simp, hb, .inl h.symm⟩
        · exact .inr ⟨e, by simp, hb, .inr h⟩
      · simp only [hb] at h; exact .inl h
    · exact .inr ⟨e', by simp [he'], h⟩

theorem before_spec (ops : Array Oper) {j i : Nat} (h : ((Region.before ops).toList.getD j 0).testBit i = true) :
    ∃ o, ops[j]? = some o ∧ ∃ e ∈ o.after, Region.binds .any e = true ∧ (i = e.on ∨ (e.on < j ∧ ((Region.before ops).toList.getD e.on 0).testBit i = true)) := by
  have key : ∀ (l : List Oper) (k : Nat) (acc : Array Nat), (∀ i, l[i]? = ops[k + i]?) → acc.size = k →
      (∀ j i, j < k → (acc.getD j 0).testBit i = true → ∃ o, ops[j]? = some o ∧ ∃ e ∈ o.after, Region.binds .any e = true ∧ (i = e.on ∨ (e.on < j ∧ (acc.getD e.on 0).testBit i = true))) →
      ∀ j i, ((l.foldl (fun acc o => acc.push (o.after.foldl (fun s e => if Region.binds .any e then s ||| 2 ^ e.on ||| acc.getD e.on 0 else s) 0)) acc).getD j 0).testBit i = true →
        ∃ o, ops[j]? = some o ∧ ∃ e ∈ o.after, Region.binds .any e = true ∧ (i = e.on ∨ (e.on < j ∧
          ((l.foldl (fun acc o => acc.push (o.after.foldl (fun s e => if Region.binds .any e then s ||| 2 ^ e.on ||| acc.getD e.on 0 else s) 0)) acc).getD e.on 0).testBit i = true)) := by
    intro l
    induction l with
    | nil =>
      intro k acc _ hk hspec j i hji
      simp only [List.foldl_nil] at hji ⊢
      rcases Nat.lt_or_ge j k with hlt | hge
      · exact hspec j i hlt hji
      · simp [Array.getD_eq_getD_getElem?, Array.getElem?_eq_none (show acc.size ≤ j by omega)] at hji
    | cons o l ih =>
      intro k acc hl hk hspec
      simp only [List.foldl_cons]
      have ho : ops[k]? = some o := by have := hl 0; simpa using this.symm
      refine ih (k + 1) _ (fun i => ?_) (by simp [hk]) (fun j i hj hji => ?_)
      · have := hl (i + 1)
        rw [List.getElem?_cons_succ] at this
        rw [this]; congr 1; omega
      · have old : ∀ m, m < k → (acc.push (o.after.foldl (fun s e => if Region.binds .any e then s ||| 2 ^ e.on ||| acc.getD e.on 0 else s) 0)).getD m 0 = acc.getD m 0 := by
          intro m hm
          simp [Array.getD_eq_getD_getElem?, Array.getElem?_push, show m ≠ acc.size by omega]
        rcases Nat.lt_or_ge j k with hlt | hge
        · rw [old j hlt] at hji
          obtain ⟨o', ho', e, he, hb, hor⟩ := hspec j i hlt hji
          refine ⟨o', ho', e, he, hb, hor.imp id fun ⟨h1, h2⟩ => ⟨h1, by rw [old _ (by omega)]; exact h2⟩⟩
        · have hjk : j = k := by omega
          subst hjk
          have pushd : ∀ X, (acc.push X).getD j 0 = X := by intro X; rw [← hk]; simp [Array.getD_eq_getD_getElem?]
          rw [pushd, ← Array.foldl_toList] at hji
          rcases bits_fold _ _ _ i _ _ hji with h | ⟨e, he, hb, hor⟩
          · simp at h
          · refine ⟨o, ho, e, by simpa using he, hb, hor.imp id fun h => ?_⟩
            have hlt : e.on < j := by
              rcases Nat.lt_or_ge e.on j with h' | h'
              · exact h'
              · simp [Array.getD_eq_getD_getElem?, Array.getElem?_eq_none (show acc.size ≤ e.on by omega)] at h
            exact ⟨hlt, by rw [old _ hlt]; exact h⟩
  have hb : ∀ m, (Region.before ops).toList.getD m 0 = (ops.toList.foldl (fun acc o => acc.push (o.after.foldl (fun s e => if Region.binds .any e then s ||| 2 ^ e.on ||| acc.getD e.on 0 else s) 0)) #[]).getD m 0 := by
    intro m
    unfold Region.before
    rw [← Array.foldl_toList]
    simp [List.getD_eq_getElem?_getD, Array.getD_eq_getD_getElem?]
  rw [hb] at h
  obtain ⟨o, ho, e, he, hbb, hor⟩ := key ops.toList 0 #[] (fun i => by simp) rfl (fun j i hj => by omega) j i h
  exact ⟨o, ho, e, he, hbb, hor.imp id fun ⟨h1, h2⟩ => ⟨h1, by rw [hb]; exact h2⟩⟩

/-- Slots with those of a list alone. -/
def onlyS (l : List Nat) (s : List AV) : List AV := (List.range s.length).map fun t => if t ∈ l then s.getD t .undef else .undef

theorem onlyS_get {l : List Nat} {s : List AV} (t : Nat) : (onlyS l s).getD t .undef = if t ∈ l then s.getD t .undef else .undef := by
  unfold onlyS
  simp only [List.getD_eq_getElem?_getD]
  rcases Nat.lt_or_ge t s.length with ht | ht
  · rw [List.getElem?_map, List.getElem?_range ht]; rfl
  · rw [List.getElem?_eq_none (by simpa using ht), List.getElem?_eq_none ht]; simp

section
variable {ρ : Type} {P : Program} {E : Env} {s s' : List AV} {h : Heap} {x : ρ}

theorem aop_congr {call : Call ρ} {op : Op} {K : AV → Heap → Bool → Option ρ} (hx : ∀ y ∈ op.operands, aeval s y = aeval s' y) : aop E call s h op K = aop E call s' h op K := by
  have pairs : ∀ ps : Array (Nat × Operand), (∀ y ∈ ps.map (·.2), aeval s y = aeval s' y) → (ps.toList.map fun p => (p.1, aeval s p.2)) = (ps.toList.map fun p => (p.1, aeval s' p.2)) ∧ (ps.toList.map fun p => aeval s p.2) = ps.toList.map fun p => aeval s' p.2 := by
    intro ps hp
    constructor <;> apply List.map_congr_left <;> intro p hm <;> rw [hp p.2 (Array.mem_map.2 ⟨p, by simpa using hm, rfl⟩)]
  have list : ∀ l : Array Operand, (∀ y ∈ l, aeval s y = aeval s' y) → l.toList.map (aeval s) = l.toList.map (aeval s') := fun l hl => List.map_congr_left fun y hy => hl y (by simpa using hy)
  have opt : ∀ l : Option Operand, (∀ y ∈ l.toArray, aeval s y = aeval s' y) → l.map (aeval s) = l.map (aeval s') := fun l hl => by cases l <;> simp_all
  cases op <;> simp only [Op.operands] at hx <;> simp only [aop]
  case build t ps => rw [(pairs ps (fun y hy => hx y (by simpa using hy))).1]
  case buildSlice t n ps => rw [(pairs ps (fun y hy => hx y (by simpa using hy))).1, (pairs ps (fun y hy => hx y (by simpa using hy))).2]
  case makeFunc f first caps =>
    cases f <;> simp only
    rw [list caps (fun y hy => hx y (by simp [hy]))]
  case call c =>
    simp only [Call.operands] at hx
    cases hc : c.callee with
    | builtin b => simp only [hc] at hx ⊢; rw [list c.args (fun y hy => hx y (by simp [hy]))]
    | value f => simp only [hc] at hx ⊢; rw [list c.args (fun y hy => hx y (by simp [hy])), hx f (by simp)]
    | invoke r m => rfl
  case slice t y lo hi mx =>
    rw [hx y (by simp), opt lo (fun y hy => hx y (by simp [hy])), opt hi (fun y hy => hx y (by simp [hy])), opt mx (fun y hy => hx y (by simp [hy]))]
  all_goals first | rfl | (simp_all; done)

theorem abinInt_still {op : BinOp} {k : IntKind} {a b : Int} {K : AV → Option ρ} (hk : abinInt op k a b K = some x) : ∃ v, K v = some x ∧ ∀ {σ : Type} (K' : AV → Option σ), abinInt op k a b K' = K' v := by
  cases op <;> simp only [abinInt] at hk <;> first
    | (cases hk; done)
    | exact ⟨_, hk, fun _ => rfl⟩
    | (by_cases hb : b = 0
       · simp [hb] at hk
       · have hb' : (b == 0) = false := by simpa using hb
         simp only [hb', cond_false] at hk
         exact ⟨_, hk, fun _ => by simp only [abinInt, hb', cond_false]⟩)

theorem ashift_still {op : BinOp} {k : IntKind} {a b : Int} {K : AV → Option ρ} (hk : ashift op k a b K = some x) : ∃ v, K v = some x ∧ ∀ {σ : Type} (K' : AV → Option σ), ashift op k a b K' = K' v := by
  unfold ashift at hk
  by_cases hb : b < 0
  · simp [hb] at hk
  · cases op <;> simp only [hb, decide_false, cond_false] at hk <;> first
      | (cases hk; done)
      | exact ⟨_, hk, fun _ => by simp [ashift, hb]⟩

theorem abinStr_still {op : BinOp} {a b : ByteArray} {K : AV → Option ρ} (hk : abinStr op a b K = some x) : ∃ v, K v = some x ∧ ∀ {σ : Type} (K' : AV → Option σ), abinStr op a b K' = K' v := by
  cases op <;> simp only [abinStr] at hk <;> first
    | (cases hk; done)
    | exact ⟨_, hk, fun _ => rfl⟩
    | (by_cases hb : a.size + b.size ≤ 9223372036854775807
       · simp only [hb, decide_true, cond_true] at hk
         exact ⟨_, hk, fun _ => by simp only [abinStr, hb, decide_true, cond_true]⟩
       · simp [hb] at hk)

theorem abin_still {op : BinOp} {t : TypeId} {a b : AV} {K : AV → Option ρ} (hk : abin E op t a b K = some x) : ∃ v, K v = some x ∧ ∀ {σ : Type} (K' : AV → Option σ), abin E op t a b K' = K' v := by
  unfold abin at hk
  split at hk
  · rename_i k a k' b
    split at hk
    · obtain ⟨v, h1, h2⟩ := ashift_still hk; exact ⟨v, h1, fun K' => by simp only [abin]; exact h2 K'⟩
    · obtain ⟨v, h1, h2⟩ := ashift_still hk; exact ⟨v, h1, fun K' => by simp only [abin]; exact h2 K'⟩
    · rename_i n1 n2
      split at hk
      · rename_i hkk
        obtain ⟨v, h1, h2⟩ := abinInt_still hk
        refine ⟨v, h1, fun K' => ?_⟩
        rw [← h2 K']
        unfold abin
        simp only [hkk, if_true]
      · cases hk
  · obtain ⟨v, h1, h2⟩ := abinStr_still hk; exact ⟨v, h1, fun K' => by simp only [abin]; exact h2 K'⟩
  · split at hk
    · rename_i e he; exact ⟨_, hk, fun K' => by simp only [abin, he]⟩
    · cases hk
  · rename_i n1 n2 n3
    have fall : ∀ {σ : Type} (K' : AV → Option σ), abin E op t a b K' = (match eqKind E t op with
     | some (e, .struct fs) =>
       bif a.isAgg && b.isAgg && (fs.zipIdx.all fun p => p.1.1 == p.2) then
       (match eqCells E fs a.cells b.cells with
        | some r => K' (.bool (bif e then r else !r))
        | none => none) else none
     | some (e, .ptr _) =>
       (match (generalizing := false) a, b with
        | .nilp, .nilp => K' (.bool e)
        | .nilp, y => bif isAddr y then K' (.bool (!e)) else none
        | x, .nilp => bif isAddr x then K' (.bool (!e)) else none
        | _, _ => none)
     | _ => none) := by
      intro σ K'
      unfold abin
      split
      · exact absurd rfl (n1 _ _ _ _ rfl)
      · exact absurd rfl (n2 _ _ rfl)
      · exact absurd rfl (n3 _ _ rfl)
      · rfl
    split at hk
    · rename_i e fs he
      by_cases hc : (a.isAgg && b.isAgg && (fs.zipIdx.all fun p => p.1.1 == p.2)) = true
      · simp only [hc, cond_true] at hk
        split at hk
        · rename_i r hr
          exact ⟨_, hk, fun K' => by rw [fall K']; simp only [he, hc, cond_true, hr]⟩
        · cases hk
      · simp only [Bool.not_eq_true] at hc; simp only [hc, cond_false, reduceCtorEq] at hk
    · rename_i e p he
      split at hk
      · exact ⟨_, hk, fun K' => by rw [fall K']; simp only [he]⟩
      · rename_i q
        cases hq : isAddr b with
        | false => simp [hq] at hk
        | true =>
          simp only [hq, cond_true] at hk
          refine ⟨_, hk, fun K' => ?_⟩
          rw [fall K']
          cases b <;> simp [isAddr] at hq <;> simp only [he, isAddr, cond_true]
      · rename_i q
        cases hq : isAddr a with
        | false => simp [hq] at hk
        | true =>
          simp only [hq, cond_true] at hk
          refine ⟨_, hk, fun K' => ?_⟩
          rw [fall K']
          cases a <;> simp [isAddr] at hq <;> simp only [he, isAddr, cond_true]
      · cases hk
    · cases hk

theorem aun_still {op : UnOp} {a : AV} {K : AV → Option ρ} (hk : aun op a K = some x) : ∃ v, K v = some x ∧ ∀ {σ : Type} (K' : AV → Option σ), aun op a K' = K' v := by
  unfold aun at hk
  split at hk
  · exact ⟨_, hk, fun _ => rfl⟩
  · exact ⟨_, hk, fun _ => rfl⟩
  · cases hk

/-- What does not look into memory: the same at any. -/
theorem aop_still {call : Call ρ} {op : Op} (hh : heapy op = false) {K : AV → Heap → Bool → Option ρ} (hk : aop E call s h op K = some x) :
    ∃ v, K v h false = some x ∧ ∀ {σ : Type} (call' : Call σ) (h' : Heap) (K' : AV → Heap → Bool → Option σ), aop E call' s h' op K' = K' v h' false := by
  cases op <;> simp only [aop, reduceCtorEq] at hk <;> simp only [heapy, reduceCtorEq] at hh
  case move y => exact ⟨_, hk, fun _ _ _ => rfl⟩
  case assign y => exact ⟨_, hk, fun _ _ _ => rfl⟩
  case pick q a b =>
    split at hk
    · rename_i t ht
      cases t
      · exact ⟨_, hk, fun _ _ _ => by simp only [aop, ht, cond_false]⟩
      · exact ⟨_, hk, fun _ _ _ => by simp only [aop, ht, cond_true]⟩
    · cases hk
  case build t ps =>
    split at hk
    · rename_i fs n1 n2 z n3 ht
      split at hk
      · rename_i cs hcs; exact ⟨_, hk, fun _ _ _ => by simp only [aop, ht, hcs]⟩
      · cases hk
    · cases hk
  case nilCheck y =>
    split at hk <;> first | (cases hk; done) | (rename_i ha; exact ⟨_, hk, fun _ _ _ => by simp only [aop, ha]⟩)
  case binOp op t y z u =>
    obtain ⟨v, h1, h2⟩ := abin_still hk
    exact ⟨v, h1, fun _ h' K' => by simp only [aop]; exact h2 _⟩
  case unOp op t y =>
    obtain ⟨v, h1, h2⟩ := aun_still hk
    exact ⟨v, h1, fun _ h' K' => by simp only [aop]; exact h2 _⟩
  case makeFunc f fs caps =>
    cases f <;> simp only [reduceCtorEq] at hk
    rename_i f
    by_cases h0 : fs.size = 0
    · simp only [h0, BEq.rfl, cond_true] at hk
      exact ⟨_, hk, fun _ _ _ => by simp only [aop, h0, BEq.rfl, cond_true]⟩
    · have : (fs.size == 0) = false := by simpa using h0
      simp [this] at hk
  case fieldAddr t y j =>
    split at hk
    · rename_i fs n1 n2 n3 n4 ht
      split at hk
      · rename_i off ft hj
        split at hk <;> first | (cases hk; done) | (rename_i ha; exact ⟨_, hk, fun _ _ _ => by simp only [aop, ht, hj, ha]⟩)
      · cases hk
    · cases hk
  case field t y j =>
    split at hk
    · rename_i fs n1 n2 n3 n4 ht
      split at hk
      · rename_i off ft hj
        split at hk
        · rename_i ti hti
          split at hk
          · rename_i v hv; exact ⟨_, hk, fun _ _ _ => by simp only [aop, ht, hj, hti, hv]⟩
          · cases hk
        · cases hk
      · cases hk
    · cases hk
  case index t y z =>
    split at hk
    · rename_i b k n h1 h2 h3
      by_cases h0 : 0 ≤ n
      · by_cases h4 : n < (b.size : Int)
        · simp only [h0, h4, decide_true, cond_true] at hk
          exact ⟨_, hk, fun _ _ _ => by simp only [aop, h1, h2, h3, h0, h4, decide_true, cond_true]⟩
        · simp [h0, h4] at hk
      · simp [h0] at hk
    · cases hk
  case extract y j =>
    split at hk
    · rename_i vs hv
      split at hk
      · rename_i v hj; exact ⟨_, hk, fun _ _ _ => by simp only [aop, hv, hj]⟩
      · cases hk
    · cases hk

theorem withB_still {lo hi : Option AV} {n : Nat} {K : Nat → Nat → Option ρ} (hk : withBounds lo hi n K = some x) : ∃ a b, K a b = some x ∧ ∀ {σ : Type} (K' : Nat → Nat → Option σ), withBounds lo hi n K' = K' a b := by
  unfold withBounds at hk
  split at hk
  · rename_i k b
    by_cases h1 : 0 ≤ b
    · by_cases h2 : b ≤ (n : Int)
      · simp only [h1, h2, decide_true, cond_true] at hk
        split at hk
        · rename_i k' a
          by_cases h3 : 0 ≤ a
          · by_cases h4 : a ≤ b
            · simp only [h3, h4, decide_true, cond_true] at hk
              exact ⟨_, _, hk, fun _ => by simp only [withBounds, h1, h2, h3, h4, decide_true, cond_true]⟩
            · simp [h3, h4] at hk
          · simp [h3] at hk
        · exact ⟨_, _, hk, fun _ => by simp only [withBounds, h1, h2, decide_true, cond_true]⟩
        · cases hk
      · simp [h1, h2] at hk
    · simp [h1] at hk
  · split at hk
    · rename_i k' a
      by_cases h3 : 0 ≤ a
      · by_cases h4 : a ≤ (n : Int)
        · simp only [h3, h4, decide_true, cond_true] at hk
          exact ⟨_, _, hk, fun _ => by simp only [withBounds, h3, h4, decide_true, cond_true]⟩
        · simp [h3, h4] at hk
      · simp [h3] at hk
    · exact ⟨_, _, hk, fun _ => by simp only [withBounds]⟩
    · cases hk
  · cases hk

/-- What looks at some rows alone: the same at any heap that has these. -/
theorem aop_look {call : Call ρ} {op : Op} {l : List Nat} (hl : lookOf s op = some l) {K : AV → Heap → Bool → Option ρ} (hk : aop E call s h op K = some x) :
    ∃ v, K v h false = some x ∧ ∀ {σ : Type} (call' : Call σ) (h' : Heap) (K' : AV → Heap → Bool → Option σ), (∀ id ∈ l, hget h' id = hget h id) → aop E call' s h' op K' = K' v h' false := by
  by_cases hh : heapy op = false
  · obtain ⟨v, h1, h2⟩ := aop_still hh hk
    exact ⟨v, h1, fun call' h' K' _ => h2 call' h' K'⟩
  cases op <;> simp only [lookOf, heapy, cond_true, reduceCtorEq, not_true_eq_false, not_false_eq_true] at hl hh
  case load t y =>
    simp only [aop] at hk ⊢
    generalize aeval s y = a at hk hl ⊢
    unfold aload at hk ⊢
    split at hk
    · cases hk
    · rename_i ti hti
      cases a <;> simp only [reduceCtorEq] at hl hk
      case ptr id idx sub =>
        cases hl
        split at hk
        · rename_i o ho
          cases hd : dpOk ti o.c sub with
          | true => rw [hd, cond_true] at hk; exact ⟨_, hk, fun _ h' K' heq => by simp only [hti, heq id (by simp), ho, hd, cond_true]⟩
          | false =>
            rw [hd, cond_false] at hk
            split at hk
            · rename_i v hv; exact ⟨_, hk, fun _ h' K' heq => by simp only [hti, heq id (by simp), ho, hd, cond_false, hv]⟩
            · cases hk
        · cases hk
      case tp e y sub =>
        split at hk
        · rename_i v hv; exact ⟨_, hk, fun _ h' K' heq => by simp only [hti, hv]⟩
        · cases hk
      case bp cs sub =>
        split at hk
        · rename_i v hv; exact ⟨_, hk, fun _ h' K' heq => by simp only [hti, hv]⟩
        · cases hk
  case slice t y lo hi mx =>
    simp only [aop] at hk ⊢
    generalize aeval s y = a at hk hl ⊢
    unfold aslice at hk ⊢
    split at hk
    · rename_i b hk1
      cases hm : (mx.map (aeval s)).isNone with
      | false => rw [hm] at hk; cases hk
      | true =>
        rw [hm, cond_true] at hk
        obtain ⟨u, v, h1, h2⟩ := withB_still hk
        exact ⟨_, h1, fun _ h' K' heq => by simp only [hk1, hm, cond_true]; exact h2 _⟩
    · rename_i a o1 a1 e hk1
      cases he : (E.ty e).isNone with
      | true => rw [he] at hk; cases hk
      | false =>
        rw [he, cond_false] at hk
        have hlen : ∀ h', (∀ id ∈ l, hget h' id = hget h id) → lenOf h' a = lenOf h a ∧ fits E t a h' = fits E t a h := by
          intro h' heq
          cases a <;> simp only [reduceCtorEq, Option.some.injEq] at hl <;> first
            | exact ⟨rfl, rfl⟩
            | (subst hl; rename_i tt _; cases tt <;> exact ⟨rfl, rfl⟩)
            | (subst hl; have := heq _ (List.mem_singleton.2 rfl); exact ⟨by simp only [lenOf, this], by simp only [fits, esOf, this]⟩)
        cases hz : isZero (mx.map (aeval s)) with
        | true =>
          rw [hz, cond_true] at hk
          cases hq : ((lo.map (aeval s)).isNone && isZero (hi.map (aeval s))) with
          | false => rw [hq] at hk; cases hk
          | true =>
            rw [hq, cond_true] at hk
            split at hk
            · rename_i n hn
              refine ⟨_, hk, fun _ h' K' heq => ?_⟩
              simp only [hk1, he, hz, hq, cond_true, cond_false, (hlen h' heq).1, hn]
            · cases hk
        | false =>
          rw [hz, cond_false] at hk
          cases hm : (mx.map (aeval s)).isNone with
          | false => rw [hm] at hk; cases hk
          | true =>
            rw [hm, cond_true] at hk
            split at hk
            · rename_i id
              cases hl
              split at hk
              · rename_i o ho
                cases hf : fits E t (.sl id) h with
                | false => rw [hf] at hk; cases hk
                | true =>
                  rw [hf, cond_true] at hk
                  obtain ⟨u, v, h1, h2⟩ := withB_still hk
                  refine ⟨_, h1, fun _ h' K' heq => ?_⟩
                  simp only [hk1, he, hz, hm, cond_true, cond_false, heq id (by simp), ho, (hlen h' heq).2, hf]
                  exact h2 _
              · cases hk
            · rename_i id off n
              cases hl
              cases hf : fits E t (.ss id off n) h with
              | false => rw [hf] at hk; cases hk
              | true =>
                rw [hf, cond_true] at hk
                obtain ⟨u, v, h1, h2⟩ := withB_still hk
                refine ⟨_, h1, fun _ h' K' heq => ?_⟩
                simp only [hk1, he, hz, hm, cond_true, cond_false, (hlen h' heq).2, hf]
                exact h2 _
            · rename_i e' xs
              cases hl
              cases hf : fits E t (.tv (.row e') xs) h with
              | false => rw [hf] at hk; cases hk
              | true =>
                rw [hf, cond_true] at hk
                obtain ⟨u, v, h1, h2⟩ := withB_still hk
                refine ⟨_, h1, fun _ h' K' heq => ?_⟩
                simp only [hk1, he, hz, hm, cond_true, cond_false, (hlen h' heq).2, hf]
                exact h2 _
            · obtain ⟨u, v, h1, h2⟩ := withB_still hk
              refine ⟨_, h1, fun _ h' K' heq => ?_⟩
              simp only [hk1, he, hz, hm, cond_true, cond_false]
              exact h2 _
            · cases hk
    · cases hk
  case indexAddr t y z =>
    simp only [aop] at hk ⊢
    generalize aeval s y = a at hk hl ⊢
    generalize aeval s z = b at hk ⊢
    cases b <;> simp only [reduceCtorEq] at hk
    rename_i k n
    unfold aindexAddr at hk ⊢
    have hfit : ∀ h', (∀ id ∈ l, hget h' id = hget h id) → fits E t a h' = fits E t a h := by
      intro h' heq
      cases a <;> simp only [reduceCtorEq, Option.some.injEq] at hl <;> first
        | rfl
        | (subst hl; rename_i tt _; cases tt <;> rfl)
        | (subst hl; have := heq _ (List.mem_singleton.2 rfl); simp only [fits, esOf, this])
    cases hf : fits E t a h with
    | false => rw [hf] at hk; cases hk
    | true =>
      rw [hf, cond_true] at hk
      split at hk
      · rename_i id
        cases hl
        split at hk
        · rename_i o ho
          by_cases h1 : 0 ≤ n
          · by_cases h2 : n < (o.c.len : Int)
            · simp only [h1, h2, decide_true, cond_true] at hk
              exact ⟨_, hk, fun _ h' K' heq => by simp only [hfit h' heq, hf, cond_true, heq id (by simp), ho, h1, h2, decide_true]⟩
            · simp [h1, h2] at hk
          · simp [h1] at hk
        · cases hk
      · rename_i id off m
        by_cases h1 : 0 ≤ n
        · by_cases h2 : n < (m : Int)
          · simp only [h1, h2, decide_true, cond_true] at hk
            exact ⟨_, hk, fun _ h' K' heq => by simp only [hfit h' heq, hf, cond_true, h1, h2, decide_true]⟩
          · simp [h1, h2] at hk
        · simp [h1] at hk
      · rename_i e xs
        by_cases h1 : 0 ≤ n
        · by_cases h2 : n < (List.length xs : Int)
          · simp only [h1, h2, decide_true, cond_true] at hk
            exact ⟨_, hk, fun _ h' K' heq => by simp only [hfit h' heq, hf, cond_true, h1, h2, decide_true]⟩
          · simp [h1, h2] at hk
        · simp [h1] at hk
      · cases hk
  case convert src dst y =>
    simp only [aop] at hk ⊢
    generalize aeval s y = a at hk hl ⊢
    cases a <;> simp only [reduceCtorEq] at hl
    rename_i k n
    unfold aconv at hk ⊢
    split at hk
    · rename_i h1 h2 h3; cases h3; exact ⟨_, hk, fun _ h' K' heq => by simp only [h1, h2]⟩
    · rename_i h1 h2 h3; cases h3; exact ⟨_, hk, fun _ h' K' heq => by simp only [h1, h2]⟩
    · rename_i h3; cases h3
    · rename_i h3; cases h3
    · split at hk
      · rename_i h4; cases h4
      · cases hk
    · cases hk
end
end Go.AM
namespace Go.AM

/-! Soundness: regions whose order is drawn. -/
structure Ent where
  s : List AV
  h : Heap
  v : AV
  h' : Heap
  m : Bool
  w : Bool
  t : List AV
  l : Option (List Nat)

def Ent.mk' (e : Ent) : Mk := ⟨e.m, e.t, e.l⟩

structure Good (P : Program) (ops : Array Oper) (o : Oper) (e : Ent) : Prop where
  want : ∀ c a, Slots c (onlyS (o.looksAt ops) e.s) a → Region.wanted o (yielded ops a.tmps) = e.w
  ok : e.w = true → OpOk P (onlyS (o.looksAt ops) e.s) e.h o e.v e.h' e.m
  still : ∀ l, e.l = some l → e.h' = e.h ∧ e.m = false ∧ (e.w = true → ∀ h, (∀ id ∈ l, hget h id = hget e.h id) → OpOk P (onlyS (o.looksAt ops) e.s) h o e.v h false)
  off : e.w = false → e.h' = e.h ∧ e.m = false ∧ e.v = .tup []
  keep : ∀ id, id < e.h.length → touch id e.t = false → hget e.h' id = hget e.h id

def Chain : St → List Ent → List Oper → St → Prop
  | st, [], [], stn => st = stn
  | st, e :: es, o :: l, stn => e.s = st.s ∧ e.h = st.h ∧ Chain ⟨putSlot st.s o.dst e.v, e.h'⟩ es l stn
  | _, _, _, _ => False

section
variable {ρ : Type} {P : Program} {E : Env} {x : ρ} {run : Run}

theorem looks_op {ops : Array Oper} {o : Oper} {t : Nat} (h : Operand.tmp t ∈ o.op.operands) : t ∈ o.looksAt ops :=
  List.mem_append_left _ (List.mem_filterMap.2 ⟨.tmp t, by simpa using h, rfl⟩)

theorem aeval_only {ops : Array Oper} {o : Oper} {s : List AV} : ∀ y ∈ o.op.operands, aeval (onlyS (o.looksAt ops) s) y = aeval s y := by
  intro y hy
  cases y with
  | tmp t => simp only [aeval]; rw [onlyS_get, if_pos (looks_op hy)]
  | _ => rfl

theorem vals_only {ops : Array Oper} {o : Oper} {s : List AV} {h : Heap} : opVals (onlyS (o.looksAt ops) s) h o.op = opVals s h o.op := by
  have : o.op.operands.toList.map (aeval (onlyS (o.looksAt ops) s)) = o.op.operands.toList.map (aeval s) := List.map_congr_left fun y hy => aeval_only y (by simpa using hy)
  unfold opVals; rw [this]
theorem look_only {ops : Array Oper} {o : Oper} {s : List AV} : lookOf (onlyS (o.looksAt ops) s) o.op = lookOf s o.op := by
  have key : ∀ y ∈ o.op.operands, aeval (onlyS (o.looksAt ops) s) y = aeval s y := aeval_only
  generalize o.op = op at key
  cases op <;> simp only [Op.operands] at key <;> simp only [lookOf]
  case load t y => rw [key y (by simp)]
  case slice t y lo hi mx => rw [key y (by simp)]
  case indexAddr t y z => rw [key y (by simp)]
  case convert src dst y => rw [key y (by simp)]
theorem op_good (hT : TOk P E) (hC : CallsOk P E run) {ops : Array Oper} {o : Oper} {s : List AV} {h : Heap} {K : AV → Heap → Bool → Option ρ} (hk : aop E (acall E run true) s h o.op K = some x) :
    ∃ v h' m, K v h' m = some x ∧ OpOk P (onlyS (o.looksAt ops) s) h o v h' m ∧ (∀ l, lookOf s o.op = some l → h' = h ∧ m = false ∧ ∀ h2, (∀ id ∈ l, hget h2 id = hget h id) → OpOk P (onlyS (o.looksAt ops) s) h2 o v h2 false) := by
  rw [← aop_congr (s := onlyS (o.looksAt ops) s) aeval_only] at hk
  cases hh : lookOf s o.op with
  | none =>
    obtain ⟨v, h', m, h1, h2⟩ := told_op hT hC hk
    exact ⟨v, h', m, h1, h2, fun l e => by cases e⟩
  | some l =>
    rw [← look_only (ops := ops)] at hh
    obtain ⟨v, h1, h2⟩ := aop_look hh hk
    have key : ∀ h2, (∀ id ∈ l, hget h2 id = hget h id) → OpOk P (onlyS (o.looksAt ops) s) h2 o v h2 false := by
      intro h' heq
      have hk2 := h2 (acall (ρ := AV × Heap × Bool) E run true) h' (fun v h m => some (v, h, m)) heq
      obtain ⟨v2, h3, m2, e1, e2⟩ := told_op hT hC hk2
      simp only [Option.some.injEq, Prod.mk.injEq] at e1
      obtain ⟨rfl, rfl, rfl⟩ := e1
      exact e2
    exact ⟨v, h, false, h1, key h (fun _ _ => rfl), fun l' e => by cases e; exact ⟨rfl, rfl, key⟩⟩

theorem guard_looks {ops : Array Oper} {o : Oper} {j : Nat} {want : Bool} {d : Tmp} (hg : o.guard = some (j, want)) (hd : (ops[j]?).bind (·.dst) = some d) : d ∈ o.looksAt ops := by
  refine List.mem_append_right _ ?_
  simp [hg, hd]

theorem trace_ops (hT : TOk P E) (hC : CallsOk P E run) {ops : Array Oper} : ∀ (l : List Oper) (ms : List Mk) (st : St) (K : List Mk → St → Option ρ), aops E (acall E run true) ops l ms st K = some x →
    ∃ es stn, K (ms ++ es.map Ent.mk') stn = some x ∧ es.length = l.length ∧ (∀ (i : Nat) e, es[i]? = some e → ∃ o, l[i]? = some o ∧ Good P ops o e) ∧ Chain st es l stn
  | [], ms, st, K, hk => by
    simp only [aops] at hk
    exact ⟨[], st, by simpa using hk, rfl, by simp, rfl⟩
  | o :: l, ms, st, K, hk => by
    have one : (∀ c a, Slots c (onlyS (o.looksAt ops) st.s) a → Region.wanted o (yielded ops a.tmps) = true) →
        (aop E (acall E run true) st.s st.h o.op fun v h m => aops E (acall E run true) ops l (ms ++ [⟨m, opVals st.s st.h o.op, lookOf st.s o.op⟩]) ⟨putSlot st.s o.dst v, h⟩ K) = some x →
        ∃ es stn, K (ms ++ es.map Ent.mk') stn = some x ∧ es.length = (o :: l).length ∧ (∀ (i : Nat) e, es[i]? = some e → ∃ o', (o :: l)[i]? = some o' ∧ Good P ops o' e) ∧ Chain st es (o :: l) stn := by
      intro hw hk
      obtain ⟨v, h', m, h1, h2, h3⟩ := op_good (ops := ops) hT hC hk
      obtain ⟨es, stn, k1, k2, k3, k4⟩ := trace_ops hT hC l _ _ K h1
      refine ⟨⟨st.s, st.h, v, h', m, true, opVals st.s st.h o.op, lookOf st.s o.op⟩ :: es, stn, by simpa [Ent.mk'] using k1, by simp [k2], fun i e he => ?_, rfl, rfl, k4⟩
      cases i with
      | zero =>
        simp only [List.getElem?_cons_zero, Option.some.injEq] at he
        subst he
        exact ⟨o, rfl, hw, fun _ => h2, fun l hh => ⟨(h3 l hh).1, (h3 l hh).2.1, fun _ => (h3 l hh).2.2⟩, by simp, fun id hid ht => h2.2.2.2 id hid (by rw [vals_only]; exact ht)⟩
      | succ i => simpa using k3 i e (by simpa using he)
    simp only [aops] at hk
    split at hk
    · rename_i hg
      exact one (fun c a _ => by simp [Region.wanted, hg]) hk
    · rename_i j want hg
      split at hk
      · rename_i d hd
        split at hk
        · rename_i b hb
          have hb' : (onlyS (o.looksAt ops) st.s).getD d .undef = .bool b := by rw [onlyS_get, if_pos (guard_looks hg hd)]; exact hb
          by_cases hbw : b = want
          · subst hbw
            have hset : st.s.set d (.bool b) = st.s := set_same hb (by simp)
            have hcond : (bif b then b else !b) = true := by cases b <;> rfl
            rw [hcond] at hk
            simp only [cond_true, hset] at hk
            exact one (fun c a hsl => by simp [Region.wanted, hg, guard_told hsl hd hb']) hk
          · have hset : st.s.set d (.bool !want) = st.s := by
              have : b = !want := by cases b <;> cases want <;> simp_all
              rw [← this]; exact set_same hb (by simp)
            have hcond : (bif want then b else !b) = false := by cases b <;> cases want <;> simp_all
            rw [hcond] at hk
            simp only [cond_false, hset] at hk
            obtain ⟨es, stn, k1, k2, k3, k4⟩ := trace_ops hT hC l _ _ K hk
            refine ⟨⟨st.s, st.h, .tup [], st.h, false, false, [], some []⟩ :: es, stn, by simpa [Ent.mk'] using k1, by simp [k2], fun i e he => ?_, rfl, rfl, k4⟩
            cases i with
            | zero =>
              simp only [List.getElem?_cons_zero, Option.some.injEq] at he
              subst he
              exact ⟨o, rfl, fun c a hsl => by simp [Region.wanted, hg, guard_told hsl hd hb', hbw], by simp, fun _ _ => ⟨rfl, rfl, by simp⟩, fun _ => ⟨rfl, rfl, rfl⟩, fun _ _ _ => rfl⟩
            | succ i => simpa using k3 i e (by simpa using he)
        · rename_i vs hb
          have hb' : (onlyS (o.looksAt ops) st.s).getD d .undef = .tup vs := by rw [onlyS_get, if_pos (guard_looks hg hd)]; exact hb
          obtain ⟨es, stn, k1, k2, k3, k4⟩ := trace_ops hT hC l _ _ K hk
          refine ⟨⟨st.s, st.h, .tup [], st.h, false, false, [], some []⟩ :: es, stn, by simpa [Ent.mk'] using k1, by simp [k2], fun i e he => ?_, rfl, rfl, k4⟩
          cases i with
          | zero =>
            simp only [List.getElem?_cons_zero, Option.some.injEq] at he
            subst he
            exact ⟨o, rfl, fun c a hsl => by simp [Region.wanted, hg, guard_tup hsl hd hb'], by simp, fun _ _ => ⟨rfl, rfl, by simp⟩, fun _ => ⟨rfl, rfl, rfl⟩, fun _ _ _ => rfl⟩
          | succ i => simpa using k3 i e (by simpa using he)
        · cases hk
      · cases hk

def hAt (es : List Ent) (stn : St) (i : Nat) : Heap := ((es[i]?).map (·.h)).getD stn.h
def sAt (es : List Ent) (stn : St) (i : Nat) : List AV := ((es[i]?).map (·.s)).getD stn.s

theorem chain_at (es : List Ent) : ∀ {st : St} {l : List Oper} {stn : St}, Chain st es l stn → hAt es stn 0 = st.h ∧ sAt es stn 0 = st.s ∧
    ∀ (i : Nat) e o, es[i]? = some e → l[i]? = some o → hAt es stn i = e.h ∧ sAt es stn i = e.s ∧ hAt es stn (i + 1) = e.h' ∧ sAt es stn (i + 1) = putSlot e.s o.dst e.v := by
  induction es with
  | nil =>
    intro st l stn h
    cases l with
    | cons _ _ => exact absurd h (by simp [Chain])
    | nil =>
      have : st = stn := h
      subst this
      exact ⟨rfl, rfl, by simp⟩
  | cons e es ih =>
    intro st l stn h
    cases l with
    | nil => exact absurd h (by simp [Chain])
    | cons o l =>
      obtain ⟨h1, h2, h3⟩ := h
      obtain ⟨k1, k2, k3⟩ := ih h3
      refine ⟨by simp [hAt, h2], by simp [sAt, h1], fun i e' o' he ho => ?_⟩
      cases i with
      | zero =>
        simp only [List.getElem?_cons_zero, Option.some.injEq] at he ho
        subst he; subst ho
        refine ⟨by simp [hAt], by simp [sAt], ?_, ?_⟩
        · have : hAt (e :: es) stn (0 + 1) = hAt es stn 0 := by simp [hAt]
          rw [this, k1]
        · have : sAt (e :: es) stn (0 + 1) = sAt es stn 0 := by simp [sAt]
          rw [this, k2, h1]
      | succ i =>
        have e1 : hAt (e :: es) stn (i + 1) = hAt es stn i := by simp [hAt]
        have e2 : sAt (e :: es) stn (i + 1) = sAt es stn i := by simp [sAt]
        have e3 : hAt (e :: es) stn (i + 1 + 1) = hAt es stn (i + 1) := by simp [hAt]
        have e4 : sAt (e :: es) stn (i + 1 + 1) = sAt es stn (i + 1) := by simp [sAt]
        rw [e1, e2, e3, e4]
        exact k3 i e' o' (by simpa using he) (by simpa using ho)
end
end Go.AM
namespace Go.AM

/-! Soundness: any order of a drawn region. -/
def Done (D : Array Bool) (j : Nat) : Prop := D.getD j false = true

/-- Is an operation bound to its place among those that change? 'n': how many rows there were ahead of the region. -/
def bnd (n : Nat) (e : Ent) : Bool := match e.l with | none => true | some l => !(l.all fun id => Nat.blt id n)
theorem bnd_meets {n : Nat} {e : Ent} {t : List AV} (h : bnd n e = true) : meets n t e.l = true := by
  unfold bnd at h; unfold meets
  split at h
  · rename_i hl; rw [hl]
  · rename_i l hl
    rw [hl]
    simp only [Bool.not_eq_true'] at h ⊢
    cases hq : (l.all fun id => Nat.blt id n && !touch id t) with
    | false => rfl
    | true =>
      have : (l.all fun id => Nat.blt id n) = true := List.all_eq_true.2 fun id hid => by
        have := List.all_eq_true.1 hq id hid
        simp only [Bool.and_eq_true] at this; exact this.1
      rw [this] at h; cases h

/-- What is known of a region's run in the text's order. -/
structure Reg (P : Program) (ops : Array Oper) (es : List Ent) (st stn : St) : Prop where
  len : es.length = ops.size
  good : ∀ (i : Nat) e, es[i]? = some e → ∃ o, ops[i]? = some o ∧ Good P ops o e
  h0 : hAt es stn 0 = st.h
  s0 : sAt es stn 0 = st.s
  hn : hAt es stn ops.size = stn.h
  sn : sAt es stn ops.size = stn.s
  at' : ∀ (i : Nat) e o, es[i]? = some e → ops[i]? = some o → hAt es stn i = e.h ∧ sAt es stn i = e.s ∧ hAt es stn (i + 1) = e.h' ∧ sAt es stn (i + 1) = putSlot e.s o.dst e.v
  back : ∀ (i : Nat) o, ops[i]? = some o → ∀ e ∈ o.after, Region.binds .any e = true → e.on < i
  data : ∀ (i j : Nat) oi oj d, ops[i]? = some oi → ops[j]? = some oj → oi.dst = some d → i ≠ j → oj.dst ≠ some d ∧ (d ∈ oj.looksAt ops → ahead (Region.before ops).toList i j = true)
  order : ∀ (i j : Nat) e ej, es[i]? = some e → e.m = true → es[j]? = some ej → meets (hAt es stn 0).length e.t ej.l = true → i ≠ j → ahead (Region.before ops).toList i j = true

def Closed (ops : Array Oper) (D : Array Bool) : Prop := ∀ (j : Nat) o, Done D j → ops[j]? = some o → ∀ e ∈ o.after, Region.binds .any e = true → Done D e.on

theorem before_in {ops : Array Oper} {D : Array Bool} (hc : Closed ops D) : ∀ (j i : Nat) o, ops[j]? = some o → (∀ e ∈ o.after, Region.binds .any e = true → Done D e.on) → ((Region.before ops).toList.getD j 0).testBit i = true → Done D i := by
  intro j
  induction j using Nat.strongRecOn with
  | _ j ih =>
    intro i o ho hall hbit
    obtain ⟨o', ho', e, he, hb, hor⟩ := before_spec ops hbit
    rw [ho] at ho'; cases ho'
    rcases hor with rfl | ⟨hlt, hbit'⟩
    · exact hall e he hb
    · obtain ⟨o2, ho2, _⟩ := before_spec ops hbit'
      exact ih e.on hlt i o2 ho2 (hc e.on o2 (hall e he hb) ho2) hbit'

structure Epoch (ops : Array Oper) (es : List Ent) (stn : St) (c0 : Ctx) (D : Array Bool) (c : Ctx) (p : Nat) : Prop where
  le : p ≤ ops.size
  here : p = ops.size ∨ ∃ e, es[p]? = some e ∧ e.m = true
  mods : ∀ (m : Nat) e, m < p → es[m]? = some e → e.m = true → Done D m
  heapy : ∀ (j : Nat) e, Done D j → es[j]? = some e → bnd (hAt es stn 0).length e = true → j < p
  sim : Sim c (hAt es stn p)
  fre : Fre c (hAt es stn p)
  ext : Ext c0 (hAt es stn 0) c (hAt es stn p)
  undone : ∀ (i : Nat), i < p → ¬ Done D i → ∀ id, (hAt es stn i).length ≤ id → id < (hAt es stn (i + 1)).length → c.m id = none ∧ ¬ c.dead id

structure Inv (ops : Array Oper) (es : List Ent) (st stn : St) (c0 : Ctx) (a0 : Act) (D : Array Bool) (c : Ctx) (a : Act) : Prop where
  dsz : D.size = ops.size
  sz : a.tmps.size = st.s.length
  defers : a.defers = a0.defers
  old : ∀ t, (∀ (j : Nat) o, Done D j → ops[j]? = some o → o.dst ≠ some t) → VRep c (st.s.getD t .undef) (a.tmps.getD t Go.undef)
  new : ∀ (j t : Nat) e o, Done D j → ops[j]? = some o → o.dst = some t → es[j]? = some e → t < a.tmps.size → VRep c e.v (a.tmps.getD t Go.undef)
  closed : Closed ops D
  epoch : ∃ p, Epoch ops es stn c0 D c p

section
variable {P : Program} {ops : Array Oper} {es : List Ent} {st stn : St}

theorem Reg.oper (R : Reg P ops es st stn) {i : Nat} (hi : i < ops.size) : ∃ o e, ops[i]? = some o ∧ es[i]? = some e ∧ Good P ops o e := by
  have hle : i < es.length := by rw [R.len]; exact hi
  have he := List.getElem?_eq_getElem hle
  obtain ⟨o, ho, hg⟩ := R.good i _ he
  exact ⟨o, _, ho, he, hg⟩

theorem Reg.slen (R : Reg P ops es st stn) : ∀ i, i ≤ ops.size → (sAt es stn i).length = st.s.length
  | 0, _ => by rw [R.s0]
  | i + 1, hi => by
    obtain ⟨o, e, ho, he, _⟩ := R.oper (show i < ops.size by omega)
    obtain ⟨_, h2, _, h4⟩ := R.at' i e o he ho
    rw [h4]
    have := R.slen i (by omega)
    rw [h2] at this
    cases hd : o.dst <;> simp [putSlot, this]

/-- A slot of the text's run, told of by its writers. -/
theorem Reg.val (R : Reg P ops es st stn) {c : Ctx} {t : Nat} {v : Value} : ∀ i, i ≤ ops.size → (∀ (j : Nat) o e, j < i → ops[j]? = some o → es[j]? = some e → o.dst = some t → t < st.s.length → VRep c e.v v) →
    ((∀ (j : Nat) o, j < i → ops[j]? = some o → o.dst ≠ some t) → VRep c (st.s.getD t .undef) v) → VRep c ((sAt es stn i).getD t .undef) v
  | 0, _, _, h => by rw [R.s0]; exact h (fun j o hj => by omega)
  | i + 1, hi, h1, h2 => by
    obtain ⟨o, e, ho, he, _⟩ := R.oper (show i < ops.size by omega)
    obtain ⟨_, k2, _, k4⟩ := R.at' i e o he ho
    have hlen := R.slen i (by omega)
    rw [k2] at hlen
    rw [k4]
    by_cases hd : o.dst = some t
    · rw [hd]
      simp only [putSlot]
      rcases Nat.lt_or_ge t e.s.length with ht | ht
      · have : (e.s.set t e.v).getD t .undef = e.v := by simp [List.getD_eq_getElem?_getD, ht]
        rw [this]; exact h1 i o e (by omega) ho he hd (by rw [← hlen]; exact ht)
      · have : (e.s.set t e.v).getD t .undef = .undef := by
          rw [List.getD_eq_getElem?_getD, List.getElem?_eq_none (by simpa using ht)]; rfl
        rw [this]; simp [VRep]
    · have hsame : (putSlot e.s o.dst e.v).getD t .undef = e.s.getD t .undef := by
        cases hdst : o.dst with
        | none => rfl
        | some d =>
          have hne : d ≠ t := fun e => hd (by rw [hdst, e])
          simp [putSlot, List.getD_eq_getElem?_getD, List.getElem?_set_ne hne]
      rw [hsame, ← k2]
      refine R.val i (by omega) (fun j o' e' hj => h1 j o' e' (by omega)) (fun hno => h2 fun j o' hj ho' => ?_)
      rcases Nat.lt_or_ge j i with hji | hji
      · exact hno j o' hji ho'
      · have : j = i := by omega
        subst this; rw [ho] at ho'; cases ho'; exact hd

/-- What an operation that is ready looks at. -/
theorem Reg.slots (R : Reg P ops es st stn) {c0 : Ctx} {a0 : Act} {D : Array Bool} {c : Ctx} {a : Act} (I : Inv ops es st stn c0 a0 D c a) {i : Nat} {o : Oper} {e : Ent} (ho : ops[i]? = some o) (he : es[i]? = some e) (hnd : ¬ Done D i)
    (hrdy : ∀ e ∈ o.after, Region.binds .any e = true → Done D e.on) : Slots c (onlyS (o.looksAt ops) e.s) a := by
  have hi : i < ops.size := (Array.getElem?_eq_some_iff.1 ho).1
  obtain ⟨_, k2, _, _⟩ := R.at' i e o he ho
  have hlen := R.slen i (by omega)
  rw [k2] at hlen
  refine ⟨by simp [onlyS, hlen, I.sz], fun t => ?_⟩
  rw [onlyS_get]
  split
  · rename_i ht
    rw [← k2]
    refine R.val i (by omega) (fun j oj ej hj hoj hej hdj htl => ?_) (fun hno => ?_)
    · have had := (R.data j i oj o t hoj ho hdj (by omega)).2 ht
      have hbl : Nat.blt j i = true := by simpa [Nat.blt_eq] using hj
      simp only [ahead, hbl, cond_true] at had
      have hdone := before_in I.closed i j o ho hrdy had
      exact I.new j t ej oj hdone hoj hdj hej (by rw [I.sz]; exact htl)
    · refine I.old t fun j oj hdone hoj hdj => ?_
      rcases Nat.lt_trichotomy j i with hji | hji | hji
      · exact hno j oj hji hoj hdj
      · subst hji; exact hnd hdone
      · have had := (R.data j i oj o t hoj ho hdj (by omega)).2 ht
        have hbl : Nat.blt j i = false := by
          cases hq : Nat.blt j i with
          | false => rfl
          | true => rw [Nat.blt_eq] at hq; omega
        simp only [ahead, hbl, cond_false] at had
        exact hnd (before_in I.closed j i oj hoj (I.closed j oj hdone hoj) had)
  · simp [VRep]

theorem done_set {D : Array Bool} {i j : Nat} (hi : i < D.size) : Done (D.setIfInBounds i true) j ↔ j = i ∨ Done D j := by
  unfold Done
  by_cases h : i = j
  · subst h; simp [hi]
  · have h' : j ≠ i := fun e => h e.symm
    simp [Array.getD_eq_getD_getElem?, Array.getElem?_setIfInBounds_ne h, h']

/-- The slots after an operation. -/
theorem Inv.put {c0 : Ctx} {a0 : Act} {D : Array Bool} {c c' : Ctx} {a : Act} (I : Inv ops es st stn c0 a0 D c a) (R : Reg P ops es st stn) {i : Nat} {o : Oper} {e : Ent} (ho : ops[i]? = some o) (he : es[i]? = some e)
    (hrdy : ∀ e ∈ o.after, Region.binds .any e = true → Done D e.on) (t : Tells c c') {v' : Value} (hv : VRep c' e.v v') (hep : ∃ p, Epoch ops es stn c0 (D.setIfInBounds i true) c' p) :
    Inv ops es st stn c0 a0 (D.setIfInBounds i true) c' (a.put o.dst v') := by
  have hi : i < ops.size := (Array.getElem?_eq_some_iff.1 ho).1
  have hiD : i < D.size := by rw [I.dsz]; exact hi
  have hsz : (a.put o.dst v').tmps.size = a.tmps.size := by cases o.dst <;> simp [Act.put]
  refine ⟨by simp [I.dsz], by rw [hsz]; exact I.sz, (put_defers _ _ _).trans I.defers, fun k hno => ?_, fun j k e' o' hdone ho' hd' he' hk => ?_, fun j o' hdone ho' e' he' hb => ?_, hep⟩
  · have hne : o.dst ≠ some k := hno i o ((done_set hiD).2 (.inl rfl)) ho
    have hsame : (a.put o.dst v').tmps.getD k Go.undef = a.tmps.getD k Go.undef := by
      cases hd : o.dst with
      | none => rfl
      | some d =>
        have : d ≠ k := fun e => hne (by rw [hd, e])
        simp [Act.put, Array.getD_eq_getD_getElem?, Array.getElem?_setIfInBounds_ne this]
    rw [hsame]
    exact VRep.mono t (I.old k fun j o' hdone ho' => hno j o' ((done_set hiD).2 (.inr hdone)) ho')
  · by_cases hji : j = i
    · subst hji
      rw [ho] at ho'; cases ho'
      rw [he] at he'; cases he'
      have hlt : k < a.tmps.size := by rw [← hsz]; exact hk
      have : (a.put o.dst v').tmps.getD k Go.undef = v' := by rw [hd']; simp [Act.put, Array.getD_eq_getD_getElem?, hlt]
      rw [this]; exact hv
    · have hdone' := ((done_set hiD).1 hdone).resolve_left hji
      have hne : o.dst ≠ some k := (R.data j i o' o k ho' ho hd' hji).1
      have hsame : (a.put o.dst v').tmps.getD k Go.undef = a.tmps.getD k Go.undef := by
        cases hd : o.dst with
        | none => rfl
        | some d =>
          have : d ≠ k := fun e => hne (by rw [hd, e])
          simp [Act.put, Array.getD_eq_getD_getElem?, Array.getElem?_setIfInBounds_ne this]
      rw [hsame]
      exact VRep.mono t (I.new j k e' o' hdone' ho' hd' he' (by rw [← hsz]; exact hk))
  · refine (done_set hiD).2 (.inr ?_)
    rcases (done_set hiD).1 hdone with rfl | hdone'
    · rw [ho] at ho'; cases ho'; exact hrdy e' he' hb
    · exact I.closed j o' hdone' ho' e' he' hb
end
end Go.AM
namespace Go.AM

/-! Soundness: any order of a drawn region, heaps. -/
section
variable {P : Program} {ops : Array Oper} {es : List Ent} {st stn : St}

theorem Sim.pre {c : Ctx} {h h' : Heap} (s : Sim c h') (p : Pre h h') : Sim c h :=
  ⟨fun id i hid hi hd => by obtain ⟨o, ho, hr⟩ := s.obj id i (Nat.lt_of_lt_of_le hid p.1) hi hd; exact ⟨o, by rw [← p.2 id hid]; exact ho, hr⟩,
   fun id hid hd => by rw [← p.2 id hid]; exact s.gone id (Nat.lt_of_lt_of_le hid p.1) hd, s.low, s.inj, s.plow, s.apart, s.own,
   fun id i fx e xs f hid hi hd hg => s.deep id i fx e xs f (Nat.lt_of_lt_of_le hid p.1) hi hd (by rw [p.2 id hid]; exact hg)⟩

theorem Reg.step (R : Reg P ops es st stn) {i : Nat} {o : Oper} {e : Ent} (ho : ops[i]? = some o) (he : es[i]? = some e) (hm : e.m = false) : Pre (hAt es stn i) (hAt es stn (i + 1)) := by
  obtain ⟨k1, _, k3, _⟩ := R.at' i e o he ho
  obtain ⟨o', ho', hg⟩ := R.good i e he
  rw [ho] at ho'; cases ho'
  rw [k1, k3]
  cases hw : e.w with
  | true => exact (hg.ok hw).2.2.1 hm
  | false => rw [(hg.off hw).1]; exact Pre.refl _

/-- Between two places with nothing changed between them. -/
theorem Reg.pre (R : Reg P ops es st stn) {i : Nat} : ∀ (n : Nat), i + n ≤ ops.size → (∀ (k : Nat) e, i ≤ k → k < i + n → es[k]? = some e → e.m = false) → Pre (hAt es stn i) (hAt es stn (i + n))
  | 0, _, _ => Pre.refl _
  | n + 1, hn, hm => by
    obtain ⟨o, e, ho, he, _⟩ := R.oper (show i + n < ops.size by omega)
    exact (R.pre n (by omega) (fun k e h1 h2 he => hm k e h1 (by omega) he)).trans (R.step ho he (hm _ e (by omega) (by omega) he))

theorem Reg.pre' (R : Reg P ops es st stn) {i p : Nat} (hip : i ≤ p) (hp : p ≤ ops.size) (hm : ∀ (k : Nat) e, i ≤ k → k < p → es[k]? = some e → e.m = false) : Pre (hAt es stn i) (hAt es stn p) := by
  have := R.pre (i := i) (p - i) (by omega) (fun k e h1 h2 he => hm k e h1 (by omega) he)
  rwa [show i + (p - i) = p by omega] at this

/-- The next place at which memory is changed. -/
theorem next_mod (es : List Ent) (n : Nat) (hn : es.length = n) : ∀ (k i : Nat), i + k = n → ∃ p, i ≤ p ∧ p ≤ n ∧ (p = n ∨ ∃ e, es[p]? = some e ∧ e.m = true) ∧ ∀ (j : Nat) e, i ≤ j → j < p → es[j]? = some e → e.m = false
  | 0, i, hi => ⟨n, by omega, Nat.le_refl _, .inl rfl, fun j e h1 h2 => by omega⟩
  | k + 1, i, hi => by
    have hlt : i < es.length := by omega
    have he := List.getElem?_eq_getElem hlt
    cases hm : es[i].m with
    | true => exact ⟨i, Nat.le_refl _, by omega, .inr ⟨_, he, hm⟩, fun j e h1 h2 => by omega⟩
    | false =>
      obtain ⟨p, h1, h2, h3, h4⟩ := next_mod es n hn k (i + 1) (by omega)
      refine ⟨p, by omega, h2, h3, fun j e hj hjp hje => ?_⟩
      by_cases hji : j = i
      · subst hji; rw [he] at hje; cases hje; exact hm
      · exact h4 j e (by omega) hjp hje

theorem ahead_lt {bs : List Nat} {i j : Nat} (h : ahead bs i j = true) (hlt : i < j) : (bs.getD j 0).testBit i = true := by
  have : Nat.blt i j = true := by simpa [Nat.blt_eq] using hlt
  simpa [ahead, this] using h
theorem ahead_gt {bs : List Nat} {i j : Nat} (h : ahead bs i j = true) (hlt : j < i) : (bs.getD i 0).testBit j = true := by
  have : Nat.blt i j = false := by
    cases hq : Nat.blt i j with
    | false => rfl
    | true => rw [Nat.blt_eq] at hq; omega
  simpa [ahead, this] using h

theorem Reg.heapyOf (R : Reg P ops es st stn) {n i : Nat} {e : Ent} (he : es[i]? = some e) (hm : e.m = true) : bnd n e = true := by
  obtain ⟨o', ho', hg⟩ := R.good i e he
  unfold bnd
  cases hl : e.l with
  | none => rfl
  | some l => have := (hg.still l hl).2.1; rw [hm] at this; cases this

/-- Where a heapy operation that is ready stands to the epoch. -/
theorem Reg.place (R : Reg P ops es st stn) {c0 : Ctx} {D : Array Bool} {c : Ctx} {p : Nat} (hc : Closed ops D) (ep : Epoch ops es stn c0 D c p) {i : Nat} {o : Oper} {e : Ent} (ho : ops[i]? = some o) (he : es[i]? = some e) (hnd : ¬ Done D i)
    (hrdy : ∀ e ∈ o.after, Region.binds .any e = true → Done D e.on) (hh : bnd (hAt es stn 0).length e = true) : (e.m = true → p = i) ∧ (e.m = false → i < p ∧ ∀ (k : Nat) e', i ≤ k → k < p → es[k]? = some e' → e'.m = false) := by
  have hi : i < ops.size := (Array.getElem?_eq_some_iff.1 ho).1
  have hge : i ≤ p := by
    rcases Nat.lt_or_ge p i with hpi | hpi
    · rcases ep.here with hp | ⟨ep', hep, hepm⟩
      · omega
      · have had := ahead_lt (R.order p i ep' e hep hepm he (bnd_meets hh) (by omega)) hpi
        have hdone := before_in hc i p o ho hrdy had
        have := ep.heapy p ep' hdone hep (R.heapyOf hep hepm)
        omega
    · exact hpi
  refine ⟨fun hm => ?_, fun hm => ?_⟩
  · rcases Nat.lt_or_ge i p with hip | hip
    · exact absurd (ep.mods i e hip he hm) hnd
    · omega
  · have hne : i ≠ p := by
      intro heq
      rcases ep.here with hp | ⟨ep', hep, hepm⟩
      · omega
      · rw [← heq, he] at hep; cases hep; rw [hm] at hepm; cases hepm
    refine ⟨by omega, fun k e' hik hkp hke => ?_⟩
    by_cases hki : k = i
    · subst hki; rw [he] at hke; cases hke; exact hm
    · cases hem : e'.m with
      | false => rfl
      | true =>
        have hdone := ep.mods k e' hkp hke hem
        have had := ahead_gt (R.order k i e' e hke hem he (bnd_meets hh) hki) (by omega)
        obtain ⟨ok, hok, _⟩ := R.good k e' hke
        exact absurd (before_in hc k i ok hok (hc k ok hdone hok) had) hnd

theorem Reg.grows (R : Reg P ops es st stn) {i : Nat} : ∀ (n : Nat), i + n ≤ ops.size → (hAt es stn i).length ≤ (hAt es stn (i + n)).length
  | 0, _ => Nat.le_refl _
  | n + 1, hn => by
    obtain ⟨o, e, ho, he, hg⟩ := R.oper (show i + n < ops.size by omega)
    obtain ⟨k1, _, k3, _⟩ := R.at' (i + n) e o he ho
    have ih := R.grows (i := i) n (by omega)
    rw [show i + (n + 1) = i + n + 1 by omega, k3]
    rw [k1] at ih
    cases hw : e.w with
    | true => exact Nat.le_trans ih (hg.ok hw).2.1
    | false => rw [(hg.off hw).1]; exact ih

theorem Reg.grows' (R : Reg P ops es st stn) {i p : Nat} (hip : i ≤ p) (hp : p ≤ ops.size) : (hAt es stn i).length ≤ (hAt es stn p).length := by
  have := R.grows (i := i) (p - i) (by omega)
  rwa [show i + (p - i) = p by omega] at this

/-- A row that nothing between two places touches. -/
theorem Reg.stay (R : Reg P ops es st stn) {id i : Nat} (hid : id < (hAt es stn i).length) : ∀ (n : Nat), i + n ≤ ops.size → (∀ (k : Nat) e, i ≤ k → k < i + n → es[k]? = some e → e.m = true → touch id e.t = false) → hget (hAt es stn (i + n)) id = hget (hAt es stn i) id
  | 0, _, _ => rfl
  | n + 1, hn, hm => by
    obtain ⟨o, e, ho, he, hg⟩ := R.oper (show i + n < ops.size by omega)
    have ih := R.stay hid n (by omega) (fun k e h1 h2 he => hm k e h1 (by omega) he)
    have hlt : id < (hAt es stn (i + n)).length := Nat.lt_of_lt_of_le hid (R.grows n (by omega))
    show hget (hAt es stn (i + n + 1)) id = _
    rw [← ih]
    cases hem : e.m with
    | false => exact (R.step ho he hem).2 id hlt
    | true =>
      obtain ⟨k1, _, k3, _⟩ := R.at' (i + n) e o he ho
      rw [k1] at hlt ⊢
      rw [k3]
      exact hg.keep id hlt (hm _ e (by omega) (by omega) he hem)

/-- What an operation looks at that is not bound: the same wherever it may run. -/
theorem Reg.free (R : Reg P ops es st stn) {c0 : Ctx} {D : Array Bool} {c : Ctx} {p : Nat} (hc : Closed ops D) (ep : Epoch ops es stn c0 D c p) {i : Nat} {o : Oper} {e : Ent} (ho : ops[i]? = some o) (he : es[i]? = some e) (hnd : ¬ Done D i)
    (hrdy : ∀ e ∈ o.after, Region.binds .any e = true → Done D e.on) {l : List Nat} (hl : e.l = some l) (hb : bnd (hAt es stn 0).length e = false) : ∀ id ∈ l, hget (hAt es stn p) id = hget e.h id := by
  intro id hid
  have hi : i < ops.size := (Array.getElem?_eq_some_iff.1 ho).1
  have hple := ep.le
  obtain ⟨k1, _, _, _⟩ := R.at' i e o he ho
  have hlt0 : id < (hAt es stn 0).length := by
    unfold bnd at hb
    rw [hl] at hb
    simp only [Bool.not_eq_false'] at hb
    have := List.all_eq_true.1 hb id hid
    simpa [Nat.blt_eq] using this
  have meet : ∀ t, touch id t = true → meets (hAt es stn 0).length t e.l = true := by
    intro t ht
    unfold meets
    rw [hl]
    simp only [Bool.not_eq_true']
    cases hq : (l.all fun id => Nat.blt id (hAt es stn 0).length && !touch id t) with
    | false => rfl
    | true => have := List.all_eq_true.1 hq id hid; simp [ht] at this
  have hlt (k : Nat) (hk : k ≤ ops.size) : id < (hAt es stn k).length := Nat.lt_of_lt_of_le hlt0 (R.grows' (by omega) hk)
  rw [← k1]
  rcases Nat.lt_or_ge p i with hpi | hpi
  · have := R.stay (i := p) (hlt p hple) (i - p) (by omega) (fun k ek h1 h2 hek hem => by
      cases ht : touch id ek.t with
      | false => rfl
      | true =>
        have had := ahead_lt (R.order k i ek e hek hem he (meet _ ht) (by omega)) (by omega)
        have hdone := before_in hc i k o ho hrdy had
        have := ep.heapy k ek hdone hek (R.heapyOf hek hem)
        omega)
    rw [show p + (i - p) = i by omega] at this
    exact this.symm
  · have := R.stay (i := i) (hlt i (by omega)) (p - i) (by omega) (fun k ek h1 h2 hek hem => by
      cases ht : touch id ek.t with
      | false => rfl
      | true =>
        have hki : k ≠ i := fun e' => by
          subst e'; rw [he] at hek; cases hek
          obtain ⟨_, _, hg⟩ := R.good k e he
          have := (hg.still l hl).2.1; rw [hem] at this; cases this
        obtain ⟨ok, hok, _⟩ := R.good k ek hek
        have hdone := ep.mods k ek (by omega) hek hem
        have had := ahead_gt (R.order k i ek e hek hem he (meet _ ht) hki) (by omega)
        exact absurd (before_in hc k i ok hok (hc k ok hdone hok) had) hnd)
    rw [show i + (p - i) = p by omega] at this
    exact this

/-- One that changes nothing that was there. -/
theorem epoch_same {c0 c c' : Ctx} {D : Array Bool} {p i : Nat} {e : Ent} (hiD : i < D.size) (he : es[i]? = some e) (ep : Epoch ops es stn c0 D c p) (hh : bnd (hAt es stn 0).length e = true → i < p) (hx : Ext c (hAt es stn p) c' (hAt es stn p)) (hs : Sim c' (hAt es stn p)) (hg : Grow c (hAt es stn p) c' (hAt es stn p)) :
    Epoch ops es stn c0 (D.setIfInBounds i true) c' p := by
  refine ⟨ep.le, ep.here, fun m e hm he hem => (done_set hiD).2 (.inr (ep.mods m e hm he hem)), fun j e' hd he' hh' => ?_, hs, hx.fre ep.fre, ep.ext.trans hx, fun k hk hnd id h1 h2 => ?_⟩
  · rcases (done_set hiD).1 hd with rfl | hd
    · rw [he] at he'; cases he'; exact hh hh'
    · exact ep.heapy j e' hd he' hh'
  · obtain ⟨q1, q2⟩ := ep.undone k hk (fun h => hnd ((done_set hiD).2 (.inr h))) id h1 h2
    constructor
    · cases hm : c'.m id with
      | none => rfl
      | some inf => have := hx.fresh id inf hm q1; omega
    · rw [hg.dead]; exact q2

/-- One that makes rows anew. -/
theorem epoch_grow {c0 c c' : Ctx} {D : Array Bool} {p i : Nat} (R : Reg P ops es st stn) (hiD : i < D.size) (ep : Epoch ops es stn c0 D c p) (hip : i < p)
    (hm : ∀ (k : Nat) e', i ≤ k → k < p → es[k]? = some e' → e'.m = false) (hx : Ext c (hAt es stn i) c' (hAt es stn (i + 1))) (hs : Sim c' (hAt es stn (i + 1))) (hg : Grow c (hAt es stn i) c' (hAt es stn (i + 1))) :
    Epoch ops es stn c0 (D.setIfInBounds i true) c' p := by
  have hple := ep.le
  have hl0 : (hAt es stn 0).length ≤ (hAt es stn i).length := R.grows' (by omega) (by omega)
  have hlow : ∀ k, k < i → ¬ Done (D.setIfInBounds i true) k → (hAt es stn (k + 1)).length ≤ (hAt es stn i).length := fun k hk _ => R.grows' (by omega) (by omega)
  have p1 := R.pre' (i := i) (p := p) (by omega) hple hm
  have p2 := R.pre' (i := i + 1) (p := p) (by omega) hple (fun k e' h1 h2 he => hm k e' (by omega) h2 he)
  have hsz := hx.size
  have hlen := hx.len
  have t := hx.tells
  have notfresh : ∀ id inf, (hAt es stn (i + 1)).length ≤ id → c'.m id = some inf → c.m id = some inf := by
    intro id inf hid hi
    cases hcm : c.m id with
    | none => have := hx.fresh id inf hi hcm; omega
    | some inf' => have := hx.m id inf' hcm; rw [hi] at this; exact this.symm
  refine ⟨hple, ep.here, fun m e hm he hem => (done_set hiD).2 (.inr (ep.mods m e hm he hem)), fun j e' hd he' hh' => ?_, ?_, ?_, ?_, fun k hk hnd id h1 h2 => ?_⟩
  · rcases (done_set hiD).1 hd with rfl | hd
    · exact hip
    · exact ep.heapy j e' hd he' hh'
  · refine ⟨fun id inf hid hi hd => ?_, fun id hid hd => ?_, hs.low, hs.inj, hs.plow, hs.apart, hs.own, fun id inf fx f xs fl hid hi hd hgt => ?_⟩
    rotate_right
    · rcases Nat.lt_or_ge id (hAt es stn (i + 1)).length with hlt | hge
      · rw [p2.2 id hlt] at hgt; exact hs.deep id inf fx f xs fl hlt hi hd hgt
      · have hci := notfresh id inf hge hi
        have hcd : ¬ c.dead id := by rw [← hg.dead]; exact hd
        exact ep.sim.deepStay hid hci hcd hgt (fun b hb => by rw [hg.own id (by rw [hci]; simp)]; exact hb) fun b hb => hg.old b (ep.sim.at_low hcd hb)
    · rcases Nat.lt_or_ge id (hAt es stn (i + 1)).length with hlt | hge
      · obtain ⟨ob, hob, hr⟩ := hs.obj id inf hlt hi hd
        exact ⟨ob, by rw [p2.2 id hlt]; exact hob, hr⟩
      · have hci := notfresh id inf hge hi
        have hcd : ¬ c.dead id := by rw [← hg.dead]; exact hd
        obtain ⟨ob, hob, hr⟩ := ep.sim.obj id inf hid hci hcd
        exact ⟨ob, hob, hr.mono t fun hl => hg.old _ (ep.sim.low id inf hci hcd hl)⟩
    · rw [hg.dead] at hd; exact ep.sim.gone id hid hd
  · intro id hid
    obtain ⟨q1, q2⟩ := ep.fre id hid
    refine ⟨?_, by rw [hg.dead]; exact q2⟩
    cases hcm : c'.m id with
    | none => rfl
    | some inf => rw [notfresh id inf (by have := p2.1; omega) hcm] at q1; cases q1
  · have E0 := ep.ext
    refine ⟨⟨fun b hb => hx.pr b (E0.pr b hb), Nat.le_trans E0.size hsz, fun b hb => (hx.keep b (E0.pr b hb)).trans (E0.keep b hb), fun b n hb => hx.blk b n (E0.blk b n hb),
      fun b hb hn => (hg.old b (Nat.lt_of_lt_of_le hb E0.size)).trans (E0.frame b hb hn), fun b hb => ?_, fun b hb => ?_, hx.os.trans E0.os, hx.tape.trans E0.tape, hx.output.trans E0.output⟩,
      E0.len, fun id inf hi => hx.m id inf (E0.m id inf hi), fun id inf hi hn => ?_, fun id hd => hx.dead id (E0.dead id hd), fun id hd => ?_⟩
    · obtain ⟨id, hid, hd, ha⟩ := hb
      have hcd : ¬ c.dead id := by rw [← hg.dead]; exact hd
      cases hcm : c.m id with
      | some inf' =>
        refine E0.own b ⟨id, hid, hcd, ?_⟩
        rcases ha with ha | ⟨inf, hi, hl, he⟩
        · rw [hg.own id (by rw [hcm]; simp)] at ha; exact .inl ha
        · have : inf' = inf := by have := hx.m id inf' hcm; rw [hi] at this; exact (Option.some.inj this).symm
          subst this
          exact .inr ⟨inf', hcm, hl, he⟩
      | none =>
        obtain ⟨inf, hi⟩ : ∃ inf, c'.m id = some inf := by
          rcases ha with ha | ⟨inf, hi, _⟩
          · exact Option.ne_none_iff_exists'.1 (hs.own.told id b ha)
          · exact ⟨inf, hi⟩
        have hfr := hx.fresh id inf hi hcm
        rcases hx.own b ⟨id, hfr.2, hd, ha⟩ with hq | ⟨id0, q0, q1, q2⟩
        · exact .inl (Nat.le_trans E0.size hq)
        · exact E0.own b ⟨id0, Nat.lt_of_lt_of_le q0 p1.1, q1, q2⟩
    · rcases hx.pnew b hb with h | h
      · exact E0.pnew b h
      · exact .inr (Nat.le_trans E0.size h)
    · cases hcm : c.m id with
      | some inf' => exact E0.fresh id inf' hcm hn
      | none => have := hx.fresh id inf hi hcm; have := p2.1; omega
    · rw [hg.dead] at hd; exact E0.dead' id hd
  · have hki : k ≠ i := fun e => hnd (e ▸ (done_set hiD).2 (.inl rfl))
    obtain ⟨q1, q2⟩ := ep.undone k hk (fun h => hnd ((done_set hiD).2 (.inr h))) id h1 h2
    refine ⟨?_, by rw [hg.dead]; exact q2⟩
    cases hcm : c'.m id with
    | none => rfl
    | some inf =>
      have hfr := hx.fresh id inf hcm q1
      rcases Nat.lt_or_ge k i with hlt | hge
      · have := hlow k hlt hnd; omega
      · have p3 := R.pre' (i := i + 1) (p := k) (by omega) (by omega) (fun m e' h1 h2 he => hm m e' (by omega) (by omega) he)
        have := p3.1; omega

/-- One that may change what was there: the epoch's end. -/
theorem epoch_mod {c0 c c' : Ctx} {D : Array Bool} {i : Nat} {o : Oper} {e : Ent} (R : Reg P ops es st stn) (hc : Closed ops D) (hiD : i < D.size) (ho : ops[i]? = some o) (he : es[i]? = some e) (hem : e.m = true)
    (hrdy : ∀ e ∈ o.after, Region.binds .any e = true → Done D e.on) (ep : Epoch ops es stn c0 D c i) (hx : Ext c (hAt es stn i) c' (hAt es stn (i + 1))) (hs : Sim c' (hAt es stn (i + 1))) :
    ∃ p, Epoch ops es stn c0 (D.setIfInBounds i true) c' p := by
  have hi : i < ops.size := (Array.getElem?_eq_some_iff.1 ho).1
  obtain ⟨p, h1, h2, h3, h4⟩ := next_mod es ops.size R.len (ops.size - (i + 1)) (i + 1) (by omega)
  have pr := R.pre' h1 h2 h4
  have hf1 := hx.fre ep.fre
  have E1 := ep.ext.trans hx
  have hlenp := pr.1
  refine ⟨p, h2, h3, fun m e' hm hme hmm => ?_, fun j e' hd he' hh' => ?_, ?_, ?_, ?_, fun k hk hnd id q1 q2 => ?_⟩
  · rcases Nat.lt_trichotomy m i with hlt | heq | hgt
    · exact (done_set hiD).2 (.inr (ep.mods m e' hlt hme hmm))
    · subst heq; exact (done_set hiD).2 (.inl rfl)
    · have := h4 m e' (by omega) hm hme; rw [hmm] at this; cases this
  · rcases (done_set hiD).1 hd with rfl | hd
    · omega
    · have := ep.heapy j e' hd he' hh'; omega
  · refine ⟨fun id inf hid hi' hd => ?_, fun id hid hd => ?_, hs.low, hs.inj, hs.plow, hs.apart, hs.own, fun id inf fx f xs fl hid hi' hd hgt => ?_⟩
    rotate_right
    · rcases Nat.lt_or_ge id (hAt es stn (i + 1)).length with hlt | hge
      · rw [pr.2 id hlt] at hgt; exact hs.deep id inf fx f xs fl hlt hi' hd hgt
      · rw [(hf1 id hge).1] at hi'; cases hi'
    · rcases Nat.lt_or_ge id (hAt es stn (i + 1)).length with hlt | hge
      · obtain ⟨ob, hob, hr⟩ := hs.obj id inf hlt hi' hd
        exact ⟨ob, by rw [pr.2 id hlt]; exact hob, hr⟩
      · rw [(hf1 id hge).1] at hi'; cases hi'
    · rcases Nat.lt_or_ge id (hAt es stn (i + 1)).length with hlt | hge
      · rw [pr.2 id hlt]; exact hs.gone id hlt hd
      · exact absurd hd (hf1 id hge).2
  · exact fun id hid => hf1 id (by omega)
  · refine ⟨⟨E1.pr, E1.size, E1.keep, E1.blk, E1.frame, fun b hb => ?_, E1.pnew, E1.os, E1.tape, E1.output⟩, Nat.le_trans E1.len hlenp, E1.m, fun id inf hi' hn => ?_, E1.dead, fun id hd => ?_⟩
    · obtain ⟨id, hid, hd, ha⟩ := hb
      rcases Nat.lt_or_ge id (hAt es stn (i + 1)).length with hlt | hge
      · exact E1.own b ⟨id, hlt, hd, ha⟩
      · have hnone := (hf1 id hge).1
        rcases ha with ha | ⟨inf, hi', _⟩
        · exact absurd hnone (hs.own.told id b ha)
        · rw [hnone] at hi'; cases hi'
    · have := E1.fresh id inf hi' hn; omega
    · rcases E1.dead' id hd with h | h
      · exact .inl h
      · exact .inr (by omega)
  · rcases Nat.lt_trichotomy k i with hlt | heq | hgt
    · -- undone ahead of a change: it makes no rows
      obtain ⟨ok, ek, hok, hek, hgk⟩ := R.oper (show k < ops.size by omega)
      obtain ⟨k1, _, k3, _⟩ := R.at' k ek ok hek hok
      cases hh : ek.l with
      | some l => rw [k1] at q1; rw [k3, (hgk.still l hh).1] at q2; omega
      | none =>
        have had := ahead_gt (R.order i k e ek he hem hek (by simp [meets, hh]) (by omega)) hlt
        exact absurd ((done_set hiD).2 (.inr (before_in hc i k o ho hrdy had))) hnd
    · subst heq; exact absurd ((done_set hiD).2 (.inl rfl)) hnd
    · have hge : (hAt es stn (i + 1)).length ≤ (hAt es stn k).length := R.grows' (by omega) (by omega)
      exact hf1 id (by omega)
end
end Go.AM
namespace Go.AM

/-! Soundness: a region whose order is drawn. -/
section
variable {P : Program} {E : Env} {run : Run} {ops : Array Oper} {es : List Ent} {st stn : St}

theorem not_done {D : Array Bool} {i : Nat} (h : D.getD i true = false) : ¬ Done D i ∧ i < D.size := by
  rcases Nat.lt_or_ge i D.size with hl | hl
  · refine ⟨?_, hl⟩
    unfold Done
    simp [hl] at h ⊢
    exact h
  · simp [Array.getElem?_eq_none hl] at h

theorem inv_step (R : Reg P ops es st stn) {c0 : Ctx} {a0 : Act} {D : Array Bool} {c : Ctx} {a : Act} (I : Inv ops es st stn c0 a0 D c a) {i : Nat} (hr : i ∈ Region.ready .any ops D) {Q : Exit → Act → World → Prop} :
    wpOp P ops Q i (fun a' w' => ∃ c', c'.w = w' ∧ Inv ops es st stn c0 a0 (D.setIfInBounds i true) c' a') a c.w := by
  obtain ⟨h0, o, ho, hrdy0⟩ := mem_ready.1 hr
  obtain ⟨hnd, hiD⟩ := not_done h0
  have hrdy : ∀ e ∈ o.after, Region.binds .any e = true → Done D e.on := hrdy0
  have hi : i < ops.size := (Array.getElem?_eq_some_iff.1 ho).1
  obtain ⟨o', e, ho', he, hg⟩ := R.oper hi
  rw [ho] at ho'; cases ho'
  have hsl := R.slots I ho he hnd hrdy
  obtain ⟨k1, _, k3, _⟩ := R.at' i e o he ho
  obtain ⟨p, ep⟩ := I.epoch
  unfold wpOp
  simp only [ho, hg.want c a hsl]
  cases hw : e.w with
  | false =>
    simp only [Bool.false_eq_true, if_false]
    obtain ⟨q1, q2, q3⟩ := hg.off hw
    refine ⟨c, rfl, I.put R ho he hrdy (Tells.refl c) (by rw [q3]; exact undef_rep c) ⟨p, ?_⟩⟩
    exact epoch_same hiD he ep (fun hh => ((R.place I.closed ep ho he hnd hrdy hh).2 q2).1) (Ext.refl _ _) ep.sim (Grow.refl _ _)
  | true =>
    simp only [if_true]
    left
    cases hh : bnd (hAt es stn 0).length e with
    | false =>
      obtain ⟨l, hl⟩ : ∃ l, e.l = some l := by
        cases hl : e.l with
        | none => simp [bnd, hl] at hh
        | some l => exact ⟨l, rfl⟩
      obtain ⟨q1, q2, q3⟩ := hg.still l hl
      refine (q3 hw (hAt es stn p) (R.free I.closed ep ho he hnd hrdy hl hh)).1 c a ep.sim (fun id h1 h2 => by omega) hsl _ Q fun c' v' hx hs hv hgr => ?_
      exact ⟨c', rfl, I.put R ho he hrdy hx.tells hv ⟨p, epoch_same hiD he ep (fun h => by rw [hh] at h; cases h) hx hs (hgr rfl)⟩⟩
    | true =>
      obtain ⟨pl1, pl2⟩ := R.place I.closed ep ho he hnd hrdy hh
      have hop := (hg.ok hw).1
      rw [← k1, ← k3] at hop
      cases hem : e.m with
      | true =>
        have hpi := pl1 hem
        subst hpi
        refine hop c a ep.sim ep.fre.free hsl _ Q fun c' v' hx hs hv _ => ?_
        exact ⟨c', rfl, I.put R ho he hrdy hx.tells hv (epoch_mod R I.closed hiD ho he hem hrdy ep hx hs)⟩
      | false =>
        obtain ⟨hip, hno⟩ := pl2 hem
        have pr := R.pre' (i := i) (p := p) (by omega) ep.le hno
        refine hop c a (ep.sim.pre pr) (ep.undone i hip hnd) hsl _ Q fun c' v' hx hs hv hgr => ?_
        exact ⟨c', rfl, I.put R ho he hrdy hx.tells hv ⟨p, epoch_grow R hiD ep hip hno hx hs (hgr hem)⟩⟩

theorem all_done (R : Reg P ops es st stn) {D : Array Bool} (hsz : D.size = ops.size) (hr : Region.ready .any ops D = []) : ∀ j, j < ops.size → Done D j := by
  intro j
  induction j using Nat.strongRecOn with
  | _ j ih =>
    intro hj
    cases hd : D.getD j false with
    | true => exact hd
    | false =>
      have ho : ops[j]? = some ops[j] := Array.getElem?_eq_getElem hj
      have : j ∈ Region.ready .any ops D := mem_ready.2 ⟨by simp [hsz, hj] at hd ⊢; exact hd, _, ho, fun e he hb => by
        have := R.back j _ ho e he hb
        exact ih e.on this (by omega)⟩
      rw [hr] at this; cases this

theorem left_set : ∀ {l : List Bool} {i : Nat}, l[i]? = some false → (l.set i true).countP (! ·) + 1 = l.countP (! ·)
  | [], i, h => by simp at h
  | b :: l, 0, h => by simp at h; subst h; simp
  | b :: l, i + 1, h => by
    have := left_set (l := l) (i := i) (by simpa using h)
    simp only [List.set_cons_succ, List.countP_cons]
    omega

theorem any_ok (R : Reg P ops es st stn) {c0 : Ctx} {a0 : Act} {Q : Exit → Act → World → Prop} (hQ : ∀ D c a, Inv ops es st stn c0 a0 D c a → (∀ j, j < ops.size → Done D j) → Q .normal a c.w) :
    ∀ (fuel : Nat) (D : Array Bool) (c : Ctx) (a : Act), Inv ops es st stn c0 a0 D c a → D.toList.countP (! ·) ≤ fuel → wpAny P .any ops Q fuel D a c.w
  | 0, D, c, a, I, hf => by
    have hall : ∀ j, j < ops.size → Done D j := by
      intro j hj
      have hj' : j < D.size := by rw [I.dsz]; exact hj
      cases hd : D[j] with
      | true => simp [Done, hj', hd]
      | false =>
        have : 0 < D.toList.countP (! ·) := List.countP_pos_iff.2 ⟨false, by rw [← hd]; simp, rfl⟩
        omega
    refine ⟨?_, hQ D c a I hall⟩
    cases hr : Region.ready .any ops D with
    | nil => rfl
    | cons i l =>
      have hi : i ∈ Region.ready .any ops D := by rw [hr]; simp
      obtain ⟨h0, o, ho, _⟩ := mem_ready.1 hi
      exact absurd (hall i (Array.getElem?_eq_some_iff.1 ho).1) (not_done h0).1
  | fuel + 1, D, c, a, I, hf => by
    refine ⟨fun hr => hQ D c a I (all_done R I.dsz hr), fun i hi => ?_⟩
    obtain ⟨h0, o, ho, _⟩ := mem_ready.1 hi
    obtain ⟨hnd, hiD⟩ := not_done h0
    refine wpOp_mono ?_ (inv_step R I hi)
    rintro a' w' ⟨c', rfl, I'⟩
    refine any_ok R hQ fuel _ c' a' I' ?_
    have hfalse : D.toList[i]? = some false := by
      rw [Array.getElem?_toList, Array.getElem?_eq_getElem hiD]
      simp [hiD] at h0; rw [h0]
    have := left_set hfalse
    rw [Array.toList_setIfInBounds]; omega

theorem sim_up {c : Ctx} {h h' : Heap} (hs : Sim c h) (hf : Fre c h) (pr : Pre h h') : Sim c h' := by
  refine ⟨fun id inf hid hi' hd => ?_, fun id hid hd => ?_, hs.low, hs.inj, hs.plow, hs.apart, hs.own, fun id inf fx f xs fl hid hi' hd hgt => ?_⟩
  · rcases Nat.lt_or_ge id h.length with hlt | hge
    · obtain ⟨ob, hob, hr⟩ := hs.obj id inf hlt hi' hd
      exact ⟨ob, by rw [pr.2 id hlt]; exact hob, hr⟩
    · rw [(hf id hge).1] at hi'; cases hi'
  rotate_left
  · rcases Nat.lt_or_ge id h.length with hlt | hge
    · rw [pr.2 id hlt] at hgt; exact hs.deep id inf fx f xs fl hlt hi' hd hgt
    · rw [(hf id hge).1] at hi'; cases hi'
  · rcases Nat.lt_or_ge id h.length with hlt | hge
    · rw [pr.2 id hlt]; exact hs.gone id hlt hd
    · exact absurd hd (hf id hge).2

theorem ext_up {c0 c : Ctx} {h0 h h' : Heap} (E1 : Ext c0 h0 c h) (hs : Sim c h) (hf : Fre c h) (pr : Pre h h') : Ext c0 h0 c h' := by
  have hlenp := pr.1
  refine ⟨⟨E1.pr, E1.size, E1.keep, E1.blk, E1.frame, fun b hb => ?_, E1.pnew, E1.os, E1.tape, E1.output⟩, Nat.le_trans E1.len hlenp, E1.m, fun id inf hi' hn => ?_, E1.dead, fun id hd => ?_⟩
  · obtain ⟨id, hid, hd, ha⟩ := hb
    rcases Nat.lt_or_ge id h.length with hlt | hge
    · exact E1.own b ⟨id, hlt, hd, ha⟩
    · have hnone := (hf id hge).1
      rcases ha with ha | ⟨inf, hi', _⟩
      · exact absurd hnone (hs.own.told id b ha)
      · rw [hnone] at hi'; cases hi'
  · have := E1.fresh id inf hi' hn; omega
  · rcases E1.dead' id hd with h | h
    · exact .inl h
    · exact .inr (by omega)

/-- A world from which one more answer was drawn. -/
theorem drawn_ok {c : Ctx} {h : Heap} (hs : Sim c h) (w' : World) (hw : w' = { c.w with drawn := c.w.drawn + 1 }) : Ext c h { c with w := w' } h ∧ Sim { c with w := w' } h ∧ Tells c { c with w := w' } := by
  subst hw
  have t : Tells c { c with w := { c.w with drawn := c.w.drawn + 1 } } := ⟨fun _ _ h => h, fun _ h => h, ⟨fun _ h => h, fun _ _ => rfl⟩, fun b n hb => hb.of_block rfl⟩
  refine ⟨⟨⟨fun _ h => h, Nat.le_refl _, fun _ _ => rfl, fun b n hb => hb.of_block rfl, fun _ _ _ => rfl, fun _ h => .inr h, fun _ h => .inl h, rfl, rfl, rfl⟩, Nat.le_refl _, fun _ _ h => h, fun _ _ h h' => absurd (h'.symm.trans h) (by simp), fun _ h => h, fun _ h => .inl h⟩, ?_, t⟩
  exact ⟨fun id i h1 h2 h3 => by obtain ⟨o, ho, hr⟩ := hs.obj id i h1 h2 h3; exact ⟨o, ho, hr.mono t (fun _ => rfl)⟩, hs.gone, hs.low, hs.inj, hs.plow, hs.apart, ⟨hs.own.low, hs.own.inj, hs.own.row, hs.own.apart, hs.own.told⟩, fun id i fx e xs f h1 h2 h3 h4 => DeepRow.mono (c := c) (id := id) (fun _ h => h) (fun _ _ => rfl) (fun _ => rfl) (hs.deep id i fx e xs f h1 h2 h3 h4)⟩

theorem reg_of {ms : List Mk} (hdraw : drawOk st.h.length ops ms = true) (hms : ms = es.map Ent.mk') (hlen : es.length = ops.toList.length) (hgood : ∀ (i : Nat) e, es[i]? = some e → ∃ o, ops.toList[i]? = some o ∧ Good P ops o e) (hch : Chain st es ops.toList stn) : Reg P ops es st stn := by
  obtain ⟨c1, c2, c3⟩ := chain_at es hch
  simp only [drawOk, Bool.and_eq_true] at hdraw
  obtain ⟨⟨hback, hdata⟩, horder⟩ := hdraw
  have hlen' : es.length = ops.size := by simpa using hlen
  refine ⟨hlen', fun i e he => by obtain ⟨o, ho, hg⟩ := hgood i e he; exact ⟨o, by simpa using ho, hg⟩, c1, c2, ?_, ?_, fun i e o he ho => c3 i e o he (by simpa using ho), fun i o ho e he hb => ?_, fun i j oi oj d hi hj hd hij => ?_, fun i j e ej he hem hj hh hij => ?_⟩
  · simp [hAt, ← hlen']
  · simp [sAt, ← hlen']
  · have hi : i < ops.size := (Array.getElem?_eq_some_iff.1 ho).1
    have := List.all_eq_true.1 hback i (by simpa using hi)
    rw [ho] at this
    have := List.all_eq_true.1 this e (by simpa using he)
    simp only [hb, Bool.not_true, Bool.false_or, Nat.blt_eq] at this
    exact this
  · have hi' : i < ops.size := (Array.getElem?_eq_some_iff.1 hi).1
    have hj' : j < ops.size := (Array.getElem?_eq_some_iff.1 hj).1
    have := List.all_eq_true.1 hdata i (by simpa using hi')
    simp only [hi, Option.bind_some, hd] at this
    have := List.all_eq_true.1 this j (by simpa using hj')
    simp only [hj] at this
    have hne : (i == j) = false := by simpa using hij
    simp only [hne, Bool.false_or, Bool.and_eq_true, bne_iff_ne, ne_eq, Bool.or_eq_true, Bool.not_eq_true'] at this
    refine ⟨this.1, fun hmem => this.2.resolve_left ?_⟩
    simp [hmem]
  · have hany : ms.any (·.m) = true := by
      rw [hms, List.any_map]
      exact List.any_eq_true.2 ⟨e, List.mem_of_getElem? he, hem⟩
    rw [hany] at horder
    simp only [cond_true] at horder
    have hi : i < ops.size := by rw [← hlen']; exact (List.getElem?_eq_some_iff.1 he).1
    have hj' : j < ops.size := by rw [← hlen']; exact (List.getElem?_eq_some_iff.1 hj).1
    have := List.all_eq_true.1 horder i (by simpa using hi)
    have hmi : ms[i]? = some e.mk' := by rw [hms]; simp [he]
    have hmj : ms[j]? = some ej.mk' := by rw [hms]; simp [hj]
    rw [c1] at hh
    simp only [hmi, Ent.mk', hem, Bool.not_true, Bool.false_or] at this
    have := List.all_eq_true.1 this j (by simpa using hj')
    have hne : (i == j) = false := by simpa using hij
    simpa [hne, hmj, Ent.mk', hh] using this

theorem regOk (hT : TOk P E) (hmix : P.follows .mixedOrders = true) (hC : CallsOk P E run) : RegOk P E run := by
  intro ρ id ops st K x hk
  simp only [aregion] at hk
  obtain ⟨es, stn, hK, hlen, hgood, hch⟩ := trace_ops hT hC (ops := ops) ops.toList [] st _ hk
  simp only [List.nil_append, Bool.not_true, Bool.false_or] at hK
  cases hd : drawOk st.h.length ops (es.map Ent.mk') with
  | false => simp [hd] at hK
  | true =>
    simp only [hd, cond_true] at hK
    have R : Reg P ops es st stn := reg_of hd rfl hlen hgood hch
    refine ⟨stn, hK, fun c a hst Q hq => wp_region_any hmix ?_⟩
    obtain ⟨x1, s1, t1⟩ := drawn_ok hst.sim _ rfl
    have hf1 := x1.fre hst.fre
    have none : ∀ j, ¬ Done (Array.replicate ops.size false) j := by
      intro j hj
      unfold Done at hj
      rcases Nat.lt_or_ge j ops.size with hl | hl <;> simp [hl] at hj
    have I : Inv ops es st stn { c with w := { c.w with drawn := c.w.drawn + 1 } } a (Array.replicate ops.size false) { c with w := { c.w with drawn := c.w.drawn + 1 } } a := by
      refine ⟨by simp, hst.slots.1.symm, rfl, fun t _ => VRep.mono t1 (hst.slots.2 t), fun j t e o hj => absurd hj (none j), fun j o hj => absurd hj (none j), ?_⟩
      obtain ⟨p, h1, h2, h3, h4⟩ := next_mod es ops.size R.len ops.size 0 (by omega)
      have pr := R.pre' (i := 0) h1 h2 h4
      rw [R.h0] at pr
      refine ⟨p, h2, h3, fun m e hm he hem => ?_, fun j e hj => absurd hj (none j), sim_up s1 hf1 pr, fun id hid => hf1 id (by have := pr.1; omega), by rw [R.h0]; exact ext_up (Ext.refl _ _) s1 hf1 pr, fun i hi _ id h1 _ => hf1 id ?_⟩
      · have := h4 m e (by omega) hm he; rw [hem] at this; cases this
      · have := R.grows' (i := 0) (p := i) (by omega) (by omega); rw [R.h0] at this; omega
    refine any_ok R (fun D c' a' I' hall => ?_) ops.size _ _ a I (Nat.le_trans List.countP_le_length (by simp))
    obtain ⟨p, ep⟩ := I'.epoch
    have hp : p = ops.size := by
      rcases ep.here with hp | ⟨e, he, hem⟩
      · exact hp
      · obtain ⟨o, ho, _⟩ := R.good p e he
        have hlt : p < ops.size := (Array.getElem?_eq_some_iff.1 ho).1
        have := ep.heapy p e (hall p hlt) he (R.heapyOf he hem)
        omega
    subst hp
    have hsim := ep.sim; rw [R.hn] at hsim
    have hfre := ep.fre; rw [R.hn] at hfre
    have hext := ep.ext; rw [R.hn, R.h0] at hext
    refine hq c' a' (x1.trans hext) ⟨hsim, hfre, ?_, fun t => ?_⟩ I'.defers
    · rw [← R.sn, R.slen _ (Nat.le_refl _), I'.sz]
    · rw [← R.sn]
      refine R.val _ (Nat.le_refl _) (fun j o e hj ho he hd htl => I'.new j t e o (hall j hj) ho hd he (by rw [I'.sz]; exact htl)) (fun hno => I'.old t fun j o hj ho => ?_)
      exact hno j o (Array.getElem?_eq_some_iff.1 ho).1 ho
end
end Go.AM
namespace Go.AM

/-! By value: what a state's rows hold, from now on unchanged. -/
/-- The frame in which all rows that are told stay as they are. -/
def Ctx.still (c : Ctx) : Ctx := ⟨fun _ => none, fun _ => False, fun b => c.pr b ∨ ∃ id, ¬ c.dead id ∧ c.at id b, c.w, fun _ _ => False⟩

theorem still_keeps (c : Ctx) : Keeps c.pr c.still.pr c.w c.still.w := ⟨fun _ h => .inl h, fun _ _ => rfl⟩

theorem deref_reps {c c2 : Ctx} {f : AV → AV} (hf : ∀ a v, VRep c a v → VRep c2 (f a) v) : ∀ {as : List AV} {vs : List Value}, VReps c as vs → VReps c2 (as.map f) vs := ren_reps hf

theorem deref_rep {c : Ctx} {h : Heap} (hs : Sim c h) : ∀ (d : Nat) (a : AV) (v : Value), VRep c a v → VRep c.still (deref h d a) v
  | 0, a, v, _ => by simp [deref, VRep]
  | d + 1, a, v, hr => by
    cases a with
    | undef => simp [deref, VRep]
    | int k n => simpa [deref, VRep] using hr
    | bool b => simpa [deref, VRep] using hr
    | str s => simpa [deref, VRep] using hr
    | nilp => simpa [deref, VRep] using hr
    | nils => simpa [deref, VRep] using hr
    | fn f cs =>
      simp only [deref, VRep] at hr ⊢
      obtain ⟨ws, hv, hc⟩ := hr
      exact ⟨ws, hv, deref_reps (deref_rep hs d) hc⟩
    | agg cs =>
      simp only [deref, VRep] at hr ⊢
      obtain ⟨ws, hv, hc⟩ := hr
      exact ⟨ws, hv, deref_reps (deref_rep hs d) hc⟩
    | tup cs =>
      simp only [deref, VRep] at hr ⊢
      obtain ⟨ws, hv, hc⟩ := hr
      exact ⟨ws, hv, deref_reps (deref_rep hs d) hc⟩
    | tv t x => simp only [deref, VRep] at hr ⊢; exact hr.mono (still_keeps c)
    | tp t x sub =>
      simp only [deref, VRep] at hr ⊢
      obtain ⟨b, o, vs, hv, hp, hl, hlies, hc⟩ := hr
      exact ⟨b, o, vs, hv, .inl hp, hl, hlies, hc.mono (still_keeps c)⟩
    | bp cs sub =>
      simp only [deref, VRep] at hr ⊢
      obtain ⟨b, o, ws, hv, hp, hlies, hc⟩ := hr
      exact ⟨b, o, ws, hv, .inl hp, hlies, deref_reps (deref_rep hs d) hc⟩
    | sl id =>
      simp only [deref]
      split
      · rename_i e xs fl hob
        simp only [VRep, slRep] at hr
        have hd := hs.alive hob
        obtain ⟨i, hi, hr⟩ := hr.2.resolve_left hd
        have rep := hs.rep hob hi
        have hcont := rep.cont
        have hlen := rep.len
        have hes := rep.es
        simp only [contRep] at hcont
        simp only [Cont.len] at hlen
        simp only [Cont.es] at hes
        refine VRep.of_row ?_
        rcases hr with ⟨hloc, cap, n, hv, hle, _⟩ | ⟨_, h0, A, hv⟩
        · refine ⟨_, cap, by rw [hv, hlen], by omega, by simp, fun _ => ⟨i.b, i.base, rfl, .inr ⟨id, hd, .inr ⟨i, hi, hloc, rfl⟩⟩, fun j y hj => ?_⟩⟩
          obtain ⟨vs, q1, q2, q3⟩ := hcont j y hj
          exact ⟨vs, q1, q2, q3.mono (still_keeps c)⟩
        · have hx0 : xs.length = 0 := by omega
          exact ⟨A, 0, by rw [hv, hx0], by omega, fun _ => rfl, fun hne => absurd (List.eq_nil_of_length_eq_zero hx0) hne⟩
      · rename_i fx e xs fl hob
        simp only [VRep, slRep] at hr
        have hd := hs.alive hob
        obtain ⟨i, hi, hr⟩ := hr.2.resolve_left hd
        have rep := hs.rep hob hi
        have hlen : i.len = List.length xs := rep.len
        refine VRep.of_row ?_
        rcases hr with ⟨hloc, cap, n, hv, hle, _⟩ | ⟨_, h0, A, hv⟩
        · obtain ⟨G, h1, _, h3⟩ := (hs.deep id i fx e xs fl (hget_lt hob) hi hd hob).row
          refine ⟨_, cap, by rw [hv, hlen], by omega, by simp, fun _ => ⟨i.b, i.base, rfl, .inr ⟨id, hd, .inr ⟨i, hi, hloc, rfl⟩⟩, fun j y hj => ?_⟩⟩
          obtain ⟨vs, q1, q2, q3⟩ := h3 j y hj
          exact ⟨vs, q1, q2, q3.cells fun k hk => .inr ⟨id, hd, .inl (h1 j k hk).1⟩⟩
        · have hx0 : List.length xs = 0 := by omega
          exact ⟨A, 0, by rw [hv, hx0], by omega, fun _ => rfl, fun hne => absurd (List.eq_nil_of_length_eq_zero hx0) hne⟩
      · simp [VRep]
    | dp id i j => simp [deref, VRep]
    | ss id off n =>
      simp only [deref]
      split
      · rename_i e xs fl hob
        simp only [VRep, ssRep] at hr
        have hd := hs.alive hob
        obtain ⟨i, hi, hon, hr⟩ := hr.2.resolve_left hd
        have rep := hs.rep hob hi
        have hcont := rep.cont
        have hlen := rep.len
        have hes := rep.es
        simp only [contRep] at hcont
        simp only [Cont.len] at hlen
        simp only [Cont.es] at hes
        have hl : (List.take n (List.drop off xs)).length = n := by simp; omega
        refine VRep.of_row ?_
        rcases hr with ⟨hloc, cap, m, hv, hle, _⟩ | ⟨h0, A, hv⟩
        · refine ⟨_, cap, by rw [hv, hl], by omega, by simp, fun _ => ⟨i.b, i.base + off * i.es, rfl, .inr ⟨id, hd, .inr ⟨i, hi, hloc, rfl⟩⟩, fun j y hj => ?_⟩⟩
          rw [List.getElem?_take] at hj
          split at hj
          · rw [List.getElem?_drop] at hj
            obtain ⟨vs, q1, q2, q3⟩ := hcont _ y hj
            refine ⟨vs, q1, ?_, q3.mono (still_keeps c)⟩
            rw [Nat.add_mul, ← Nat.add_assoc] at q2
            rw [hes]; exact q2
          · cases hj
        · exact ⟨A, 0, by rw [hv, hl, h0], by omega, fun _ => rfl, fun hne => absurd (List.eq_nil_of_length_eq_zero (by rw [hl, h0])) hne⟩
      · simp [VRep]
    | ptr id idx sub =>
      simp only [deref]
      split
      · rename_i e xs fl hob
        simp only [VRep, ptrRep] at hr
        have hd := hs.alive hob
        obtain ⟨i, hi, hix, hv⟩ := hr.2.resolve_left hd
        have rep := hs.rep hob hi
        have hcont := rep.cont
        have hlen := rep.len
        have hes := rep.es
        simp only [contRep] at hcont
        simp only [Cont.len] at hlen
        simp only [Cont.es] at hes
        have hlt : idx < xs.length := by omega
        have hx : xs[idx]? = some xs[idx] := List.getElem?_eq_getElem hlt
        obtain ⟨vs, q1, q2, q3⟩ := hcont idx _ hx
        have hgd : xs.getD idx e.dflt = xs[idx] := by rw [List.getD_eq_getElem?_getD, hx]; rfl
        simp only [VRep]
        rw [hgd]
        exact ⟨i.b, i.base + idx * e.size, vs, by rw [hv, hes], .inr ⟨id, hd, .inr ⟨i, hi, rep.loc (by omega), rfl⟩⟩, q1, q2, q3.mono (still_keeps c)⟩
      · rename_i a es z xs fl hob
        simp only [VRep, ptrRep] at hr
        have hd := hs.alive hob
        obtain ⟨i, hi, hix, hv⟩ := hr.2.resolve_left hd
        have rep := hs.rep hob hi
        have hcont := rep.cont
        have hlen := rep.len
        have hes := rep.es
        simp only [contRep] at hcont
        simp only [Cont.len] at hlen
        simp only [Cont.es] at hes
        obtain ⟨_, _, hcont⟩ := hcont
        have hlt : idx < xs.length := by omega
        have hx : xs[idx]? = some xs[idx] := List.getElem?_eq_getElem hlt
        obtain ⟨_, _, vs, q1, q2, q3, _⟩ := hcont idx _ hx
        have hgd : xs.getD idx z = xs[idx] := by rw [List.getD_eq_getElem?_getD, hx]; rfl
        simp only [VRep]
        rw [hgd]
        exact ⟨i.b, i.base + idx * es, vs, by rw [hv, hes], .inr ⟨id, hd, .inr ⟨i, hi, rep.loc (by omega), rfl⟩⟩, q2, deref_reps (deref_rep hs d) q3⟩
      · simp [VRep]
end Go.AM
