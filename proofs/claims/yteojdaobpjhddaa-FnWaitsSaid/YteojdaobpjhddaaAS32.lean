/- An interpreter of the model's code over values that are told, and its soundness. -/
import Derived.Test.YteojdaobpjhddaaAS31
import Derived.ChangeArms
import Derived.WideShapes
import Derived.DataReads
import Derived.Below
import Derived.RowKit
namespace Go.AM

/-! From a row's data to typed values. -/
inductive NodeWf : Node → Prop
  | mk (o : Int) (s : ByteArray) (n : Int) (kids : List Node) : (Lit.int .i64 o).wf = true → s.size ≤ maxLen → (Lit.int .i64 n).wf = true → kids.length ≤ maxLen → (∀ k ∈ kids, NodeWf k) → NodeWf (.mk o s n kids)

/-- A value as it may come. -/
def WfT : (t : Ty) → t.C → Prop
  | .int k, n => (Lit.int k n).wf = true
  | .bool, _ => True
  | .str, s => ByteArray.size s ≤ maxLen
  | .row e, xs => List.length xs ≤ maxLen ∧ ∀ x : e.C, @List.Mem e.C x xs → WfT e x
  | .unit, _ => True
  | .pair a b, x => WfT a x.1 ∧ WfT b x.2
  | .node, x => NodeWf x

/-- Is a type of the program, or a part of a struct's fields, what a code says? -/
def codeOk (P : Program) : Ty → (TypeId ⊕ (List Field × Nat)) → Bool
  | .int k, .inl t => (match P.underlying t with | some (.int k') => k' == k | _ => false)
  | .bool, .inl t => (match P.underlying t with | some .bool => true | _ => false)
  | .str, .inl t => (match P.underlying t with | some .string => true | _ => false)
  | .row e, .inl t => (match P.underlying t with | some (.slice et) => codeOk P e (.inl et) && (P.cellsOf et == e.size) && Nat.blt 0 e.size | _ => false)
  | .pair a b, .inl t =>
    (match P.underlying t with
     | some (.struct fs) =>
       (match fs.toList with
        | f :: fs' => (f.offset == 0) && (P.cellsOf f.type == a.size) && (P.cellsOf t == a.size + b.size) && codeOk P a (.inl f.type) && codeOk P b (.inr (fs', a.size))
        | [] => false)
     | _ => false)
  | .node, .inl t =>
    (match P.underlying t with
     | some (.struct fs) =>
       (match fs.toList with
        | [f0, f1, f2, f3] => (f0.offset == 0) && (f1.offset == 1) && (f2.offset == 2) && (f3.offset == 3) && (P.cellsOf t == 4) && (P.cellsOf f0.type == 1) && (P.cellsOf f1.type == 1) && (P.cellsOf f2.type == 1) && (P.cellsOf f3.type == 1) &&
            (match P.underlying f0.type with | some (.int .i64) => true | _ => false) && (match P.underlying f1.type with | some .string => true | _ => false) &&
            (match P.underlying f2.type with | some (.int .i64) => true | _ => false) && (match P.underlying f3.type with | some (.slice et) => et == t | _ => false)
        | _ => false)
     | _ => false)
  | .unit, .inr ([], _) => true
  | .pair a b, .inr (f :: fs, off) => (f.offset == off) && (P.cellsOf f.type == a.size) && codeOk P a (.inl f.type) && codeOk P b (.inr (fs, off + a.size))
  | _, _ => false

section
variable {H : Type} {enc : TypeId × Value → H} {P : Program} {w : World} {base : Nat} {spare : Nat → Bool} {held : Bool}

/-- What is read stays there. -/
def prAll (w : World) (b : Nat) : Prop := b < w.heap.size

theorem list_of {α : Type} {Q : Nat → α → Prop} : ∀ (n : Nat), (∀ i, i < n → ∃ x, Q i x) → ∃ xs : List α, xs.length = n ∧ ∀ i x, xs[i]? = some x → Q i x
  | 0, _ => ⟨[], rfl, fun i x h => by simp at h⟩
  | n + 1, h => by
    obtain ⟨xs, h1, h2⟩ := list_of n fun i hi => h i (by omega)
    obtain ⟨x, hx⟩ := h n (by omega)
    refine ⟨xs ++ [x], by simp [h1], fun i y hy => ?_⟩
    rcases Nat.lt_or_ge i n with hi | hi
    · rw [List.getElem?_append_left (by omega)] at hy; exact h2 i y hy
    · have hl : i < (xs ++ [x]).length := (List.getElem?_eq_some_iff.1 hy).1
      simp only [List.length_append, List.length_cons, List.length_nil, h1] at hl
      obtain rfl : i = n := by omega
      rw [List.getElem?_append_right (by omega), h1, Nat.sub_self] at hy
      simp only [List.getElem?_cons_zero, Option.some.injEq] at hy
      subst hy; exact hx

theorem cells_lies {a : Addr} {n : Nat} {vs : List Value} (h : w.cells? base a n = some vs) (hn : 0 < n) : vs.length = n ∧ a.spot = none ∧ a.block < w.heap.size ∧ Lies w a.block a.off vs := by
  unfold World.cells? at h
  split at h
  · have hl := mapM_some_length h
    have hg : ∀ i, i < n → w.cell? (a.add i) = vs[i]? := fun i hi => mapM_some_get h i i (by simp [hi])
    simp only [List.length_range] at hl
    have h0 := hg 0 hn
    rw [List.getElem?_eq_getElem (by omega)] at h0
    have hs : a.spot = none := by simpa [Addr.add] using World.cell?_spot h0
    refine ⟨hl, hs, ?_, fun j v hj => ?_⟩
    · simp only [Addr.add, if_true] at h0
      unfold World.cell? at h0
      split at h0
      · rename_i c _ _ hc; exact (Array.getElem?_eq_some_iff.1 hc).1
      · cases h0
    · have hlt : j < n := by have := (List.getElem?_eq_some_iff.1 hj).1; omega
      have := hg j hlt
      rw [hj] at this
      obtain ⟨b, o, sp⟩ := a
      simp only at hs; subst hs
      rw [Go.WideShapes.add_plain] at this
      exact this
  · cases h

/-- A row, whatever its elements. -/
theorem open_row {α : Type} {size : Nat} {R : α → List Value → Prop} {W : α → Prop} {t et : TypeId} {fuel : Nat} {cs : List Value} {x : DataW H × List MemPlace} (ht : P.underlying t = some (.slice et)) (hsz : P.cellsOf et = size) (hpos : 0 < size)
    (hel : ∀ m, m < fuel → ∀ vs y, DataW.trod enc P w base spare held m et vs = some y → ∃ v : α, R v vs ∧ W v) (h : DataW.trod enc P w base spare held fuel t cs = some x) :
    ∃ (xs : List α) (v : Value), cs = [v] ∧ RowG (prAll w) w size R xs v ∧ xs.length ≤ maxLen ∧ (∀ y ∈ xs, W y) := by
  rcases DataW.trod_slice ht h with ⟨rfl, _⟩ | ⟨a, len, cap, elems, rest, n, rfl, rfl, _, _, hlc, hcm, hlen, hget, _, _⟩
  · exact ⟨[], _, rfl, ⟨none, 0, rfl, Nat.le_refl _, fun _ => rfl, fun h => absurd rfl h⟩, by simp, by simp⟩
  · have hone : ∀ i, i < len → ∃ v : α, (∃ vs, w.cells? base (a.add (i * size)) size = some vs ∧ R v vs) ∧ W v := fun i hi => by
      have h1 := hget i hi
      rw [List.getElem?_eq_getElem (by omega), hsz] at h1
      obtain ⟨vs, hvs, htr⟩ := Option.bind_eq_some_iff.1 h1
      obtain ⟨v, hv, hw⟩ := hel n (by omega) vs _ htr
      exact ⟨v, ⟨vs, hvs, hv⟩, hw⟩
    obtain ⟨xs, hl, hx⟩ := list_of len hone
    refine ⟨xs, _, rfl, ⟨some a, cap, by rw [hl], by omega, (fun h => by cases h), fun hne => ?_⟩, by omega, fun y hy => ?_⟩
    · have hp : 0 < xs.length := List.length_pos_iff.2 hne
      obtain ⟨⟨vs0, hv0, _⟩, _⟩ := hx 0 xs[0] (by simp)
      simp only [Nat.zero_mul, Addr.add, if_true] at hv0
      obtain ⟨_, hs, hb, _⟩ := cells_lies hv0 hpos
      obtain ⟨b, o, sp⟩ := a
      simp only at hs hb; subst hs
      refine ⟨b, o, rfl, hb, fun i y hy => ?_⟩
      obtain ⟨⟨vs, hv, hr⟩, _⟩ := hx i y hy
      rw [Go.WideShapes.add_plain] at hv
      obtain ⟨h1, _, _, h4⟩ := cells_lies hv hpos
      exact ⟨vs, h1, h4, hr⟩
    · obtain ⟨i, hi, rfl⟩ := List.getElem_of_mem hy
      exact (hx i xs[i] (by simp)).2

theorem open_int {k : IntKind} {t : TypeId} {fuel : Nat} {cs : List Value} {x : DataW H × List MemPlace} (ht : P.underlying t = some (.int k)) (h : DataW.trod enc P w base spare held fuel t cs = some x) : ∃ n, cs = [.int k n] ∧ (Lit.int k n).wf = true := by
  cases fuel with
  | zero => simp [DataW.trod] at h
  | succ m =>
    unfold DataW.trod at h
    rw [ht] at h
    split at h <;> simp_all

theorem open_bool {t : TypeId} {fuel : Nat} {cs : List Value} {x : DataW H × List MemPlace} (ht : P.underlying t = some .bool) (h : DataW.trod enc P w base spare held fuel t cs = some x) : ∃ b, cs = [.bool b] := by
  cases fuel with
  | zero => simp [DataW.trod] at h
  | succ m =>
    unfold DataW.trod at h
    rw [ht] at h
    split at h <;> simp_all

theorem open_str {t : TypeId} {fuel : Nat} {cs : List Value} {x : DataW H × List MemPlace} (ht : P.underlying t = some .string) (h : DataW.trod enc P w base spare held fuel t cs = some x) : ∃ s, cs = [.string s] ∧ s.size ≤ maxLen := by
  cases fuel with
  | zero => simp [DataW.trod] at h
  | succ m =>
    unfold DataW.trod at h
    rw [ht] at h
    split at h <;> simp_all

theorem one_cell {cs : List Value} {v : Value} {off : Nat} (h : (cs.drop off).take 1 = [v]) : cs[off]? = some v := by
  have h2 : ((cs.drop off).take 1)[0]? = some v := by rw [h]; rfl
  simpa [List.getElem?_take, List.getElem?_drop] using h2

theorem open_node {t : TypeId} (hc : codeOk P .node (.inl t) = true) : ∀ (fuel : Nat) (cs : List Value) (x : DataW H × List MemPlace), DataW.trod enc P w base spare held fuel t cs = some x → ∃ v : Node, NodeRep (prAll w) w v cs ∧ NodeWf v := by
  unfold codeOk at hc
  split at hc
  · rename_i fs hfs
    split at hc
    · rename_i f0 f1 f2 f3 hl
      simp only [Bool.and_eq_true, beq_iff_eq] at hc
      obtain ⟨⟨⟨⟨⟨⟨⟨⟨⟨⟨⟨⟨o0, o1⟩, o2⟩, o3⟩, ct⟩, c0⟩, c1⟩, c2⟩, c3⟩, u0⟩, u1⟩, u2⟩, u3⟩ := hc
      have e0 : P.underlying f0.type = some (.int .i64) := by split at u0 <;> simp_all
      have e1 : P.underlying f1.type = some .string := by split at u1 <;> simp_all
      have e2 : P.underlying f2.type = some (.int .i64) := by split at u2 <;> simp_all
      have e3 : P.underlying f3.type = some (.slice t) := by split at u3 <;> simp_all
      have g : ∀ i f, [f0, f1, f2, f3][i]? = some f → fs[i]? = some f := fun i f h => by rw [← hl, Array.getElem?_toList] at h; exact h
      intro fuel
      induction fuel using Nat.strongRecOn with
      | _ fuel ih =>
        intro cs x h
        obtain ⟨xs, n, rfl, rfl, hcl, hxl, hget⟩ := DataW.trod_struct hfs h
        have sz : fs.size = 4 := by rw [← Array.length_toList, hl]; rfl
        have h0 := hget 0 f0 (g 0 f0 rfl); have h1 := hget 1 f1 (g 1 f1 rfl); have h2 := hget 2 f2 (g 2 f2 rfl); have h3 := hget 3 f3 (g 3 f3 rfl)
        rw [o0, c0, List.getElem?_eq_getElem (by omega)] at h0
        rw [o1, c1, List.getElem?_eq_getElem (by omega)] at h1
        rw [o2, c2, List.getElem?_eq_getElem (by omega)] at h2
        rw [o3, c3, List.getElem?_eq_getElem (by omega)] at h3
        obtain ⟨a, ha, wa⟩ := open_int e0 h0
        obtain ⟨s, hs, ws⟩ := open_str e1 h1
        obtain ⟨b, hb, wb⟩ := open_int e2 h2
        obtain ⟨kids, v, hk, hrow, wl, wk⟩ := open_row (α := Node) (R := NodeRep (prAll w) w) (W := NodeWf) e3 ct (by decide) (fun m hm vs y hy => ih m (by omega) vs y hy) h3
        have hcs : cs = [.int .i64 a, .string s, .int .i64 b, v] := by
          have q0 := one_cell ha; have q1 := one_cell hs; have q2 := one_cell hb; have q3 := one_cell hk
          rw [ct] at hcl
          apply List.ext_getElem?
          intro i
          match i with
          | 0 => simpa using q0
          | 1 => simpa using q1
          | 2 => simpa using q2
          | 3 => simpa using q3
          | i + 4 => simp [List.getElem?_eq_none (show cs.length ≤ i + 4 by omega)]
        subst hcs
        obtain ⟨ad, cap, rfl, hcap, hnone, hel⟩ := hrow
        refine ⟨.mk a s b kids, ?_, .mk _ _ _ _ wa ws wb wl wk⟩
        cases kids with
        | nil => exact .mk a s b [] ad cap 0 0 (fun _ => []) hcap hnone (fun h => absurd rfl h) (fun i x h => by simp at h) (fun i x h => by simp at h)
        | cons k0 ks =>
          obtain ⟨bl, o, rfl, hpr, hall⟩ := hel (by simp)
          have : ∀ i, ∃ vs : List Value, ∀ x, (k0 :: ks)[i]? = some x → vs.length = 4 ∧ Lies w bl (o + i * 4) vs ∧ NodeRep (prAll w) w x vs := fun i => by
            cases hi : (k0 :: ks)[i]? with
            | none => exact ⟨[], fun x h => by cases h⟩
            | some y => obtain ⟨vs, q⟩ := hall i y hi; exact ⟨vs, fun x h => by cases h; exact q⟩
          obtain ⟨vsf, hvsf⟩ := Classical.axiomOfChoice this
          exact .mk a s b (k0 :: ks) _ cap bl o vsf hcap hnone (fun _ => ⟨rfl, hpr⟩) (fun i x h => ⟨(hvsf i x h).1, (hvsf i x h).2.1⟩) (fun i x h => (hvsf i x h).2.2)
    · cases hc
  · cases hc

/-- What is told of a type's reading, or of that of a struct's last fields. -/
def Opened (enc : TypeId × Value → H) (P : Program) (w : World) (base : Nat) (spare : Nat → Bool) (held : Bool) (c : Ty) : (TypeId ⊕ (List Field × Nat)) → Prop
  | .inl t => ∀ (fuel : Nat) (cs : List Value) (x : DataW H × List MemPlace), DataW.trod enc P w base spare held fuel t cs = some x → ∃ v : c.C, CellsRep (prAll w) w c v cs ∧ WfT c v
  | .inr (fs, off) => ∀ (fuel : Nat) (cs : List Value) (xs : List (DataW H × List MemPlace)), cs.length = off + c.size → xs.length = fs.length → (∀ (i : Nat) (f : Field), fs[i]? = some f → DataW.trod enc P w base spare held fuel f.type ((cs.drop f.offset).take (P.cellsOf f.type)) = xs[i]?) →
      ∃ v : c.C, CellsRep (prAll w) w c v (cs.drop off) ∧ WfT c v

theorem opened : ∀ (c : Ty) (s : TypeId ⊕ (List Field × Nat)), codeOk P c s = true → Opened enc P w base spare held c s := by
  have hinr : ∀ (a b : Ty) (f : Field) (fs : List Field) (off : Nat), (∀ s, codeOk P a s = true → Opened enc P w base spare held a s) → (∀ s, codeOk P b s = true → Opened enc P w base spare held b s) →
      f.offset = off → P.cellsOf f.type = a.size → codeOk P a (.inl f.type) = true → codeOk P b (.inr (fs, off + a.size)) = true → Opened enc P w base spare held (.pair a b) (.inr (f :: fs, off)) := by
    intro a b f fs off iha ihb h1 h2 h3 h4 fuel cs xs hl hx hg
    cases xs with
    | nil => simp at hx
    | cons x xs =>
      have hf := hg 0 f rfl
      rw [h1, h2] at hf
      obtain ⟨u, hu, wu⟩ := iha _ h3 fuel _ x hf
      obtain ⟨v, hv, wv⟩ := ihb _ h4 fuel cs xs (by simp only [Ty.size] at hl; omega) (by simpa using hx) (fun i g hi => by have := hg (i + 1) g (by simpa using hi); simpa using this)
      refine ⟨(u, v), ⟨(cs.drop off).take a.size, cs.drop (off + a.size), ?_, hu, hv⟩, wu, wv⟩
      rw [← List.drop_drop, List.take_append_drop]
  intro c
  induction c with
  | int k =>
    intro s hc
    match s with
    | .inl t =>
      simp only [codeOk] at hc
      split at hc
      · rename_i k' hk
        intro fuel cs x h
        simp only [beq_iff_eq] at hc; subst hc
        obtain ⟨n, rfl, hw⟩ := open_int hk h
        exact ⟨n, rfl, hw⟩
      · cases hc
    | .inr _ => simp [codeOk] at hc
  | bool =>
    intro s hc
    match s with
    | .inl t =>
      simp only [codeOk] at hc
      split at hc
      · rename_i hk
        intro fuel cs x h
        obtain ⟨n, rfl⟩ := open_bool hk h
        exact ⟨n, rfl, trivial⟩
      · cases hc
    | .inr _ => simp [codeOk] at hc
  | str =>
    intro s hc
    match s with
    | .inl t =>
      simp only [codeOk] at hc
      split at hc
      · rename_i hk
        intro fuel cs x h
        obtain ⟨n, rfl, hw⟩ := open_str hk h
        exact ⟨n, rfl, hw⟩
      · cases hc
    | .inr _ => simp [codeOk] at hc
  | row e ih =>
    intro s hc
    match s with
    | .inl t =>
      simp only [codeOk] at hc
      split at hc
      · rename_i et hk
        simp only [Bool.and_eq_true, beq_iff_eq, Nat.blt_eq] at hc
        intro fuel cs x h
        obtain ⟨xs, v, rfl, hr, hl, hw⟩ := open_row (α := e.C) (R := CellsRep (prAll w) w e) (W := WfT e) hk hc.1.2 hc.2 (fun m _ vs y hy => ih (.inl et) hc.1.1 m vs y hy) h
        exact ⟨xs, ⟨v, rfl, hr⟩, hl, hw⟩
      · cases hc
    | .inr _ => simp [codeOk] at hc
  | unit =>
    intro s hc
    match s with
    | .inl t => simp [codeOk] at hc
    | .inr ([], off) =>
      intro fuel cs xs hl _ _
      refine ⟨(), ?_, trivial⟩
      simp only [Ty.size] at hl
      show cs.drop off = []
      exact List.drop_eq_nil_iff.2 (by omega)
    | .inr (f :: fs, off) => simp [codeOk] at hc
  | pair a b iha ihb =>
    intro s hc
    match s with
    | .inl t =>
      simp only [codeOk] at hc
      split at hc
      · rename_i fs hfs
        split at hc
        · rename_i f fs' hl
          simp only [Bool.and_eq_true, beq_iff_eq] at hc
          obtain ⟨⟨⟨⟨h1, h2⟩, h3⟩, h4⟩, h5⟩ := hc
          intro fuel cs x h
          obtain ⟨xs, n, rfl, rfl, hcl, hxl, hget⟩ := DataW.trod_struct hfs h
          have := hinr a b f fs' 0 iha ihb h1 h2 h4 (by simpa using h5) n cs xs (by rw [hcl, h3]; simp [Ty.size]) (by rw [hxl, ← hl]; simp) (fun i g hi => hget i g (by rw [← hl] at hi; simpa using hi))
          simpa using this
        · cases hc
      · cases hc
    | .inr ([], off) => simp [codeOk] at hc
    | .inr (f :: fs, off) =>
      simp only [codeOk, Bool.and_eq_true, beq_iff_eq] at hc
      exact hinr a b f fs off iha ihb hc.1.1.1 hc.1.1.2 hc.1.2 hc.2
  | node =>
    intro s hc
    match s with
    | .inl t => exact fun fuel cs x h => open_node hc fuel cs x h
    | .inr _ => simp [codeOk] at hc

/-- A parameter, opened. -/
theorem param {c : Ty} {t : TypeId} {r : Reach} {base' : Nat} {v : Value} {d : DataW H} {p : List MemPlace} (hc : codeOk P c (.inl t) = true) (hok : Value.okWide P w r base' t v) (h : DataW.Trod enc P w base spare held t v d p) :
    ∃ x : c.C, VRep (still0 (prAll w) w) (tvn c x) v ∧ WfT c x := by
  obtain ⟨fuel, h⟩ := h
  obtain ⟨x, hx, hw⟩ := opened c _ hc fuel _ _ h
  refine ⟨x, tvn_rep ?_, hw⟩
  show TRep (prAll w) w c x v
  cases c with
  | int k =>
    simp only [codeOk] at hc
    split at hc
    · rename_i k' hk
      obtain ⟨n, rfl⟩ := Go.WideShapes.okWide_int hk hok
      simpa [TRep, Ty.isAgg, Value.cells] using hx
    · cases hc
  | bool =>
    simp only [codeOk] at hc
    split at hc
    · rename_i hk
      simp only [Value.okWide, hk, Cell.okWide] at hok
      cases v <;> simp_all [Cell.ok]
      simpa [TRep, Ty.isAgg, Value.cells] using hx
    · cases hc
  | str =>
    simp only [codeOk] at hc
    split at hc
    · rename_i hk
      obtain ⟨n, rfl⟩ := Go.WideShapes.okWide_string hk hok
      simpa [TRep, Ty.isAgg, Value.cells] using hx
    · cases hc
  | row e =>
    simp only [codeOk] at hc
    split at hc
    · rename_i et hk
      obtain ⟨a, n, m, rfl⟩ := Go.WideShapes.okWide_slice hk hok
      simpa [TRep, Ty.isAgg, Value.cells] using hx
    · cases hc
  | unit => simp [codeOk] at hc
  | pair a b =>
    simp only [codeOk] at hc
    split at hc
    · rename_i fs hfs
      simp only [Value.okWide, hfs] at hok
      obtain ⟨cs, rfl, _⟩ := hok
      rw [TRep, if_pos (show (Ty.pair a b).isAgg = true from rfl)]
      exact ⟨cs, rfl, hx⟩
    · cases hc
  | node =>
    simp only [codeOk] at hc
    split at hc
    · rename_i fs hfs
      simp only [Value.okWide, hfs] at hok
      obtain ⟨cs, rfl, _⟩ := hok
      rw [TRep, if_pos (show Ty.node.isAgg = true from rfl)]
      exact ⟨cs, rfl, hx⟩
    · cases hc
end

/-- A law's run: its answer, and nothing that was there has changed. -/
theorem law_run {P : Program} {f : FuncId} {args : List AV} {b : Bool} (l : LawV P f args (.bool b)) {w : World} {vs : Array Value} (h : VReps (still0 (prAll w) w) args vs.toList) :
    Calls P f vs w fun e w' => e = .returned (.bool b) ∧ RowKit.Below w.heap.size w w' := by
  refine (l.2 (prAll w) w vs (fun _ h => h) h).mono ?_
  rintro e w' ⟨v', pr', rfl, hv, _, _, _, q4, q5, q6, q7, q8⟩
  simp only [VRep] at hv
  subst hv
  exact ⟨rfl, q6, q7, q8, q4, q5⟩
/-- A test, and what follows a call, as an equation's right side tells them: by the recursors, so that the kernel meets no test of the interpreter's own there. -/
noncomputable def iteB {α : Type} (c : Bool) (t e : α) : α := Bool.rec (motive := fun _ => α) e t c
noncomputable def bindO {α β : Type} (x : Option α) (f : α → Option β) : Option β := Option.rec (motive := fun _ => Option β) none (fun a => f a) x
theorem iteB_eq {α : Type} (c : Bool) (t e : α) : iteB c t e = bif c then t else e := by cases c <;> rfl
theorem iteB_true {α : Type} (t e : α) : iteB true t e = t := rfl
theorem iteB_false {α : Type} (t e : α) : iteB false t e = e := rfl
theorem iteB_pos {α : Type} {p : Prop} [Decidable p] {t e : α} (h : p) : iteB (decide p) t e = t := by rw [decide_eq_true h]; rfl
theorem iteB_neg {α : Type} {p : Prop} [Decidable p] {t e : α} (h : ¬ p) : iteB (decide p) t e = e := by rw [decide_eq_false h]; rfl
theorem bindO_some {α β : Type} (a : α) (f : α → Option β) : bindO (some a) f = f a := rfl
theorem bindO_eq {α β : Type} (x : Option α) (f : α → Option β) : bindO x f = x.bind f := by cases x <;> rfl
theorem gate_succ {α : Type} (n : Nat) (x : Option α) : gate (n + 1) x = x := rfl
theorem gate_pos {α : Type} {n : Nat} {x : Option α} (h : 0 < n) : gate n x = x := by cases n with | zero => omega | succ n => rfl
end Go.AM
