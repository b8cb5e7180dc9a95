/- An interpreter of the model's code over values that are told, and its soundness. -/
import Derived.Test.YteojdaobpjhddaaAS9
namespace Go.AM

/-! Soundness: what is built of parts. -/
theorem set_all (off : Nat) : ∀ (vs : List Value) (k : Nat) (A : Array Value), off + k + vs.length ≤ A.size →
    ((vs.zipIdx k).foldl (fun cs (p : Value × Nat) => cs.setIfInBounds (off + p.2) p.1) A).toList = A.toList.take (off + k) ++ (vs ++ A.toList.drop (off + k + vs.length))
  | [], k, A, h => by simp
  | v :: vs, k, A, h => by
    simp only [List.zipIdx_cons, List.foldl_cons]
    simp only [List.length_cons] at h
    rw [set_all off vs (k + 1) _ (by simp; omega)]
    have hlt : off + k < A.toList.length := by simp; omega
    simp only [Array.toList_setIfInBounds]
    rw [show off + (k + 1) = off + k + 1 by omega, show off + k + 1 + vs.length = off + k + (vs.length + 1) by omega, List.length_cons]
    rw [List.drop_set_of_lt (by omega)]
    have : (A.toList.set (off + k) v).take (off + k + 1) = A.toList.take (off + k) ++ [v] := by
      rw [List.take_add_one, List.getElem?_set_self hlt, List.take_set, List.set_eq_of_length_le (by simp; omega)]
      simp
    rw [this]
    simp

theorem fill_part (v : Value) (off : Nat) (A : Array Value) (h : off + v.cells.size ≤ A.size) :
    (v.cells.zipIdx.foldl (fun cs (p : Value × Nat) => cs.setIfInBounds (off + p.2) p.1) A).toList = A.toList.take off ++ (v.cells.toList ++ A.toList.drop (off + v.cells.size)) := by
  have := set_all off v.cells.toList 0 A (by simpa using h)
  rw [← Array.foldl_toList]
  simpa using this

section
variable {ρ : Type} {P : Program} {E : Env} {s : List AV} {h : Heap} {o : Oper} {x : ρ}

theorem empty_rep {t : TypeId} {ti : TI} (ty : TyIs P t ti) (c : Ctx) : ContV c (Cont.empty ti) [] := by
  unfold Cont.empty
  cases hc : ti.code with
  | none => exact ⟨ty.zagg, ty.zsize, trivial⟩
  | some e => trivial

theorem empty_es {t : TypeId} {ti : TI} (ty : TyIs P t ti) : (Cont.empty ti).es = ti.size ∧ (Cont.empty ti).len = 0 := by
  unfold Cont.empty
  cases hc : ti.code with
  | none => exact ⟨rfl, rfl⟩
  | some e => exact ⟨(ty.code e hc).1, rfl⟩

/-- One element more. -/
theorem ContV.snoc {c : Ctx} {ct ct' : Cont} {L : List (List Value)} (h : ContV c ct L) {v : AV} {u : Value} (hs : ct.snoc v = some ct') (hv : VRep c v u) :
    ContV c ct' (L ++ [u.cells.toList]) ∧ ct'.len = ct.len + 1 ∧ ct'.es = ct.es ∧ u.cells.toList.length = ct.es := by
  cases ct with
  | typed e xs =>
    simp only [Cont.snoc] at hs
    by_cases hb : v.cells.all AV.one = true
    · obtain ⟨q1, q2⟩ := hv.cells hb
      simp only [hb, cond_true, Option.map_eq_some_iff] at hs
      obtain ⟨y, hy, rfl⟩ := hs
      have hc := as_ok hy q1
      exact ⟨All2.append (R := ElemT c e) h ⟨⟨hc.len, hc⟩, trivial⟩, by simp [Cont.len], rfl, hc.len⟩
    · simp only [Bool.not_eq_true] at hb; simp [hb] at hs
  | raw a es d xs =>
    simp only [Cont.snoc] at hs
    by_cases hb : ((v.isAgg == a) && (v.size == es) && v.cells.all AV.one) = true
    · simp only [hb, cond_true, Option.some.injEq] at hs
      subst hs
      simp only [Bool.and_eq_true, beq_iff_eq] at hb
      obtain ⟨q1, q2⟩ := hv.cells hb.2
      have hl : u.cells.toList.length = es := by rw [← q1.length, ← AV.size_cells, hb.1.2]
      exact ⟨⟨h.1, h.2.1, h.2.2.append ⟨⟨hb.1.1, hb.1.2, hl, q1, q2⟩, trivial⟩⟩, by simp [Cont.len], rfl, hl⟩
    · simp only [Bool.not_eq_true] at hb; simp [hb] at hs
  | deep fx e xs => simp [Cont.snoc] at hs

theorem Cont.snoc_plain {ct ct' : Cont} {v : AV} (hs : ct.snoc v = some ct') : ct'.isDeep = false := by
  cases ct with
  | typed e xs =>
    simp only [Cont.snoc] at hs
    by_cases hb : v.cells.all AV.one = true
    · simp only [hb, cond_true, Option.map_eq_some_iff] at hs
      obtain ⟨y, hy, rfl⟩ := hs; rfl
    · simp only [Bool.not_eq_true] at hb; simp [hb] at hs
  | raw a es d xs =>
    simp only [Cont.snoc] at hs
    by_cases hb : ((v.isAgg == a) && (v.size == es) && v.cells.all AV.one) = true
    · simp only [hb, cond_true, Option.some.injEq] at hs; subst hs; rfl
    · simp only [Bool.not_eq_true] at hb; simp [hb] at hs
  | deep fx e xs => simp [Cont.snoc] at hs
theorem Cont.ofL_plain : ∀ (l : List AV) {ct ct' : Cont}, ct.isDeep = false → Cont.ofL l ct = some ct' → ct'.isDeep = false
  | [], ct, ct', h, ho => by simp only [Cont.ofL, Option.some.injEq] at ho; subst ho; exact h
  | v :: l, ct, ct', h, ho => by
    simp only [Cont.ofL, Option.bind_eq_some_iff] at ho
    obtain ⟨c1, h1, h2⟩ := ho
    exact Cont.ofL_plain l (Cont.snoc_plain h1) h2
theorem Cont.empty_plain (ti : TI) : (Cont.empty ti).isDeep = false := by
  unfold Cont.empty; cases ti.code <;> rfl

theorem ContV.ofL {c : Ctx} {ac : Act} (hsl : Slots c s ac) : ∀ (l : List Operand) {ct ct' : Cont} {L : List (List Value)}, ContV c ct L → Cont.ofL (l.map (aeval s)) ct = some ct' →
    ContV c ct' (L ++ l.map fun y => (ac.eval y).cells.toList) ∧ ct'.len = ct.len + l.length ∧ ct'.es = ct.es ∧ ∀ y ∈ l, (ac.eval y).cells.toList.length = ct.es
  | [], ct, ct', L, h, ho => by
    simp only [List.map_nil, Cont.ofL, Option.some.injEq] at ho
    subst ho
    exact ⟨by simpa using h, by simp, rfl, by simp⟩
  | y :: l, ct, ct', L, h, ho => by
    simp only [List.map_cons, Cont.ofL, Option.bind_eq_some_iff] at ho
    obtain ⟨c1, h1, h2⟩ := ho
    obtain ⟨q1, q2, q3, q4⟩ := h.snoc h1 (hsl.eval y)
    obtain ⟨r1, r2, r3, r4⟩ := ContV.ofL hsl l q1 h2
    refine ⟨by simpa using r1, by simp only [List.length_cons]; omega, r3.trans q3, fun z hz => ?_⟩
    rcases List.mem_cons.1 hz with rfl | hz
    · exact q4
    · rw [r4 z hz, q3]

/-- Elements in their order. -/
theorem fill_row (ac : Act) (size : Nat) : ∀ (l : List (Nat × Operand)) (k : Nat) (A : Array Value) (pre : List Value), ascending (l.map fun p => (p.1, aeval s p.2)) k = true → (∀ p ∈ l, (ac.eval p.2).cells.toList.length = size) →
    pre.length = k * size → A.size = k * size + l.length * size → A.toList.take (k * size) = pre →
    ∃ B, Instr.fill (fun i => some (i * size, size)) A (l.map fun p => (p.1, ac.eval p.2)) = some B ∧ B.toList = pre ++ (l.map fun p => (ac.eval p.2).cells.toList).flatten
  | [], k, A, pre, _, _, hp, hA, ht => by
    refine ⟨A, rfl, ?_⟩
    simp only [List.length_nil, Nat.zero_mul, Nat.add_zero] at hA
    simp only [List.map_nil, List.flatten_nil, List.append_nil]
    rw [← ht, ← hA, ← Array.length_toList, List.take_length]
  | (i, y) :: l, k, A, pre, ha, hs, hp, hA, ht => by
    simp only [List.map_cons, ascending, Bool.and_eq_true, beq_iff_eq] at ha
    obtain ⟨rfl, ha⟩ := ha
    have hsz : (ac.eval y).cells.size = size := by have := hs (i, y) (by simp); simpa using this
    simp only [List.length_cons, Nat.add_mul, Nat.one_mul] at hA
    have hle : i * size + (ac.eval y).cells.size ≤ A.size := by omega
    have hfp := fill_part (ac.eval y) (i * size) A hle
    simp only [List.map_cons, Instr.fill, hsz]
    rw [if_neg (by simp; omega)]
    generalize hB : (ac.eval y).cells.zipIdx.foldl (fun cs (p : Value × Nat) => cs.setIfInBounds (i * size + p.2) p.1) A = B1 at hfp
    have hB1 : B1.size = A.size := by
      have := congrArg List.length hfp
      simp only [Array.length_toList, List.length_append, List.length_take, List.length_drop] at this
      omega
    have hcl : (ac.eval y).cells.toList.length = size := by simpa using hsz
    obtain ⟨B, hf, hBl⟩ := fill_row ac size l (i + 1) B1 (pre ++ (ac.eval y).cells.toList) ha (fun p hp => hs p (by simp [hp]))
      (by rw [List.length_append, hp, hcl, Nat.add_mul, Nat.one_mul]) (by rw [hB1, hA, Nat.add_mul, Nat.one_mul]; omega)
      (by
        rw [hfp, ht, ← List.append_assoc, Nat.add_mul, Nat.one_mul]
        rw [List.take_append_of_le_length (by rw [List.length_append, hp, hcl]; exact Nat.le_refl _)]
        rw [List.take_of_length_le (by rw [List.length_append, hp, hcl]; exact Nat.le_refl _)])
    refine ⟨B, ?_, by rw [hBl]; simp⟩
    rw [← hf, ← hB]

theorem ofL_shape : ∀ (l : List AV) {ct ct' : Cont}, Cont.ofL l ct = some ct' → ct'.es = ct.es ∧ ct'.len = ct.len + l.length
  | [], ct, ct', h => by simp only [Cont.ofL, Option.some.injEq] at h; subst h; simp
  | v :: l, ct, ct', h => by
    simp only [Cont.ofL, Option.bind_eq_some_iff] at h
    obtain ⟨c1, h1, h2⟩ := h
    have hs : c1.es = ct.es ∧ c1.len = ct.len + 1 := by
      cases ct with
      | typed e xs =>
        simp only [Cont.snoc] at h1
        by_cases hb : v.cells.all AV.one = true
        · simp only [hb, cond_true, Option.map_eq_some_iff] at h1
          obtain ⟨y, _, rfl⟩ := h1
          exact ⟨rfl, by simp [Cont.len]⟩
        · simp only [Bool.not_eq_true] at hb; simp [hb] at h1
      | raw a es d xs =>
        simp only [Cont.snoc] at h1
        by_cases hb : ((v.isAgg == a) && (v.size == es) && v.cells.all AV.one) = true
        · simp only [hb, cond_true, Option.some.injEq] at h1
          subst h1
          exact ⟨rfl, by simp [Cont.len]⟩
        · simp only [Bool.not_eq_true] at hb; simp [hb] at h1
      | deep fx e xs => simp [Cont.snoc] at h1
    obtain ⟨r1, r2⟩ := ofL_shape l h2
    exact ⟨r1.trans hs.1, by simp only [List.length_cons]; omega⟩

theorem told_buildSlice (hT : TOk P E) {t : TypeId} {n : Nat} {ps : Array (Nat × Operand)} (ho : o.op = .buildSlice t n ps) {K : AV → Heap → Bool → Option ρ}
    (hk : (match kindOf E t with
     | some (.slice e) =>
       (match E.ty e with
        | some ti =>
          bif ascending (ps.toList.map fun p => (p.1, aeval s p.2)) 0 && (ps.size == n) && Nat.ble (n * ti.size) 16777216 then
          (match Cont.ofL (ps.toList.map fun p => aeval s p.2) (Cont.empty ti) with
           | some c => K (.sl h.length) (h ++ [some ⟨c, true⟩]) false
           | none => none) else none
        | none => none)
     | _ => none) = some x) : Told P s h o K x := by
  split at hk
  · rename_i e hkt
    split at hk
    · rename_i ti hti
      by_cases hb : (ascending (ps.toList.map fun p => (p.1, aeval s p.2)) 0 && (ps.size == n) && Nat.ble (n * ti.size) 16777216) = true
      · simp only [hb, cond_true] at hk
        simp only [Bool.and_eq_true, beq_iff_eq, Nat.ble_eq] at hb
        obtain ⟨⟨h1, h2⟩, h3⟩ := hb
        split at hk
        · rename_i ct hct
          have ty := hT.is hti
          obtain ⟨i, z, hi, hz, hsz, hby, hrun, hzc, hzr, hz1⟩ := ty.zrun
          have hee := empty_es ty
          have hlist : (ps.toList.map fun p => aeval s p.2) = (ps.toList.map (·.2)).map (aeval s) := by simp
          rw [hlist] at hct
          obtain ⟨hes, hlen⟩ := ofL_shape _ hct
          rw [hee.1] at hes
          have hsize : ps.toList.length = n := by simpa using h2
          have hct0 : ct.len = n := by rw [hlen, hee.2, List.length_map, List.length_map, hsize, Nat.zero_add]
          refine ⟨_, _, _, hk, OpOk.grow (ob := ⟨ct, true⟩) (hpos := by show 0 < ct.es; rw [hes]; exact ty.pos) (Cont.ofL_plain _ (Cont.empty_plain ti) hct) fun c a hs hsl => ?_⟩
          obtain ⟨g1, g2, g3, g4⟩ := ContV.ofL hsl _ (empty_rep ty c) hct
          have hzpos : 0 < z.cells.size := by rw [hzc]; exact ty.pos
          obtain ⟨B, hB, hBl⟩ := fill_row a ti.size ps.toList 0 (madeCells z.cells (n * ti.size)) [] h1 (fun p hp => by rw [g4 p.2 (List.mem_map_of_mem hp), hee.1]) (by simp) (by rw [size_madeCells, hsize]; simp) (by simp)
          have hBl' : B.toList = (ps.toList.map fun p => (a.eval p.2).cells.toList).flatten := by simpa using hBl
          have hL : (ps.toList.map (·.2)).map (fun y => (a.eval y).cells.toList) = ps.toList.map fun p => (a.eval p.2).cells.toList := by simp
          rw [List.nil_append, hL] at g1
          have hBsz : B.size = n * ti.size := by
            have := flat_len g1.es
            rw [← Array.length_toList, hBl', this, g1.len, hct0, hes]
          have hp : Pushed c.w (c.w.alloc (.cells B e)) ((ps.toList.map fun p => (a.eval p.2).cells.toList).flatten ++ []) := by
            rw [List.append_nil, ← hBl']; exact pushed_alloc c.w B e
          have hrun2 : (Instr.buildSlice t n (ps.map fun p => (p.1, a.eval p.2))).run P c.w = .ok (.slice (some ⟨c.w.heap.size, 0, none⟩) n n) (c.w.alloc (.cells B e)) := by
            have hmade : (Array.range (n * ti.size)).map (fun j => z.cells[j % z.cells.size]!) = madeCells z.cells (n * ti.size) := rfl
            have hsz' := ty.size c.w
            have hnot : ¬ 16777216 < n * ti.size := by omega
            by_cases h0 : n * ti.size = 0
            · have hn0 : n = 0 := by rcases Nat.mul_eq_zero.1 h0 with h | h; exact h; have := ty.pos; omega
              have hps : ps = #[] := by apply Array.eq_empty_of_size_eq_zero; omega
              subst hps
              subst hn0
              have hBe : B = #[] := by apply Array.eq_empty_of_size_eq_zero; simpa using hBsz
              subst hBe
              simp [Instr.buildSlice, run_underlying (hT.slice hkt), hsz', Instr.fill, newRow, Array.range_zero']
            · simp [Instr.buildSlice, run_underlying (hT.slice hkt), hsz', hnot, h0, hrun, hmade, hB, newRow]
          refine ⟨.slice (some ⟨c.w.heap.size, 0, none⟩) n n, _, _, _, ?_, hp, g1, fun c' _ hw hm' => ?_⟩
          · simp [execOp, ho, hrun2]
          · simp only [hes, hct0] at hm'
            exact sl_new hp hw hm' (Nat.le_refl _) (by rw [List.append_nil, ← hBl', Array.length_toList, hBsz]; exact Nat.le_refl _) (fun _ => rfl)
        · cases hk
      · simp only [Bool.not_eq_true] at hb; simp [hb] at hk
    · cases hk
  · cases hk
end
end Go.AM
