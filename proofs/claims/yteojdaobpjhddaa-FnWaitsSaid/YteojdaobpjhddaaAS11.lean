/- An interpreter of the model's code over values that are told, and its soundness. -/
import Derived.Test.YteojdaobpjhddaaAS10
namespace Go.AM

/-! Soundness: structs that are built; conversions; cuts; lengths. -/
section
variable {ρ : Type} {P : Program} {E : Env} {s : List AV} {h : Heap} {o : Oper} {x : ρ}

theorem places_ok : ∀ (gs : List Field), (∀ g ∈ gs, P.cellsOf g.type ≠ 0) → ∃ places, gs.mapM (fun f => (P.info? f.type).map fun i => (f.offset, i.size)) = some places ∧
    ∀ (i : Nat) (g : Field), gs[i]? = some g → ∃ it, P.info? g.type = some it ∧ places[i]? = some (g.offset, it.size)
  | [], _ => ⟨[], rfl, by simp⟩
  | g :: gs, h => by
    obtain ⟨pl, h1, h2⟩ := places_ok gs (fun g hg => h g (by simp [hg]))
    have hc := h g (by simp)
    cases hq : P.info? g.type with
    | none => simp [Program.cellsOf, hq] at hc
    | some it =>
      refine ⟨(g.offset, it.size) :: pl, ?_, fun i g' hg' => ?_⟩
      · simp [List.mapM_cons, hq, h1]
      · cases i with
        | zero => simp at hg'; subst hg'; exact ⟨it, hq, by simp⟩
        | succ i => simp at hg'; simpa using h2 i g' hg'

theorem foldParts_ok (hT : TOk P E) {gs : List Field} {fs : List (Nat × TypeId)} {places : List (Nat × Nat)} (hfs : gs.map (fun g => (g.offset, g.type)) = fs)
    (hpl : ∀ (i : Nat) (g : Field), gs[i]? = some g → ∃ it, P.info? g.type = some it ∧ places[i]? = some (g.offset, it.size)) {c : Ctx} {ac : Act} (hsl : Slots c s ac) :
    ∀ (l : List (Nat × Operand)) {cs cs' : List AV} {A : Array Value}, foldParts fs E (l.map fun p => (p.1, aeval s p.2)) cs = some cs' → VReps c cs A.toList →
      ∃ B, Instr.fill (places.toArray[·]?) A (l.map fun p => (p.1, ac.eval p.2)) = some B ∧ VReps c cs' B.toList
  | [], cs, cs', A, hf, hA => by
    simp only [List.map_nil, foldParts, Option.some.injEq] at hf
    subst hf
    exact ⟨A, rfl, hA⟩
  | (i, y) :: l, cs, cs', A, hf, hA => by
    simp only [List.map_cons, foldParts] at hf
    split at hf
    · cases hf
    · rename_i off t' hi
      rw [← hfs, List.getElem?_map, Option.map_eq_some_iff] at hi
      obtain ⟨g, hg, he⟩ := hi
      simp only [Prod.mk.injEq] at he
      obtain ⟨rfl, rfl⟩ := he
      obtain ⟨it, hit, hpi⟩ := hpl i g hg
      split at hf
      · cases hf
      · rename_i ti hti
        by_cases hb : (((aeval s y).size == ti.size) && (aeval s y).cells.all AV.one && Nat.ble (g.offset + (aeval s y).size) cs.length) = true
        · simp only [hb, cond_true] at hf
          simp only [Bool.and_eq_true, beq_iff_eq, Nat.ble_eq] at hb
          obtain ⟨⟨h1, h2⟩, h3⟩ := hb
          obtain ⟨q1, q2⟩ := (hsl.eval y).cells h2
          have hsz : it.size = ti.size := by
            obtain ⟨it', h', h'', _⟩ := (hT.is hti).tinfo
            rw [hit] at h'; cases h'; exact h''
          have hcl : (ac.eval y).cells.size = ti.size := by rw [← Array.length_toList, ← q1.length, ← AV.size_cells, h1]
          have hlen : cs.length = A.size := by rw [hA.length]; simp
          have hle : g.offset + (ac.eval y).cells.size ≤ A.size := by omega
          have hfp := fill_part (ac.eval y) g.offset A hle
          have hB : VReps c (splice cs g.offset (aeval s y).cells) ((ac.eval y).cells.zipIdx.foldl (fun cs (p : Value × Nat) => cs.setIfInBounds (g.offset + p.2) p.1) A).toList := by
            rw [hfp]
            unfold splice
            have : (aeval s y).cells.length = (ac.eval y).cells.size := by rw [q1.length]; simp
            rw [this]
            exact (hA.take _).append (q1.append (hA.drop _))
          obtain ⟨B, r1, r2⟩ := foldParts_ok hT hfs hpl hsl l hf hB
          refine ⟨B, ?_, r2⟩
          have hpi' : places.toArray[i]? = some (g.offset, it.size) := by simpa using hpi
          simp only [List.map_cons, Instr.fill, hpi', hsz, hcl]
          rw [if_neg (by simp; omega)]
          exact r1
        · simp only [Bool.not_eq_true] at hb; simp [hb] at hf

theorem told_build (hT : TOk P E) {t : TypeId} {ps : Array (Nat × Operand)} (ho : o.op = .build t ps) {K : AV → Heap → Bool → Option ρ}
    (hk : (match E.ty t with
     | some ⟨.struct fs, _, _, z, _, _⟩ =>
       (match foldParts fs E (ps.toList.map fun p => (p.1, aeval s p.2)) z.cells with
        | some cs => K (.agg cs) h false
        | none => none)
     | _ => none) = some x) : Told P s h o K x := by
  split at hk
  · rename_i fs n1 n2 z n3 n4 hti
    have hkd : kindOf E t = some (.struct fs) := by simp [kindOf, hti]
    obtain ⟨gs, hu, hfs, hn, _⟩ := hT.struct hkd
    obtain ⟨pl, hpl, hpi⟩ := places_ok gs.toList (fun g hg => (hn g hg).2)
    split at hk
    · rename_i cs hcs
      obtain ⟨i, z', hi, hz', hsz, hb, hrun, hzc, hzr, hz1⟩ := (hT.is hti).zrun
      refine told_pure hk fun c ac hs hsl => ?_
      obtain ⟨B, hB, hBr⟩ := foldParts_ok hT hfs hpi hsl ps.toList hcs (hzr c)
      refine ⟨.agg B, ?_, by simp only [VRep]; exact ⟨B, rfl, hBr⟩⟩
      have hbuilt : P.built t (ps.map fun p => (p.1, ac.eval p.2)).toList = some B := by
        simp only [Program.built, hi, hu, hz', hpl, Array.toList_map]
        exact hB
      simp [execOp, ho, run_build c.w t _ B hbuilt]
    · cases hk
  · cases hk

theorem bounds_ok {lo hi : Option AV} {len : Nat} {K : Nat → Nat → Option ρ} (hk : withBounds lo hi len K = some x) :
    ∃ a b, K a b = some x ∧ a ≤ b ∧ b ≤ len ∧ (∀ v, hi = some v → ∃ k, v = .int k (b : Int)) ∧ (hi = none → b = len) ∧ (∀ v, lo = some v → ∃ k, v = .int k (a : Int)) ∧ (lo = none → a = 0) := by
  unfold withBounds at hk
  split at hk
  · rename_i kb b
    by_cases h0 : 0 ≤ b
    · by_cases h1 : b ≤ (len : Int)
      · simp only [h0, h1, decide_true, cond_true] at hk
        have hbn : ((b.toNat : Nat) : Int) = b := Int.toNat_of_nonneg h0
        split at hk
        · rename_i ka a
          by_cases h2 : 0 ≤ a
          · by_cases h3 : a ≤ b
            · simp only [h2, h3, decide_true, cond_true] at hk
              have han : ((a.toNat : Nat) : Int) = a := Int.toNat_of_nonneg h2
              exact ⟨a.toNat, b.toNat, hk, by omega, by omega, fun v hv => ⟨kb, by cases hv; rw [hbn]⟩, by simp, fun v hv => ⟨ka, by cases hv; rw [han]⟩, by simp⟩
            · simp [h2, h3] at hk
          · simp [h2] at hk
        · exact ⟨0, b.toNat, hk, by omega, by omega, fun v hv => ⟨kb, by cases hv; rw [hbn]⟩, by simp, by simp, by simp⟩
        · cases hk
      · simp [h0, h1] at hk
    · simp [h0] at hk
  · split at hk
    · rename_i ka a
      by_cases h2 : 0 ≤ a
      · by_cases h3 : a ≤ (len : Int)
        · simp only [h2, h3, decide_true, cond_true] at hk
          have han : ((a.toNat : Nat) : Int) = a := Int.toNat_of_nonneg h2
          exact ⟨a.toNat, len, hk, by omega, by omega, by simp, by simp, fun v hv => ⟨ka, by cases hv; rw [han]⟩, by simp⟩
        · simp [h2, h3] at hk
      · simp [h2] at hk
    · exact ⟨0, len, hk, by omega, by omega, by simp, by simp, by simp, by simp⟩
    · cases hk
  · cases hk

/-- A cut's bounds at the model's own. -/
theorem run_bounds {c : Ctx} {ac : Act} (hsl : Slots c s ac) (isSlice : Bool) {lo hi : Option Operand} {len cap a b : Nat} (hlc : len ≤ cap ∨ isSlice = false ∧ cap = len) (hab : a ≤ b) (hb : b ≤ len)
    (h1 : ∀ v, hi.map (aeval s) = some v → ∃ k, v = .int k (b : Int)) (h2 : hi.map (aeval s) = none → b = len) (h3 : ∀ v, lo.map (aeval s) = some v → ∃ k, v = .int k (a : Int)) (h4 : lo.map (aeval s) = none → a = 0) (w : World) :
    (Instr.sliceBounds isSlice len cap (lo.map ac.eval) (hi.map ac.eval) none).run P w = .ok (a, b, cap) w := by
  have hcap : b ≤ cap := by omega
  have vint : ∀ (y : Operand) (k : IntKind) (n : Int), aeval s y = .int k n → ac.eval y = .int k n := fun y k n hy => by
    have := hsl.eval y; rw [hy] at this; exact this.int
  cases hi with
  | none =>
    have hbl := h2 rfl
    subst hbl
    cases lo with
    | none => have := h4 rfl; subst this; simp [Instr.sliceBounds]
    | some y =>
      obtain ⟨k, hy⟩ := h3 _ rfl
      have e := vint y k _ hy
      simp [Instr.sliceBounds, Instr.sliceBound, asIntOf, e, hab]
  | some z =>
    obtain ⟨kz, hz⟩ := h1 _ rfl
    have ez := vint z kz _ hz
    cases lo with
    | none => have := h4 rfl; subst this; simp [Instr.sliceBounds, Instr.sliceBound, asIntOf, ez, hcap]
    | some y =>
      obtain ⟨k, hy⟩ := h3 _ rfl
      have e := vint y k _ hy
      simp [Instr.sliceBounds, Instr.sliceBound, asIntOf, e, ez, hab, hcap]
end
end Go.AM
