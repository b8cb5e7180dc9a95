/- An interpreter of the model's code over values that are told, and its soundness. -/
import Derived.Test.YteojdaobpjhddaaAS12
namespace Go.AM

/-! Soundness: what rows hold, told; conversions; lengths. -/
section
variable {ρ : Type} {P : Program} {E : Env} {s : List AV} {h : Heap} {o : Oper} {x : ρ}

theorem RowG.all2 {w : World} {size : Nat} {α : Type} {R : α → List Value → Prop} {xs : List α} {b o : Nat}
    (hx : ∀ (i : Nat) (x : α), xs[i]? = some x → ∃ vs, vs.length = size ∧ Lies w b (o + i * size) vs ∧ R x vs) : ∃ L : List (List Value), All2 (fun x vs => vs.length = size ∧ R x vs) xs L ∧ Lies w b o L.flatten := by
  induction xs generalizing o with
  | nil => exact ⟨[], trivial, by simp [Lies]⟩
  | cons x xs ih =>
    obtain ⟨vs, h1, h2, h3⟩ := hx 0 x (by simp)
    obtain ⟨L, hL, hl⟩ := ih (o := o + size) (fun i y hy => by
      have := hx (i + 1) y (by simpa using hy)
      rwa [show o + (i + 1) * size = o + size + i * size by rw [Nat.add_mul]; omega] at this)
    exact ⟨vs :: L, ⟨⟨h1, h3⟩, hL⟩, by rw [List.flatten_cons]; exact Lies.append (by simpa using h2) (by rw [h1]; exact hl)⟩

theorem ContV.cut {c : Ctx} {ct : Cont} {L : List (List Value)} (h : ContV c ct L) (lo n : Nat) : ContV c (ct.cut lo n) ((L.drop lo).take n) := by
  cases ct with
  | typed e xs => exact All2.take n (All2.drop (R := ElemT c e) lo h)
  | raw a es d xs => exact ⟨h.1, h.2.1, (h.2.2.drop lo).take n⟩
  | deep fx e xs => exact All2.take n (All2.drop (R := ElemD e.size) lo h)

theorem cut_len (ct : Cont) (lo n : Nat) (hle : lo + n ≤ ct.len) : (ct.cut lo n).len = n ∧ (ct.cut lo n).es = ct.es := by
  cases ct with
  | typed e xs => simp only [Cont.len] at hle; exact ⟨by simp [Cont.cut, Cont.len]; omega, rfl⟩
  | raw a es d xs => simp only [Cont.len] at hle; exact ⟨by simp [Cont.cut, Cont.len]; omega, rfl⟩
  | deep fx e xs => simp only [Cont.len] at hle; exact ⟨by simp [Cont.cut, Cont.len]; omega, rfl⟩

/-- What a slice value's row holds. -/
theorem rowOf_rep {c : Ctx} (hs : Sim c h) {a : AV} {v : Value} {ct : Cont} (hr : VRep c a v) (ho : rowOf h a = some ct) :
    ∃ A cap L, v = .slice A ct.len cap ∧ ct.len ≤ cap ∧ ContV c ct L ∧ (0 < ct.len → ∃ b o, A = some ⟨b, o, none⟩ ∧ Lies c.w b o L.flatten) := by
  unfold rowOf at ho
  split at ho
  · rename_i id
    simp only [Option.map_eq_some_iff] at ho
    obtain ⟨ob, hob, rfl⟩ := ho
    simp only [VRep, slRep] at hr
    obtain ⟨i, hi, hr⟩ := hr.2.resolve_left (hs.alive hob)
    have rep := hs.rep hob hi
    obtain ⟨L, hL, hl⟩ := contRep_iff.1 rep.cont
    rw [← rep.len]
    rcases hr with ⟨hloc, cap, n, hv, hle, _⟩ | ⟨hloc, h0, A, hv⟩
    · exact ⟨_, cap, L, hv, hle, hL, fun _ => ⟨_, _, rfl, hl⟩⟩
    · exact ⟨A, 0, L, by rw [h0]; exact hv, by omega, hL, fun h => by omega⟩
  · rename_i id off n
    simp only [Option.map_eq_some_iff] at ho
    obtain ⟨ob, hob, rfl⟩ := ho
    simp only [VRep, ssRep] at hr
    obtain ⟨i, hi, hon, hr⟩ := hr.2.resolve_left (hs.alive hob)
    have rep := hs.rep hob hi
    obtain ⟨L, hL, hl⟩ := contRep_iff.1 rep.cont
    have hcl := cut_len ob.c off n (by rw [← rep.len]; exact hon)
    rw [hcl.1]
    rcases hr with ⟨hloc, cap, m, hv, hle, _⟩ | ⟨h0, A, hv⟩
    · refine ⟨_, cap, _, hv, hle, hL.cut off n, fun _ => ⟨_, _, rfl, ?_⟩⟩
      have hes : ∀ vs ∈ L, vs.length = i.es := by intro vs hv; rw [hL.es vs hv, rep.es]
      have h1 := (hl.drop (off * i.es)).take (n * i.es)
      rw [flat_drop off hes, flat_take n (fun vs hv => hes vs (List.mem_of_mem_drop hv))] at h1
      exact h1
    · exact ⟨A, 0, _, by rw [h0]; exact hv, by omega, hL.cut off n, fun h => by omega⟩
  · rename_i e xs
    simp only [Option.some.injEq] at ho
    subst ho
    obtain ⟨A, cap, hv, hle, hnone, hx⟩ := hr.row
    by_cases hne : (xs : List e.C) = []
    · refine ⟨A, cap, [], hv, hle, ?_, fun h => ?_⟩
      · rw [hne]; trivial
      · rw [hne] at h; exact absurd h (Nat.lt_irrefl 0)
    · obtain ⟨b, off, hA, hp, hcells⟩ := hx hne
      obtain ⟨L, hL, hl⟩ := RowG.all2 hcells
      exact ⟨A, cap, L, hv, hle, hL, fun _ => ⟨b, off, hA, hl⟩⟩
  · cases ho

theorem run_load0 (w : World) (a : Addr) : (loadCells a 0).run P w = .ok #[] w := by simpa using run_loadCells_list (P := P) w a [] (by simp)

/-- The first elements of a slice. -/
theorem run_first {w : World} {A : Option Addr} {len cap es n : Nat} {L : List (List Value)} (hes : ∀ vs ∈ L, vs.length = es) (hl : L.length = len) (hn : n ≤ len) (hlie : 0 < len → ∃ b o, A = some ⟨b, o, none⟩ ∧ Lies w b o L.flatten) :
    (Builtin.firstCells es n (.slice A len cap)).run P w = .ok (L.take n).flatten.toArray w := by
  by_cases h0 : n = 0
  · subst h0
    cases A with
    | none => simp [Builtin.firstCells]
    | some A => simp [Builtin.firstCells, run_load0]
  · obtain ⟨b, off, hA, hlies⟩ := hlie (by omega)
    subst hA
    have h1 := hlies.take (n * es)
    rw [flat_take n hes] at h1
    have hlen : (L.take n).flatten.length = n * es := by
      rw [flat_len (es := es) (fun vs hv => hes vs (List.mem_of_mem_take hv)), List.length_take]
      congr 1; omega
    have := run_loadLies (P := P) w b off _ h1
    rw [hlen] at this
    simp [Builtin.firstCells, this]

theorem told_convert (hT : TOk P E) {src dst : TypeId} {y : Operand} (ho : o.op = .convert src dst y) {K : AV → Heap → Bool → Option ρ}
    (hk : aconv E src dst (aeval s y) h K = some x) : Told P s h o K x := by
  generalize hya : aeval s y = a at hk
  unfold aconv at hk
  split at hk
  · rename_i k' k _ n h1 h2
    refine told_pure hk fun c ac hs hsl => ⟨.int k (k.wrap n), ?_, by simp only [VRep]⟩
    have hr := hsl.eval y; rw [hya] at hr
    simp [execOp, ho, hr.int, convert, run_underlying (hT.int h1), run_underlying (hT.int h2), Conv.intToInt]
  · rename_i k' _ n h1 h2
    refine told_pure hk fun c ac hs hsl => ⟨.string (Utf8.encode n), ?_, by simp only [VRep]⟩
    have hr := hsl.eval y; rw [hya] at hr
    simp [execOp, ho, hr.int, convert, run_underlying (hT.int h1), run_underlying (hT.str h2), Conv.intToString]
  · rename_i b h1 h2
    refine told_pure hk fun c ac hs hsl => ⟨.string b, ?_, by simp only [VRep]⟩
    have hr := hsl.eval y; rw [hya] at hr
    simp [execOp, ho, hr.str, convert, run_underlying (hT.str h1), run_underlying (hT.str h2)]
  · rename_i e b h1 h2
    split at hk
    · rename_i h3
      refine ⟨_, _, _, hk, OpOk.grow (hpos := by simp [Cont.es, Ty.size]) rfl fun c ac hs hsl => ?_⟩
      have hr := hsl.eval y; rw [hya] at hr
      have hrun := run_bytes_of_string (P := P) c.w src dst e b (hT.str h1) (hT.slice h2) (hT.int h3)
      have hsz : (valBytes b).length = b.size := by simp [valBytes]
      have hfl : (bytesRow b (grownCap c.w b.size 0 e)).toList = ((valBytes b).map fun n => [Value.int .u8 n]).flatten ++ List.replicate (grownCap c.w b.size 0 e - b.size) (.int .u8 0) := by
        have : ((valBytes b).map fun n => [Value.int .u8 n]).flatten = (b.data.toList).map fun b => Value.int .u8 b.toNat := by
          simp only [valBytes]
          induction b.data.toList with
          | nil => rfl
          | cons u l ih => simp only [List.map_cons, List.flatten_cons, ih]; rfl
        rw [this]
        simp [bytesRow]
      have hbl : (bytesRow b (grownCap c.w b.size 0 e)).size = grownCap c.w b.size 0 e := by
        have := grownCap_ge c.w b.size 0 e
        have h' : b.data.size = b.size := rfl
        simp [bytesRow, h']; omega
      have hp : Pushed c.w (c.w.drew.alloc (.cells (bytesRow b (grownCap c.w b.size 0 e)) e ((bytesRow b (grownCap c.w b.size 0 e)).size, (bytesRow b (grownCap c.w b.size 0 e)).size + 1)))
          (((valBytes b).map fun n => [Value.int .u8 n]).flatten ++ List.replicate (grownCap c.w b.size 0 e - b.size) (.int .u8 0)) := by
        rw [← hfl]
        refine ⟨by simp, fun k hk => heap_alloc_old c.w.drew _ k hk, ⟨e, _, by simpa using heap_alloc_new c.w.drew _⟩, fun i hi => ?_, rfl, rfl, rfl⟩
        have hnew := heap_alloc_new c.w.drew (.cells (bytesRow b (grownCap c.w b.size 0 e)) e ((bytesRow b (grownCap c.w b.size 0 e)).size, (bytesRow b (grownCap c.w b.size 0 e)).size + 1))
        rw [Array.length_toList] at hi
        simp only [World.frozen?]
        have e1 : c.w.drew.heap.size = c.w.heap.size := rfl
        rw [e1] at hnew
        rw [hnew]
        simp
        omega
      refine ⟨.slice (some ⟨c.w.heap.size, 0, none⟩) b.size (grownCap c.w b.size 0 e), _, _, _, ?_, hp, ?_, fun c' _ hw hm' => ?_⟩
      · simp [execOp, ho, hr.str, hrun]
      · have all : ∀ l : List Int, All2 (ElemT c (.int .u8)) l (l.map fun n => [Value.int .u8 n]) := by
          intro l
          induction l with
          | nil => trivial
          | cons n l ih => exact ⟨⟨rfl, rfl⟩, ih⟩
        exact all _
      · simp only [Cont.len, Cont.es, Ty.size] at hm'
        have hcl := grownCap_ge c.w b.size 0 e
        have hm2 : c'.m h.length = some (inf true c.w.heap.size 0 b.size 1 false) := by rw [hm', ← hsz]; rfl
        exact sl_new hp hw hm2 hcl (by rw [← hfl, Array.length_toList, hbl]; omega) (by simp)
    · cases hk
  · rename_i e a' _ h1 h2
    split at hk
    · rename_i xs h3 h4
      refine told_pure hk fun c ac hs hsl => ⟨.string (bytesVal xs), ?_, by simp only [VRep]⟩
      have hr := hsl.eval y; rw [hya] at hr
      obtain ⟨A, cap, L, hv, hle, hL, hlie⟩ := rowOf_rep hs hr h4
      have hu1 := hT.slice h1
      have hu2 := hT.str h2
      have hu3 := hT.int h3
      change All2 (ElemT c (.int .u8)) xs L at hL
      have hfl : ∀ (xs : List Int) (L : List (List Value)), All2 (ElemT c (.int .u8)) xs L → L.flatten = xs.map (Value.int .u8) := by
        intro xs
        induction xs with
        | nil => intro L h; cases L with
          | nil => rfl
          | cons _ _ => exact absurd h (by simp [All2])
        | cons n xs ih => intro L h; cases L with
          | nil => exact absurd h (by simp [All2])
          | cons vs L =>
            have h1 := h.1.2
            simp only [CellsRep] at h1
            simp [h1, ih L h.2]
      have hbytes : ∀ (ns : List Int) (r : ByteArray), ns.foldl (fun r n => r.push (UInt8.ofNat n.toNat)) r = ⟨r.data ++ (ns.map fun n => UInt8.ofNat n.toNat).toArray⟩ := by
        intro ns
        induction ns with
        | nil => intro r; simp
        | cons n ns ih =>
          intro r
          rw [List.foldl_cons, ih]
          congr 1
          apply Array.ext'
          simp [ByteArray.push]
      change List Int at xs
      by_cases h0 : 0 < xs.length
      · obtain ⟨b, off, hA, hlies⟩ := hlie h0
        subst hA
        have hl := run_loadLies (P := P) c.w b off _ hlies
        rw [hfl xs L hL, List.length_map] at hl
        have hb := run_bytesToString (P := P) c.w ⟨b, off, none⟩ xs.length cap xs hl
        have hbv : xs.foldl (fun r n => r.push (UInt8.ofNat n.toNat)) ByteArray.empty = bytesVal xs := by
          rw [hbytes]; simp [bytesVal]
        rw [hbv] at hb
        have hv' : ac.eval y = .slice (some ⟨b, off, none⟩) xs.length cap := hv
        simp [execOp, ho, hv', convert, run_underlying hu1, run_underlying hu2, run_underlying hu3, hb]
      · have hxe : xs = [] := List.eq_nil_of_length_eq_zero (by omega)
        have hv' : ac.eval y = .slice A 0 cap := by rw [hxe] at hv; exact hv
        have hbv : bytesVal xs = ByteArray.empty := by rw [hxe]; rfl
        rw [hbv]
        cases A with
        | none => simp [execOp, ho, hv', convert, run_underlying hu1, run_underlying hu2, run_underlying hu3, Conv.bytesToString]
        | some A =>
          have hb := run_bytesToString (P := P) c.w A 0 cap [] (by simpa using run_load0 (P := P) c.w A)
          simp only [List.foldl_nil] at hb
          simp [execOp, ho, hv', convert, run_underlying hu1, run_underlying hu2, run_underlying hu3, hb]
    · cases hk
  · cases hk
end
end Go.AM
