/- An interpreter of the model's code over values that are told, and its soundness. -/
import Derived.Test.YteojdaobpjhddaaAS13
namespace Go.AM

/-! Soundness: append. -/
section
variable {ρ : Type} {P : Program} {E : Env} {s : List AV} {h : Heap} {o : Oper} {x : ρ}

theorem ContV.app {c : Ctx} {a b ct : Cont} {L M : List (List Value)} (h : ContV c a L) (h' : ContV c b M) (ha : a.app b = some ct) : ContV c ct (L ++ M) ∧ ct.len = a.len + b.len ∧ ct.es = a.es := by
  cases a with
  | typed e xs =>
    cases b with
    | typed f ys =>
      simp only [Cont.app] at ha
      split at ha
      · rename_i he
        subst he
        cases ha
        exact ⟨All2.append (R := ElemT c f) h h', by simp [Cont.len, Ty.castR], rfl⟩
      · cases ha
    | raw a es d xs => simp [Cont.app] at ha
    | deep fx f ys => simp [Cont.app] at ha
  | deep fx e xs => simp [Cont.app] at ha
  | raw a es d xs =>
    cases b with
    | deep fx f ys => simp [Cont.app] at ha
    | typed f ys => simp [Cont.app] at ha
    | raw a' es' d' ys =>
      simp only [Cont.app] at ha
      by_cases hb : ((a == a') && (es == es')) = true
      · simp only [hb, cond_true, Option.some.injEq] at ha
        subst ha
        simp only [Bool.and_eq_true, beq_iff_eq] at hb
        obtain ⟨rfl, rfl⟩ := hb
        exact ⟨⟨h.1, h.2.1, h.2.2.append h'.2.2⟩, by simp [Cont.len], rfl⟩
      · simp only [Bool.not_eq_true] at hb; simp [hb] at ha

theorem Cont.app_plain {a b ct : Cont} (ha : a.app b = some ct) : ct.isDeep = false := by
  cases a with
  | typed e xs =>
    cases b with
    | typed f ys =>
      simp only [Cont.app] at ha
      split at ha
      · rename_i he; subst he; cases ha; rfl
      · cases ha
    | raw a es d xs => simp [Cont.app] at ha
    | deep fx f ys => simp [Cont.app] at ha
  | deep fx e xs => simp [Cont.app] at ha
  | raw a es d xs =>
    cases b with
    | deep fx f ys => simp [Cont.app] at ha
    | typed f ys => simp [Cont.app] at ha
    | raw a' es' d' ys =>
      simp only [Cont.app] at ha
      by_cases hb : ((a == a') && (es == es')) = true
      · simp only [hb, cond_true, Option.some.injEq] at ha; subst ha; rfl
      · simp only [Bool.not_eq_true] at hb; simp [hb] at ha

set_option maxHeartbeats 1000000 in
theorem run_append_room {w w' : World} {T U ty e : TypeId} {ts : Array TypeId} {size : Nat} (h0 : ts[0]? = some T) (h1 : ts[1]? = some U) (hT : P.underlying T = some (.slice e)) (hU : (∃ e', P.underlying U = some (.slice e')) ∨ P.underlying U = some .string)
    (hsz : ∀ w, (sizeOf e).run P w = .ok size w) {A : Option Addr} {len cap m : Nat} {y : Value} {news : List Value} (hlen : (Builtin.lenOf y).run P w = .ok m w) (hfirst : (Builtin.firstCells size m y).run P w = .ok news.toArray w)
    (hroom : len + m ≤ cap) (hst : ∀ b, A = some b → (storeCells (b.add (len * size)) news).run P w = .ok () w') (hnone : A = none → w' = w) :
    (Builtin.append_ ts ty #[.slice A len cap, y]).run P w = .ok (.slice A (len + m) cap) w' := by
  cases A with
  | none =>
    rw [hnone rfl]
    rcases hU with ⟨e', hU⟩ | hU <;>
    simp [Builtin.append_, h0, h1, run_underlying hT, run_underlying hU, hsz, hlen, hroom, hfirst]
  | some b =>
    have := hst b rfl
    rcases hU with ⟨e', hU⟩ | hU <;>
    simp [Builtin.append_, h0, h1, run_underlying hT, run_underlying hU, hsz, hlen, hroom, hfirst, this]

set_option maxHeartbeats 1000000 in
theorem run_append_more {w : World} {T U ty e : TypeId} {ts : Array TypeId} {i : TypeInfo} {z : Value} (h0 : ts[0]? = some T) (h1 : ts[1]? = some U) (hT : P.underlying T = some (.slice e)) (hU : (∃ e', P.underlying U = some (.slice e')) ∨ P.underlying U = some .string)
    (hi : P.info? e = some i) (hz : i.zero = some z) {A : Option Addr} {len cap m : Nat} {y : Value} {olds news : Array Value} (hlen : (Builtin.lenOf y).run P w = .ok m w)
    (hold : (Builtin.firstCells i.size len (.slice A len cap)).run P w.drew = .ok olds w.drew) (hfirst : (Builtin.firstCells i.size m y).run P w.drew = .ok news w.drew)
    (hg : cap < len + m) (h63 : len + m ≤ 9223372036854775807) (hfit : Builtin.nextslicecap (len + m) cap * i.bytes ≤ 281474976710656) :
    (Builtin.append_ ts ty #[.slice A len cap, y]).run P w = .ok (.slice (some ⟨w.heap.size, 0, none⟩) (len + m) (grownCap w (len + m) cap e))
      (w.drew.alloc (.cells (olds ++ news ++ Builtin.zeroCells z.cells (grownCap w (len + m) cap e - (len + m))) e)) := by
  have hn : ¬ (len + m ≤ cap) := by omega
  have h63' : ¬ (9223372036854775807 < ((len : Int) + (m : Int))) := by omega
  have h48' : ¬ (281474976710656 < Builtin.nextslicecap (len + m) cap * i.bytes) := by omega
  rcases hU with ⟨e', hU⟩ | hU <;>
  simp [Builtin.append_, h0, h1, run_underlying hT, run_underlying hU, sizeOf, typeInfo, zeroValue, hi, hz, hlen, hn, h63', h48', Question.forced, hold, hfirst, newRow, grownCap]

theorem src_rep {c : Ctx} (hs : Sim c h) {t : TypeId} {ti : TI} (ty : TyIs P t ti) {a : AV} {v : Value} {ys : Cont} (hr : VRep c a v) (ho : srcOf ti h a = some ys) (hes : ys.es = ti.size) :
    ∃ L, ContV c ys L ∧ (∀ w, (Builtin.lenOf v).run P w = .ok ys.len w) ∧ ∀ n, n ≤ ys.len → (Builtin.firstCells ti.size n v).run P c.w = .ok (L.take n).flatten.toArray c.w ∧ (Builtin.firstCells ti.size n v).run P c.w.drew = .ok (L.take n).flatten.toArray c.w.drew := by
  have slice : ∀ {A : Option Addr} {cap : Nat} {L : List (List Value)} {ct : Cont}, ct.es = ti.size → v = .slice A ct.len cap → ContV c ct L → (0 < ct.len → ∃ b o, A = some ⟨b, o, none⟩ ∧ Lies c.w b o L.flatten) →
      ∃ L, ContV c ct L ∧ (∀ w, (Builtin.lenOf v).run P w = .ok ct.len w) ∧ ∀ n, n ≤ ct.len → (Builtin.firstCells ti.size n v).run P c.w = .ok (L.take n).flatten.toArray c.w ∧ (Builtin.firstCells ti.size n v).run P c.w.drew = .ok (L.take n).flatten.toArray c.w.drew := by
    intro A cap L ct he hv hL hl
    subst hv
    refine ⟨L, hL, fun w => by simp [Builtin.lenOf], fun n hn => ⟨?_, ?_⟩⟩
    · exact run_first (by rw [← he]; exact hL.es) hL.len hn hl
    · exact run_first (by rw [← he]; exact hL.es) hL.len hn (fun h => by obtain ⟨b, o, h1, h2⟩ := hl h; exact ⟨b, o, h1, h2⟩)
  unfold srcOf at ho
  split at ho
  · simp only [Option.some.injEq] at ho
    subst ho
    simp only [VRep] at hr
    obtain ⟨A, rfl⟩ := hr
    have he := empty_es ty
    exact slice (A := A) (cap := 0) he.1 (by rw [he.2]) (empty_rep ty c) (fun h => by rw [he.2] at h; exact absurd h (Nat.lt_irrefl 0))
  · rename_i b
    simp only [Option.some.injEq] at ho
    subst ho
    rw [hr.str]
    have hsz : (Cont.typed (.int .u8) (valBytes b)).len = b.size := by show (valBytes b).length = b.size; simp [valBytes]
    have all : ∀ l : List Int, All2 (ElemT c (.int .u8)) l (l.map fun n => [Value.int .u8 n]) := by
      intro l
      induction l with
      | nil => trivial
      | cons n l ih => exact ⟨⟨rfl, rfl⟩, ih⟩
    have fl : ∀ (n : Nat), (((valBytes b).map fun n => [Value.int .u8 n]).take n).flatten.toArray = (b.extract 0 n).data.map fun b => Value.int .u8 b.toNat := by
      intro n
      apply Array.ext'
      have e1 : (b.extract 0 n).data.toList = b.data.toList.take n := by
        simp [ByteArray.data_extract]
      simp only [Array.toList_map, e1, valBytes, ← List.map_take]
      generalize b.data.toList.take n = l
      induction l with
      | nil => rfl
      | cons u l ih => simp only [List.map_cons, List.flatten_cons]; simp only [List.map_map] at ih ⊢; rw [← ih]; rfl
    refine ⟨_, all _, fun w => by rw [hsz]; simp [Builtin.lenOf], fun n _ => ?_⟩
    rw [fl n]
    exact ⟨by simp [Builtin.firstCells], by simp [Builtin.firstCells]⟩
  · obtain ⟨A, cap, L, hv, _, hL, hl⟩ := rowOf_rep hs hr ho
    exact slice hes hv hL hl
end
end Go.AM
