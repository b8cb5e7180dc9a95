/- What an argument reads as, told as the print's kinds want it: numbers, bools, texts, structs, rows of these, and structs nested in themselves. Conditions: the type's own shape, asked by the kernel. -/
import Derived.Test.YtbbknoaceccgmaaWWords
import Derived.ChangeArms
import Derived.ChangeSlices
import Derived.DataReads
import Derived.DataElems
namespace Go.Proofs.Ytbbknoaceccgmaa.Open
open Go Go.RowKit Go.Proofs.YtbbknoaceccgmaaW.PrintWords
set_option linter.unusedVariables false

section
variable {H : Type} {enc : TypeId × Value → H} {P : Program} {w : World} {spare : Nat → Bool} {held : Bool}

/-- What reads as a value of type t (with n to spare) is one of the kind d, and of it wf holds. -/
def OpensAt (enc : TypeId × Value → H) (P : Program) (w : World) (spare : Nat → Bool) (held : Bool) {α : Type} (n : Nat) (d : Kd α) (t : TypeId) (wf : α → Prop) : Prop :=
  ∀ (cs : List Value) (x : DataW H × List MemPlace), DataW.trod enc P w 0 spare held n t cs = some x → ∃ a, d.K w a cs ∧ wf a

/-- The same of fields in line, from a place on. -/
def OpensF (enc : TypeId × Value → H) (P : Program) (w : World) (spare : Nat → Bool) (held : Bool) {α : Type} (n : Nat) (d : Kd α) (fs : List Field) (off : Nat) (wf : α → Prop) : Prop :=
  ∀ cs : List Value, (∀ f ∈ fs, ∃ y, DataW.trod enc P w 0 spare held n f.type ((cs.drop f.offset).take (P.cellsOf f.type)) = some y) → cs.length = off + d.sz → ∃ a, d.K w a (cs.drop off) ∧ wf a

theorem opens_zero {α : Type} (d : Kd α) (t : TypeId) (wf : α → Prop) : OpensAt enc P w spare held 0 d t wf := by
  intro cs x h
  simp [DataW.trod] at h

theorem opens_mono {α : Type} {d : Kd α} {t : TypeId} {n : Nat} {wf wf' : α → Prop} (hw : ∀ a, wf a → wf' a) (h : OpensAt enc P w spare held n d t wf) : OpensAt enc P w spare held n d t wf' := by
  intro cs x hx
  obtain ⟨a, hk, ha⟩ := h cs x hx
  exact ⟨a, hk, hw a ha⟩

theorem opens_int {t : TypeId} {k : IntKind} (ht : P.underlying t = some (.int k)) (n : Nat) : OpensAt enc P w spare held n (Kd.int k) t (fun a => (Lit.int k a).wf = true) := by
  intro cs x h
  obtain ⟨m, rfl, _, hw⟩ := DataW.trod_int ht h
  exact ⟨m, rfl, hw⟩

theorem opens_bool {t : TypeId} (ht : P.underlying t = some .bool) (n : Nat) : OpensAt enc P w spare held n Kd.bool t (fun _ => True) := by
  intro cs x h
  obtain ⟨b, rfl, _⟩ := DataW.trod_bool ht h
  exact ⟨b, rfl, trivial⟩

theorem opens_string {t : TypeId} (ht : P.underlying t = some .string) (n : Nat) : OpensAt enc P w spare held n Kd.string t (fun s => s.size ≤ 9223372036854775807) := by
  intro cs x h
  obtain ⟨s, rfl, _, hs⟩ := DataW.trod_string ht h
  exact ⟨s, rfl, by simpa [maxLen] using hs⟩

theorem list_of {α : Type} {Q : Nat → α → Prop} : ∀ n : Nat, (∀ i, i < n → ∃ p, Q i p) → ∃ xs : List α, xs.length = n ∧ ∀ i p, xs[i]? = some p → Q i p
  | 0, _ => ⟨[], rfl, fun i p h => by simp at h⟩
  | n + 1, h => by
    obtain ⟨xs, hl, hx⟩ := list_of n (fun i hi => h i (by omega))
    obtain ⟨p, hp⟩ := h n (by omega)
    refine ⟨xs ++ [p], by simp [hl], fun i q hq => ?_⟩
    by_cases hi : i < xs.length
    · rw [List.getElem?_append_left hi] at hq
      exact hx i q hq
    · have hi2 : i = n := by
        have := (List.getElem?_eq_some_iff.1 hq).1
        simp at this
        omega
      subst hi2
      rw [List.getElem?_append_right (by omega)] at hq
      simp [hl] at hq
      subst hq
      exact hp

theorem opens_slice {α : Type} {d : Kd α} {t e : TypeId} {wf : α → Prop} {n : Nat} (ht : P.underlying t = some (.slice e)) (hC : P.cellsOf e = d.sz)
    (h : ∀ m, m < n → OpensAt enc P w spare held m d e wf) : OpensAt enc P w spare held n (Kd.slice e d) t (fun l => l.length ≤ 9223372036854775807 ∧ ∀ x ∈ l, wf x) := by
  intro cs x hx
  rcases DataW.trod_slice ht hx with ⟨rfl, _⟩ | ⟨a, len, cap, elems, rest, m, rfl, rfl, _, hb, hl, hm, hlen, hel, _, _⟩
  · exact ⟨[], ⟨none, 0, rfl, Nat.le_refl _, rfl, Nat.zero_le _, fun h => absurd h (Nat.lt_irrefl _)⟩, Nat.zero_le _, fun x hx => by simp at hx⟩
  · have each : ∀ i, i < len → ∃ p, (∃ c, c.length = d.sz ∧ d.K w p c ∧ ∀ j u, c[j]? = some u → w.cell? (a.add (i * d.sz + j)) = some u) ∧ wf p := by
      intro i hi
      have h1 := hel i hi
      rw [List.getElem?_eq_getElem (by omega), Option.bind_eq_some_iff] at h1
      obtain ⟨c, hc, hy⟩ := h1
      obtain ⟨p, hk, hp⟩ := h m (by omega) c _ hy
      obtain ⟨_, hcl, hcell⟩ := World.cells?_some hc
      refine ⟨p, ⟨c, by rw [hcl, hC], hk, fun j u hj => ?_⟩, hp⟩
      have hj' : j < P.cellsOf e := by
        have := (List.getElem?_eq_some_iff.1 hj).1
        omega
      have h2 := hcell j hj'
      rw [hj, hC, Addr.add_add] at h2
      exact h2
    obtain ⟨xs, hxl, hxs⟩ := list_of len each
    subst hxl
    have hm' : cap ≤ 9223372036854775807 := by simpa [maxLen] using hm
    refine ⟨xs, ⟨some a, cap, rfl, hl, rfl, by omega, fun _ => ⟨a, rfl, fun j p hj => (hxs j p hj).1⟩⟩, by omega, fun y hy => ?_⟩
    obtain ⟨i, hi⟩ := List.getElem?_of_mem hy
    exact (hxs i y hi).2

theorem opens_one {α : Type} {d : Kd α} {f : Field} {off n : Nat} {wf : α → Prop} (ho : f.offset = off) (hC : P.cellsOf f.type = d.sz) (h : OpensAt enc P w spare held n d f.type wf) : OpensF enc P w spare held n d [f] off wf := by
  intro cs hf hl
  obtain ⟨y, hy⟩ := hf f (by simp)
  rw [ho, hC, List.take_of_length_le (by simp; omega)] at hy
  exact h _ _ hy

theorem opens_cons {α β : Type} {a : Kd α} {b : Kd β} {f : Field} {fs : List Field} {off n : Nat} {wa : α → Prop} {wb : β → Prop} (ho : f.offset = off) (hC : P.cellsOf f.type = a.sz) (h : OpensAt enc P w spare held n a f.type wa)
    (hr : OpensF enc P w spare held n b fs (off + a.sz) wb) : OpensF enc P w spare held n (Kd.pair a b) (f :: fs) off (fun x => wa x.1 ∧ wb x.2) := by
  intro cs hf hl
  obtain ⟨y, hy⟩ := hf f (by simp)
  rw [ho, hC] at hy
  obtain ⟨x0, hk0, hw0⟩ := h _ _ hy
  have hs : (Kd.pair a b).sz = a.sz + b.sz := rfl
  obtain ⟨x1, hk1, hw1⟩ := hr cs (fun g hg => hf g (by simp [hg])) (by omega)
  refine ⟨(x0, x1), ⟨_, _, ?_, hk0, hk1⟩, hw0, hw1⟩
  rw [← List.drop_drop, List.take_append_drop]

theorem opens_struct {α : Type} {d : Kd α} {t : TypeId} {fs : Array Field} {wf : α → Prop} {n : Nat} (ht : P.underlying t = some (.struct fs)) (hC : P.cellsOf t = d.sz)
    (h : ∀ m, n = m + 1 → OpensF enc P w spare held m d fs.toList 0 wf) : OpensAt enc P w spare held n d t wf := by
  intro cs x hx
  obtain ⟨xs, m, rfl, _, hl, hlen, hf⟩ := DataW.trod_struct ht hx
  have := h m rfl cs (fun f hfm => ?_) (by omega)
  · simpa using this
  · obtain ⟨i, hi⟩ := List.getElem?_of_mem hfm
    rw [Array.getElem?_toList] at hi
    have h1 := hf i f hi
    have hlt : i < xs.length := by
      have := (Array.getElem?_eq_some_iff.1 hi).1
      omega
    rw [List.getElem?_eq_getElem hlt] at h1
    exact ⟨_, h1⟩

theorem opens_iso {α β : Type} {d : Kd α} {f : β → α} {g : α → β} (hfg : ∀ a, f (g a) = a) {t : TypeId} {wf : α → Prop} {n : Nat} (h : OpensAt enc P w spare held n d t wf) : OpensAt enc P w spare held n (Kd.iso d f) t (fun x => wf (f x)) := by
  intro cs x hx
  obtain ⟨a, hk, ha⟩ := h cs x hx
  exact ⟨g a, by show d.K w (f (g a)) cs; rw [hfg]; exact hk, by show wf (f (g a)); rw [hfg]; exact ha⟩
end
end Go.Proofs.Ytbbknoaceccgmaa.Open
