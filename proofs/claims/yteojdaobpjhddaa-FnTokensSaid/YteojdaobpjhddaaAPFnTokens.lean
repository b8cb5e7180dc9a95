/- What the functions that FnTokens runs come to, and that the law's own run comes to true. -/
import Derived.Test.YteojdaobpjhddaaAC
import Derived.KernelRfl
import Derived.Test.YteojdaobpjhddaaAMFnTokens0
import Derived.Test.YteojdaobpjhddaaAMFnTokens1
namespace Go.Proofs.Yteojdaobpjhddaa.Pure
open Go Go.AM Go.AMx Go.Proofs.Yteojdaobpjhddaa.XFnTokens
set_option linter.unusedVariables false
set_option linter.unusedSimpArgs false
/-! Draws: each comes to something, whatever the bytes. -/
def TotP {α : Type} (f : Nat → Option α) (P : α → Prop) : Prop := ∃ x, P x ∧ Ev fun k => f k = some x
theorem TotP.bind {α β : Type} {f : Nat → Option α} {g : Nat → α → Option β} {P : α → Prop} {Q : β → Prop} (h : TotP f P) (hg : ∀ x, P x → TotP (fun k => g k x) Q) : TotP (fun k => bindO (f k) (g k)) Q := by
  obtain ⟨x, px, ev⟩ := h
  obtain ⟨y, qy, ev2⟩ := hg x px
  exact ⟨y, qy, ev.two ev2 fun k a b => by show bindO (f k) (g k) = some y; rw [a, bindO_some]; exact b⟩
theorem TotP.val {α : Type} {P : α → Prop} (x : α) (h : P x) : TotP (fun _ => some x) P := ⟨x, h, Ev.of fun _ => rfl⟩
theorem TotP.ite {α : Type} {f g : Nat → Option α} {P : α → Prop} (b : Bool) (h1 : b = true → TotP f P) (h2 : b = false → TotP g P) : TotP (fun k => iteB b (f k) (g k)) P := by
  cases b with
  | true => obtain ⟨x, p, e⟩ := h1 rfl; exact ⟨x, p, e.mono fun k h => by show iteB true (f k) (g k) = some x; rw [iteB_true]; exact h⟩
  | false => obtain ⟨x, p, e⟩ := h2 rfl; exact ⟨x, p, e.mono fun k h => by show iteB false (f k) (g k) = some x; rw [iteB_false]; exact h⟩
theorem TotP.gate {α : Type} {f : Nat → Option α} {P : α → Prop} (h : TotP f P) : TotP (fun k => gate k (f k)) P := by
  obtain ⟨x, p, e⟩ := h
  exact ⟨x, p, e.two (Ev.gt 0) fun k a b => by show AM.gate k (f k) = some x; rw [gate_pos b]; exact a⟩
theorem TotP.of_eq {α : Type} {f g : Nat → Option α} {P : α → Prop} (e : ∀ k, g k = f k) (h : TotP f P) : TotP g P := by
  obtain ⟨x, p, ev⟩ := h
  exact ⟨x, p, ev.mono fun k a => by rw [e]; exact a⟩
theorem TotP.imp {α : Type} {f : Nat → Option α} {P Q : α → Prop} (h : TotP f P) (i : ∀ x, P x → Q x) : TotP f Q := by
  obtain ⟨x, p, ev⟩ := h
  exact ⟨x, i x p, ev⟩
theorem and255 (x : Int) : 0 ≤ IntKind.wrap .i64 ((BitVec.ofInt (IntKind.bits .i64) x &&& BitVec.ofInt (IntKind.bits .i64) 255).toNat : Int) ∧ IntKind.wrap .i64 ((BitVec.ofInt (IntKind.bits .i64) x &&& BitVec.ofInt (IntKind.bits .i64) 255).toNat : Int) ≤ 255 := by
  have h : (BitVec.ofInt (IntKind.bits .i64) x &&& BitVec.ofInt (IntKind.bits .i64) 255).toNat ≤ 255 := by
    rw [BitVec.toNat_and]
    exact Nat.le_trans Nat.and_le_right (by decide)
  rw [wrap_id (by omega) (by omega)]
  omega
abbrev TC : Type := (List Int) × Int × Int × Unit
/-- A cursor over such bytes. -/
def CurOk (code : List Int) (c : TC) : Prop := c.1 = code ∧ 0 ≤ c.2.1 ∧ c.2.1 ≤ (code.length : Int)
section
variable {code : List Int} (hc : code.length ≤ 1048576)
include hc
theorem byte_ok (c : TC) (h : CurOk code c) : TotP (fun k => spec_l1Byte k c) fun r => (0 ≤ r.1 ∧ r.1 ≤ 255) ∧ CurOk code r.2 := by
  obtain ⟨e, h0, h1⟩ := h
  refine TotP.of_eq (fun k => spec_l1Byte_e k c) ?_
  refine TotP.ite _ (fun a => ?_) fun a => ?_
  · have a := of_decide_eq_true a
    rw [e] at a
    refine TotP.ite _ (fun _ => ?_) fun b => absurd (of_decide_eq_false b) (by omega)
    refine TotP.ite _ (fun _ => ?_) fun b => absurd (of_decide_eq_false b) (by rw [e]; omega)
    refine TotP.val _ ⟨and255 _, e, ?_⟩
    show 0 ≤ IntKind.wrap .i64 (c.2.1 + 1) ∧ IntKind.wrap .i64 (c.2.1 + 1) ≤ (code.length : Int)
    rw [wrap_id (by omega) (by omega)]
    omega
  · exact TotP.val _ ⟨and255 _, e, h0, h1⟩
theorem below_ok (c : TC) (h : CurOk code c) (n : Int) (h0 : 0 < n) (h1 : n ≤ 256) : TotP (fun k => spec_l1Below k c n) fun r => (0 ≤ r.1 ∧ r.1 < n) ∧ CurOk code r.2 := by
  refine TotP.of_eq (fun k => spec_l1Below_e k c n) ?_
  refine TotP.ite _ (fun a => absurd (of_decide_eq_true a) (by omega)) fun _ => ?_
  refine TotP.ite _ (fun _ => ?_) fun a => absurd (of_decide_eq_false a) (by omega)
  refine TotP.bind (byte_ok hc c h) fun r hr => ?_
  refine TotP.ite _ (fun a => absurd (eq_of_beq a) (by omega)) fun _ => ?_
  exact TotP.val _ ⟨⟨Int.tmod_nonneg _ hr.1.1, Int.tmod_lt_of_pos _ h0⟩, hr.2⟩
theorem below_big (c : TC) (h : CurOk code c) (n : Int) (h0 : 0 < n) (h1 : n ≤ 1000000) : TotP (fun k => spec_l1Below k c n) fun r => (0 ≤ r.1 ∧ r.1 < n) ∧ CurOk code r.2 := by
  by_cases hn : n ≤ 256
  · exact below_ok hc c h n h0 hn
  refine TotP.of_eq (fun k => spec_l1Below_e k c n) ?_
  refine TotP.ite _ (fun a => absurd (of_decide_eq_true a) (by omega)) fun _ => ?_
  refine TotP.ite _ (fun a => absurd (of_decide_eq_true a) (by omega)) fun _ => ?_
  refine TotP.bind (byte_ok hc c h) fun r hr => ?_
  refine TotP.bind (byte_ok hc _ hr.2) fun s hs => ?_
  refine TotP.bind (byte_ok hc _ hs.2) fun t ht => ?_
  refine TotP.bind (byte_ok hc _ ht.2) fun u hu => ?_
  refine TotP.ite _ (fun a => absurd (eq_of_beq a) (by omega)) fun _ => ?_
  obtain ⟨⟨r0, r1⟩, _⟩ := hr
  obtain ⟨⟨s0, s1⟩, _⟩ := hs
  obtain ⟨⟨t0, t1⟩, _⟩ := ht
  obtain ⟨⟨u0, u1⟩, hu⟩ := hu
  refine TotP.val _ ⟨?_, hu⟩
  rw [wrap_id (x := r.1 * 16777216) (by omega) (by omega), wrap_id (x := s.1 * 65536) (by omega) (by omega), wrap_id (x := t.1 * 256) (by omega) (by omega), wrap_id (x := r.1 * 16777216 + s.1 * 65536) (by omega) (by omega), wrap_id (x := r.1 * 16777216 + s.1 * 65536 + t.1 * 256) (by omega) (by omega), wrap_id (x := r.1 * 16777216 + s.1 * 65536 + t.1 * 256 + u.1) (by omega) (by omega)]
  exact ⟨Int.tmod_nonneg _ (by omega), Int.tmod_lt_of_pos _ h0⟩
theorem new_ok : TotP (fun k => spec_l1New k code) (CurOk code) := by
  have run : ∀ (m : Nat) (x3 x4 : Int), 0 ≤ x4 → x4 + (m : Int) = (code.length : Int) → ∃ h : Int, ∀ k n : Nat, 0 < k → m < n → spec_l1New.l3 k n code x3 x4 = some (code, 0, h, ()) := by
    intro m
    induction m with
    | zero =>
      intro x3 x4 h0 h1
      refine ⟨x3, fun k n hk hn => ?_⟩
      obtain ⟨n, rfl⟩ : ∃ m, n = m + 1 := ⟨n - 1, by omega⟩
      rw [spec_l1New.l3_s, decide_eq_false (by omega), iteB_false]
    | succ m ih =>
      intro x3 x4 h0 h1
      by_cases h4 : x4 < 4000
      · have hw : IntKind.wrap .i64 (x4 + 1) = x4 + 1 := wrap_id (by omega) (by omega)
        obtain ⟨h, e⟩ := ih (IntKind.wrap .i64 ((BitVec.ofInt (IntKind.bits .i64) (IntKind.wrap .i64 ((IntKind.wrap .i64 ((IntKind.wrap .i64 (x3 * 131)) + (IntKind.wrap .i64 (List.getD code (Int.toNat x4) 0)))) + 7)) &&& BitVec.ofInt (IntKind.bits .i64) 1073741823).toNat : Int)) (x4 + 1) (by omega) (by omega)
        refine ⟨h, fun k n hk hn => ?_⟩
        obtain ⟨n, rfl⟩ : ∃ m, n = m + 1 := ⟨n - 1, by omega⟩
        rw [spec_l1New.l3_s, decide_eq_true (by omega), iteB_true, decide_eq_true h4, iteB_true, gate_pos hk, spec_l1New.j5_e, decide_eq_true h0, iteB_true, decide_eq_true (by omega), iteB_true, hw]
        exact e k n hk (by omega)
      · refine ⟨x3, fun k n hk hn => ?_⟩
        obtain ⟨n, rfl⟩ : ∃ m, n = m + 1 := ⟨n - 1, by omega⟩
        rw [spec_l1New.l3_s, decide_eq_true (by omega), iteB_true, decide_eq_false h4, iteB_false]
  obtain ⟨h, e⟩ := run code.length (IntKind.wrap .i64 (20589 + ((List.length code) : Int))) 0 (by omega) (by omega)
  refine ⟨(code, 0, h, ()), ⟨rfl, by simp, by simp⟩, (Ev.gt code.length).mono fun k hk => ?_⟩
  show spec_l1New k code = _
  rw [spec_l1New_e]
  exact e k k (by omega) hk
end

/-! Drawn texts. -/
def lstOk (B : Nat) (l : List ByteArray) : Bool := Nat.blt 0 l.length && Nat.ble l.length 256 && l.all fun s => Nat.ble s.size B
theorem lst_ok {B : Nat} {l : List ByteArray} (h : lstOk B l = true) : 0 < l.length ∧ l.length ≤ 256 ∧ ∀ s ∈ l, s.size ≤ B := by
  simp only [lstOk, Bool.and_eq_true, Nat.blt_eq, Nat.ble_eq] at h
  exact ⟨h.1.1, h.1.2, fun s hs => by have := List.all_eq_true.1 h.2 s hs; simpa using this⟩
section
variable {code : List Int} (hc : code.length ≤ 1048576)
include hc
theorem once_ok (c : TC) (h : CurOk code c) (n : Int) (h0 : 0 < n) (h1 : n ≤ 256) : TotP (fun k => spec_l1Once k c n) fun r => CurOk code r.2 :=
  TotP.of_eq (fun k => spec_l1Once_e k c n) (TotP.bind (below_ok hc c h n h0 h1) fun r hr => TotP.val _ hr.2)
theorem pickS_ok (c : TC) (h : CurOk code c) (l : List ByteArray) (h0 : 0 < l.length) (h1 : l.length ≤ 256) (B : Nat) (hB : ∀ s ∈ l, s.size ≤ B) : TotP (fun k => spec_l1Pick k c l) fun r => r.1.size ≤ B ∧ CurOk code r.2 := by
  refine TotP.of_eq (fun k => spec_l1Pick_e k c l) ?_
  refine TotP.bind (below_ok hc c h (l.length : Int) (by omega) (by omega)) fun r hr => ?_
  refine TotP.ite _ (fun _ => ?_) fun a => absurd (of_decide_eq_false a) (by omega)
  refine TotP.ite _ (fun _ => ?_) fun a => absurd (of_decide_eq_false a) (by omega)
  exact TotP.val _ ⟨hB _ (getD_mem l ByteArray.empty hr.1.1 hr.1.2), hr.2⟩
theorem pickB_ok (c : TC) (h : CurOk code c) (l : List ByteArray) (h0 : 0 < l.length) (h1 : l.length ≤ 256) (B : Nat) (hB : ∀ s ∈ l, s.size ≤ B) : TotP (fun k => spec_l1Pick_b k c l) fun r => r.1.size ≤ B ∧ CurOk code r.2.1 := by
  refine TotP.of_eq (fun k => spec_l1Pick_b_e k c l) ?_
  refine TotP.bind (below_ok hc c h (l.length : Int) (by omega) (by omega)) fun r hr => ?_
  refine TotP.ite _ (fun _ => ?_) fun a => absurd (of_decide_eq_false a) (by omega)
  refine TotP.ite _ (fun _ => ?_) fun a => absurd (of_decide_eq_false a) (by omega)
  exact TotP.val _ ⟨hB _ (getD_mem l ByteArray.empty hr.1.1 hr.1.2), hr.2⟩
theorem pickP_ok (c : TC) (h : CurOk code c) {l : List ByteArray} (B : Nat) (hl : lstOk B l = true) : TotP (fun k => spec_l1Pick_b k c l) fun r => r.1.size ≤ B ∧ CurOk code r.2.1 :=
  pickB_ok hc c h l (lst_ok hl).1 (lst_ok hl).2.1 B (lst_ok hl).2.2
theorem source_ok (c : TC) (h : CurOk code c) : TotP (fun k => spec_l5DrawSource k c) fun r => r.1.size ≤ 900 ∧ CurOk code r.2 := by
  refine TotP.of_eq (fun k => spec_l5DrawSource_e k c) ?_
  refine TotP.bind (P := fun l : List ByteArray => 0 < l.length ∧ l.length ≤ 256 ∧ ∀ s ∈ l, s.size ≤ 900) ?_ fun l hl => ?_
  · refine TotP.of_eq (fun k => spec_l5Programs_e k) (TotP.val _ (lst_ok (by kernel_rfl)))
  · exact TotP.bind (pickS_ok hc c h l hl.1 hl.2.1 900 hl.2.2) fun r hr => TotP.val _ hr
theorem dent_ok (c : TC) (h : CurOk code c) (s : ByteArray) (hs : s.size ≤ 900) : TotP (fun k => spec_l5Dent k c s) fun r => r.1.size ≤ 2000 ∧ CurOk code r.2 := by
  refine TotP.of_eq (fun k => spec_l5Dent_e k c s) ?_
  have hw : IntKind.wrap .i64 ((s.size : Int) + 1) = (s.size : Int) + 1 := wrap_id (by omega) (by omega)
  rw [hw]
  refine TotP.bind (below_big hc c h ((s.size : Int) + 1) (by omega) (by omega)) fun r hr => ?_
  obtain ⟨⟨r0, r1⟩, hr⟩ := hr
  have e1 : (ByteArray.extract s 0 (Int.toNat r.1)).size ≤ 900 := by rw [ByteArray.size_extract]; omega
  have e2 : (ByteArray.extract s (Int.toNat r.1) (ByteArray.size s)).size ≤ 900 := by rw [ByteArray.size_extract]; omega
  refine TotP.bind (below_ok hc _ hr 6 (by omega) (by omega)) fun u hu => ?_
  refine TotP.ite _ (fun _ => ?_) fun _ => ?_
  · refine TotP.ite _ (fun _ => ?_) fun a => absurd (of_decide_eq_false a) (by omega)
    refine TotP.ite _ (fun _ => ?_) fun a => absurd (of_decide_eq_false a) (by omega)
    exact TotP.val _ ⟨Nat.le_trans e1 (by omega), hu.2⟩
  · refine TotP.ite _ (fun _ => ?_) fun _ => TotP.val _ ⟨by show s.size ≤ 2000; omega, hu.2⟩
    refine TotP.ite _ (fun _ => ?_) fun a => absurd (of_decide_eq_false a) (by omega)
    refine TotP.ite _ (fun _ => ?_) fun a => absurd (of_decide_eq_false a) (by omega)
    refine TotP.bind (pickP_ok hc _ hu.2 10 (by kernel_rfl)) fun v hv => ?_
    obtain ⟨hv, hv2⟩ := hv
    refine TotP.ite _ (fun _ => ?_) fun a => absurd (of_decide_eq_false a) (by omega)
    refine TotP.ite _ (fun _ => ?_) fun a => absurd (of_decide_eq_false a) (by omega)
    refine TotP.ite _ (fun _ => ?_) fun a => absurd (of_decide_eq_false a) (by omega)
    refine TotP.ite _ (fun _ => ?_) fun a => absurd (of_decide_eq_false a) (by rw [ByteArray.size_append]; omega)
    exact TotP.val _ ⟨by rw [ByteArray.size_append, ByteArray.size_append]; omega, hv2⟩
theorem long_ok : ∀ (m : Nat) (s : ByteArray) (c : TC), CurOk code c → s.size + m = 6002 → ∃ x, Ev fun k => ∀ n, m < n → spec_DrawTokens.l4 k n s c = some x := by
  intro m
  induction m with
  | zero =>
    intro s c h hm
    obtain ⟨r, hr, ev⟩ := below_ok hc c h 2 (by omega) (by omega)
    replace ev : Ev fun k => spec_l1Below k c 2 = some r := ev
    refine ⟨s, ev.mono fun k hk n hn => ?_⟩
    obtain ⟨n, rfl⟩ : ∃ p, n = p + 1 := ⟨n - 1, by omega⟩
    rw [spec_DrawTokens.l4_s, hk, bindO_some, wrap_id (by omega) (by omega), decide_eq_false (by omega), iteB_false]
  | succ m ih =>
    intro s c h hm
    obtain ⟨r, hr, ev⟩ := below_ok hc c h 2 (by omega) (by omega)
    replace ev : Ev fun k => spec_l1Below k c 2 = some r := ev
    have hw : IntKind.wrap .i64 (6000 + r.1) = 6000 + r.1 := wrap_id (by omega) (by omega)
    have h32 : (⟨#[32]⟩ : ByteArray).size = 1 := rfl
    by_cases hl : (s.size : Int) < 6000 + r.1
    · obtain ⟨x, ev2⟩ := ih (s ++ (⟨#[32]⟩ : ByteArray)) r.2 hr.2 (by rw [ByteArray.size_append, h32]; omega)
      refine ⟨x, ev.two ev2 fun k hk hk2 n hn => ?_⟩
      obtain ⟨n, rfl⟩ : ∃ p, n = p + 1 := ⟨n - 1, by omega⟩
      rw [spec_DrawTokens.l4_s, hk, bindO_some, hw, decide_eq_true hl, iteB_true, decide_eq_true (show s.size + (⟨#[32]⟩ : ByteArray).size ≤ 9223372036854775807 by rw [h32]; omega), iteB_true]
      exact hk2 n (by omega)
    · refine ⟨s, ev.mono fun k hk n hn => ?_⟩
      obtain ⟨n, rfl⟩ : ∃ p, n = p + 1 := ⟨n - 1, by omega⟩
      rw [spec_DrawTokens.l4_s, hk, bindO_some, hw, decide_eq_false hl, iteB_false]
theorem drawTokens_ok : TotP (fun k => spec_DrawTokens k code) fun _ => True := by
  refine TotP.of_eq (fun k => spec_DrawTokens_e k code) ?_
  refine TotP.bind (new_ok hc) fun c h => ?_
  refine TotP.bind (source_ok hc c h) fun r hr => ?_
  refine TotP.bind (dent_ok hc _ hr.2 r.1 hr.1) fun s hs => ?_
  refine TotP.bind (once_ok hc _ hs.2 40 (by omega) (by omega)) fun u hu => ?_
  refine TotP.ite _ (fun _ => ?_) fun _ => TotP.val _ trivial
  have h2 := hs.1
  obtain ⟨x, ev⟩ := long_ok hc (6002 - s.1.size) s.1 u.2 hu (by omega)
  exact ⟨x, trivial, ev.two (Ev.gt (6002 - s.1.size)) fun k hk h => hk k h⟩
theorem drawKeyword_ok : TotP (fun k => spec_DrawKeyword k code) fun _ => True := by
  refine TotP.of_eq (fun k => spec_DrawKeyword_e k code) ?_
  refine TotP.bind (new_ok hc) fun c h => ?_
  exact TotP.bind (pickP_ok hc c h 100 (by kernel_rfl)) fun _ _ => TotP.val _ trivial
end

/-! Words. -/
def wok (x : Int) : Bool := decide (-2147483648 ≤ x ∧ x ≤ 2147483647)
theorem spec_in (k : Nat) (x lo hi : Int) : spec_l1In k x lo hi = some (decide (lo ≤ x ∧ x ≤ hi)) := by rw [spec_l1In_e, in_ge]
theorem impl_in (k : Nat) (x lo hi : Int) : impl_within k x lo hi = some (decide (lo ≤ x ∧ x ≤ hi)) := by rw [impl_within_e, in_ge]
theorem spec_wok (k : Nat) (x : Int) : spec_WordOk k x = some (wok x) := by rw [spec_WordOk_e, spec_in, bindO_some]; rfl
theorem impl_wok (k : Nat) (x : Int) : impl_WordOk k x = some (wok x) := by rw [impl_WordOk_e, impl_in, bindO_some]; rfl

/-! Numbers of digits alone: the program's and the reference's. -/
def isL (c : Int) : Bool := bif decide (c ≥ 97) then (bif !(decide (c ≤ 122)) then (bif decide (c ≥ 65) then decide (c ≤ 90) else false) else true) else (bif decide (c ≥ 65) then decide (c ≤ 90) else false)
def isD (c : Int) : Bool := decide (48 ≤ c ∧ c ≤ 57)
theorem spec_letter (k : Nat) (c : Int) : spec_l5Letter k c = some (isL c) := by rw [spec_l5Letter_e]; simp only [iteB_ss]; rfl
theorem impl_letter (k : Nat) (c : Int) : impl_isLetter k c = some (isL c) := by rw [impl_isLetter_e]; simp only [iteB_ss]; rfl
theorem spec_digit (k : Nat) (c : Int) : spec_l5Digit k c = some (isD c) := by rw [spec_l5Digit_e, in_ge]; rfl
theorem impl_digit (k : Nat) (c : Int) : impl_isDigit k c = some (isD c) := by rw [impl_isDigit_e, in_ge]; rfl
/-- A digit's text. -/
def ch (d : Int) : ByteArray := bytesVal [IntKind.wrap .u8 (IntKind.wrap .i64 (48 + d))]
theorem ch_size (d : Int) : (ch d).size = 1 := rfl
theorem ch_enc {d : Int} (h0 : 0 ≤ d) (h : d ≤ 9) : Utf8.encode (IntKind.wrap .i32 (IntKind.wrap .i64 (48 + d))) = ch d := by
  have : d = 0 ∨ d = 1 ∨ d = 2 ∨ d = 3 ∨ d = 4 ∨ d = 5 ∨ d = 6 ∨ d = 7 ∨ d = 8 ∨ d = 9 := by omega
  rcases this with rfl | rfl | rfl | rfl | rfl | rfl | rfl | rfl | rfl | rfl <;> rfl
def dg : Nat → Int → ByteArray
  | 0, _ => ByteArray.empty
  | m + 1, v => if v = 0 then ByteArray.empty else dg m (v / 10) ++ ch (v % 10)
theorem dg_size : ∀ (m : Nat) (v : Int), (dg m v).size ≤ m
  | 0, _ => Nat.le_refl _
  | m + 1, v => by
    unfold dg
    split
    · exact Nat.zero_le _
    · rw [ByteArray.size_append, ch_size]; have := dg_size m (v / 10); omega
theorem dg_zero : ∀ m : Nat, dg m 0 = ByteArray.empty
  | 0 => rfl
  | m + 1 => by unfold dg; rw [if_pos rfl]
theorem spec_dg (k : Nat) : ∀ (m n : Nat) (v : Int) (t : ByteArray), 0 ≤ v → v ≤ 99999999999 → v < 10 ^ m → m < n → t.size + m ≤ 1000 → spec_Digits.l5 k n v false t = some (dg m v ++ t)
  | 0, n, v, t, h0, hb0, h1, h2, h3 => by
    obtain ⟨n, rfl⟩ : ∃ p, n = p + 1 := ⟨n - 1, by omega⟩
    have hx : v = 0 := by simp at h1; omega
    subst hx
    rw [spec_Digits.l5_s]
    show iteB false _ (iteB false _ (some t)) = some (ByteArray.empty ++ t)
    rw [iteB_false, iteB_false, ByteArray.empty_append]
  | m + 1, n, v, t, h0, hb0, h1, h2, h3 => by
    obtain ⟨n, rfl⟩ : ∃ p, n = p + 1 := ⟨n - 1, by omega⟩
    by_cases hx : v = 0
    · subst hx
      rw [spec_Digits.l5_s, dg_zero]
      show iteB false _ (iteB false _ (some t)) = some (ByteArray.empty ++ t)
      rw [iteB_false, iteB_false, ByteArray.empty_append]
    · have hn : (v != 0) = true := by simp [hx]
      have hd : Int.tdiv v 10 = v / 10 := Int.tdiv_eq_ediv_of_nonneg h0
      have hm : Int.tmod v 10 = v % 10 := Int.tmod_eq_emod_of_nonneg h0
      have hw : IntKind.wrap .i64 (v / 10) = v / 10 := wrap_id (by omega) (by omega)
      rw [Int.pow_succ] at h1
      have hlt : v / 10 < 10 ^ m := by generalize (10 : Int) ^ m = P at h1; omega
      rw [spec_Digits.l5_s, hn, iteB_true, hm, hd, hw, decide_eq_false (by omega), iteB_false]
      show iteB (decide (ByteArray.size (ch (v % 10)) + ByteArray.size t ≤ 9223372036854775807)) (spec_Digits.l5 k n (v / 10) false (ch (v % 10) ++ t)) none = _
      rw [decide_eq_true (by rw [ch_size]; omega), iteB_true, spec_dg k m n (v / 10) _ (by omega) (by omega) hlt (by omega) (by rw [ByteArray.size_append, ch_size]; omega)]
      conv => rhs; unfold dg
      rw [if_neg hx, ByteArray.append_assoc]
/-- The text of a number that is not below 0. -/
def digV (v : Int) : ByteArray := if v = 0 then (⟨#[48]⟩ : ByteArray) else dg 11 v
theorem spec_dig (v : Int) (h0 : 0 ≤ v) (h : v ≤ 99999999999 - 1) : Ev fun k => spec_Digits k v = some (digV v) := by
  refine (Ev.gt 12).mono fun k hk => ?_
  rw [spec_Digits_e]
  unfold digV
  by_cases hx : v = 0
  · subst hx; rfl
  · have hn : (v == 0) = false := by simp [hx]
    rw [hn, iteB_false, decide_eq_false (by omega), if_neg hx]
    have := spec_dg k 11 k v (⟨#[]⟩ : ByteArray) h0 (by omega) (by omega) (by omega) (by show 0 + 11 ≤ 1000; omega)
    rw [this]
    exact congrArg some ByteArray.append_empty
theorem impl_dg : ∀ (m q : Nat) (v : Int), 0 < v → v ≤ 99999999999 → v < 10 ^ m → m ≤ 100 → impl_Digits (m + q) v = some (dg m v)
  | 0, q, v, h0, hb, h1, _ => by simp at h1; omega
  | m + 1, q, v, h0, hb, h1, hm1 => by
    have e : m + 1 + q = (m + q) + 1 := by omega
    have hd : Int.tdiv v 10 = v / 10 := Int.tdiv_eq_ediv_of_nonneg (by omega)
    have hm : Int.tmod v 10 = v % 10 := Int.tmod_eq_emod_of_nonneg (by omega)
    have hw : IntKind.wrap .i64 (v / 10) = v / 10 := wrap_id (by omega) (by omega)
    rw [Int.pow_succ] at h1
    have hlt : v / 10 < 10 ^ m := by generalize (10 : Int) ^ m = P at h1; omega
    rw [e, impl_Digits_e, decide_eq_false (show ¬ v < 0 by omega), iteB_false, iteB_false, hd, hm, hw, ch_enc (d := v % 10) (by omega) (by omega)]
    unfold dg
    rw [if_neg (show ¬ v = 0 by omega)]
    by_cases h10 : v < 10
    · rw [decide_eq_true h10, iteB_true, ch_enc (by omega) (by omega)]
      have z : v / 10 = 0 := by omega
      have r : v % 10 = v := by omega
      rw [z, r, dg_zero, ByteArray.empty_append]
    · rw [decide_eq_false h10, iteB_false, impl_dg m q (v / 10) (by omega) (by omega) hlt (by omega), bindO_some, decide_eq_true (by rw [ch_size]; have := dg_size m (v / 10); omega), iteB_true]
theorem impl_dig (v : Int) (h0 : 0 ≤ v) (h : v ≤ 99999999999 - 1) : Ev fun k => impl_Digits k v = some (digV v) := by
  refine (Ev.gt 12).mono fun k hk => ?_
  unfold digV
  by_cases hx : v = 0
  · subst hx
    obtain ⟨q, rfl⟩ : ∃ q, k = q + 1 := ⟨k - 1, by omega⟩
    rw [impl_Digits_e]; rfl
  · obtain ⟨q, rfl⟩ : ∃ q, k = 11 + q := ⟨k - 11, by omega⟩
    rw [if_neg hx]
    exact impl_dg 11 q v (by omega) (by omega) (by omega) (by omega)

/-! The value of a row of digits. -/
theorem list_of (s : ByteArray) : ByteArray.toList s = s.data.toList := ByteArray.toList_eq s
theorem not_nil {s : ByteArray} (h : 0 < s.size) : (!(ByteArray.toList s == ByteArray.toList (⟨#[]⟩ : ByteArray))) = true := by
  rw [list_of, list_of]
  have : s.data.toList ≠ [] := fun e => by
    have : s.data.toList.length = 0 := by rw [e]; rfl
    rw [Array.length_toList] at this
    exact absurd h (by show ¬ 0 < s.data.size; omega)
  have : (s.data.toList == (⟨#[]⟩ : ByteArray).data.toList) = false := beq_eq_false_iff_ne.2 this
  rw [this]; rfl
def dv (s : ByteArray) : Nat → Nat → Int → Int
  | 0, _, x => x
  | m + 1, i, x => dv s m (i + 1) (10 * x + byteAt s i - 48)
def Digs (s : ByteArray) : Prop := ∀ i, i < s.size → isD (byteAt s i) = true
theorem Digs.bd {s : ByteArray} (h : Digs s) {i : Nat} (hi : i < s.size) : 48 ≤ byteAt s i ∧ byteAt s i ≤ 57 := of_decide_eq_true (h i hi)
theorem pow_bd {i : Nat} (h : i ≤ 10) : (10 : Int) ^ i ≤ 10000000000 := by
  have : i = 0 ∨ i = 1 ∨ i = 2 ∨ i = 3 ∨ i = 4 ∨ i = 5 ∨ i = 6 ∨ i = 7 ∨ i = 8 ∨ i = 9 ∨ i = 10 := by omega
  rcases this with rfl | rfl | rfl | rfl | rfl | rfl | rfl | rfl | rfl | rfl | rfl <;> decide
theorem dv_bd {s : ByteArray} (h : Digs s) : ∀ (m i : Nat) (x : Int), i + m = s.size → 0 ≤ x → x < 10 ^ i → 0 ≤ dv s m i x ∧ dv s m i x < 10 ^ (i + m)
  | 0, i, x, _, h0, h1 => ⟨h0, h1⟩
  | m + 1, i, x, hi, h0, h1 => by
    have b := h.bd (i := i) (by omega)
    have e : i + (m + 1) = i + 1 + m := by omega
    rw [e]
    exact dv_bd h m (i + 1) _ (by omega) (by omega) (by rw [Int.pow_succ]; generalize (10 : Int) ^ i = P at h1 ⊢; omega)
theorem spec_l8 {s : ByteArray} (h : Digs s) (h10 : s.size ≤ 10) (k : Nat) : ∀ (m i n : Nat) (x : Int), i + m = s.size → m < n → 0 ≤ x → x < 10 ^ i → spec_Number.l8 k n s 0 x (i : Int) = gate k (spec_Number.j15 k s (dv s m i x))
  | 0, i, n, x, hi, hn, h0, h1 => by
    obtain ⟨n, rfl⟩ : ∃ p, n = p + 1 := ⟨n - 1, by omega⟩
    rw [spec_Number.l8_s, decide_eq_false (by omega), iteB_false]
    rfl
  | m + 1, i, n, x, hi, hn, h0, h1 => by
    obtain ⟨n, rfl⟩ : ∃ p, n = p + 1 := ⟨n - 1, by omega⟩
    have b := h.bd (i := i) (by omega)
    have pb := pow_bd (i := i) (by omega)
    have e1 : ((i : Int) + 1) = ((i + 1 : Nat) : Int) := by omega
    have hw : IntKind.wrap .i64 ((i : Int) + 1) = ((i + 1 : Nat) : Int) := by rw [wrap_id (by omega) (by omega)]; exact e1
    have hv : IntKind.wrap .i64 ((IntKind.wrap .i64 ((IntKind.wrap .i64 (10 * x)) + (IntKind.wrap .i64 (byteAt s i)))) - 48) = 10 * x + byteAt s i - 48 := by
      rw [wrap_id (x := 10 * x) (by omega) (by omega), wrap_id (x := byteAt s i) (by omega) (by omega), wrap_id (x := 10 * x + byteAt s i) (by omega) (by omega), wrap_id (by omega) (by omega)]
    rw [spec_Number.l8_s, decide_eq_true (show (i : Int) < (s.size : Int) by omega), decide_eq_true (show 0 ≤ (i : Int) by omega), Int.toNat_natCast, decide_eq_false (show ¬ byteAt s i < 48 by omega), decide_eq_false (show ¬ byteAt s i > 57 by omega), hw, hv]
    simp only [iteB_true, iteB_false, Bool.not_false]
    exact spec_l8 h h10 k m (i + 1) n _ (by omega) (by omega) (by omega) (by rw [Int.pow_succ]; generalize (10 : Int) ^ i = P at h1 ⊢; omega)
def endV (s : ByteArray) (v : Int) : Int × Bool × Unit := bif wok v then (bif !(ByteArray.toList (digV v) == ByteArray.toList s) then (0, false, ()) else (v, true, ())) else (0, false, ())
def numV (s : ByteArray) : Int × Bool × Unit := bif decide (s.size ≤ 10) then endV s (dv s s.size 0 0) else (0, false, ())
theorem spec_num {s : ByteArray} (h : Digs s) (h0 : 0 < s.size) (hb : s.size ≤ 6000) : Ev fun k => spec_Number k s = some (numV s) := by
  have hn := not_nil h0
  have b := h.bd h0
  have h45 : (byteAt s 0 == 45) = false := by simp only [beq_eq_false_iff_ne, ne_eq]; omega
  have hz : IntKind.wrap .i64 ((s.size : Int) - 0) = (s.size : Int) := by rw [Int.sub_zero]; exact wrap_id (by omega) (by omega)
  unfold numV
  by_cases h10 : s.size ≤ 10
  · have vb := dv_bd h s.size 0 0 (by omega) (by omega) (by decide)
    have pb := pow_bd (i := s.size) h10
    rw [Nat.zero_add] at vb
    rw [decide_eq_true h10, cond_true]
    refine ((spec_dig (dv s s.size 0 0) vb.1 (by omega)).and (Ev.gt 12)).mono fun k hk => ?_
    obtain ⟨hd, hk⟩ := hk
    have := spec_l8 h h10 k s.size 0 k 0 (by omega) (by omega) (by omega) (by decide)
    rw [spec_Number_e, hn, iteB_true, decide_eq_true (show 0 < (s.size : Int) by omega), iteB_true, h45, iteB_false, gate_pos (by omega), spec_Number.j4_e, hz, decide_eq_false (show ¬ (s.size : Int) < 1 by omega), Bool.not_false, iteB_true, decide_eq_false (show ¬ (s.size : Int) > 10 by omega), iteB_false, gate_pos (by omega), spec_Number.j6_e]
    refine Eq.trans this ?_
    rw [gate_pos (by omega), spec_Number.j15_e, spec_wok, bindO_some, hd, bindO_some, Bool.not_not, iteB_ss, iteB_ss]
    rfl
  · rw [decide_eq_false h10, cond_false]
    refine (Ev.gt 12).mono fun k hk => ?_
    rw [spec_Number_e, hn, iteB_true, decide_eq_true (show 0 < (s.size : Int) by omega), iteB_true, h45, iteB_false, gate_pos (by omega), spec_Number.j4_e, hz, decide_eq_false (show ¬ (s.size : Int) < 1 by omega), Bool.not_false, iteB_true, decide_eq_true (show (s.size : Int) > 10 by omega), iteB_true]
theorem impl_l7 {s : ByteArray} (h : Digs s) (h10 : s.size ≤ 10) (k : Nat) (d : ByteArray) (hd : impl_Digits k (dv s s.size 0 0) = some d) : ∀ (m i n : Nat) (x : Int), i + m = s.size → m < n → 0 ≤ x → x < 10 ^ i → dv s m i x = dv s s.size 0 0 →
    impl_Number.l7 k n s x s 1 (s.size : Int) (i : Int) = some (bif wok (dv s s.size 0 0) then (bif !(ByteArray.toList d == ByteArray.toList s) then (0, false, ()) else (dv s s.size 0 0, true, ())) else (0, false, ()))
  | 0, i, n, x, hi, hn, h0, h1, hv => by
    obtain ⟨n, rfl⟩ : ∃ p, n = p + 1 := ⟨n - 1, by omega⟩
    have pb := pow_bd (i := i) (by omega)
    have hx : x = dv s s.size 0 0 := hv
    have hw : IntKind.wrap .i64 (x * 1) = dv s s.size 0 0 := by rw [Int.mul_one, wrap_id (by omega) (by omega)]; exact hx
    rw [impl_Number.l7_s, decide_eq_false (by omega), iteB_false, hw, impl_wok, bindO_some, hd, bindO_some, Bool.not_not, iteB_ss, iteB_ss]
  | m + 1, i, n, x, hi, hn, h0, h1, hv => by
    obtain ⟨n, rfl⟩ : ∃ p, n = p + 1 := ⟨n - 1, by omega⟩
    have b := h.bd (i := i) (by omega)
    have pb := pow_bd (i := i) (by omega)
    have e1 : ((i : Int) + 1) = ((i + 1 : Nat) : Int) := by omega
    have hw : IntKind.wrap .i64 ((i : Int) + 1) = ((i + 1 : Nat) : Int) := by rw [wrap_id (by omega) (by omega)]; exact e1
    have hu : IntKind.wrap .u8 (byteAt s i - 48) = byteAt s i - 48 := by
      have : byteAt s i = 48 ∨ byteAt s i = 49 ∨ byteAt s i = 50 ∨ byteAt s i = 51 ∨ byteAt s i = 52 ∨ byteAt s i = 53 ∨ byteAt s i = 54 ∨ byteAt s i = 55 ∨ byteAt s i = 56 ∨ byteAt s i = 57 := by omega
      rcases this with e | e | e | e | e | e | e | e | e | e <;> rw [e] <;> rfl
    have hy : IntKind.wrap .i64 ((IntKind.wrap .i64 (10 * x)) + (IntKind.wrap .i64 (IntKind.wrap .u8 (byteAt s i - 48)))) = 10 * x + byteAt s i - 48 := by
      rw [hu, wrap_id (x := 10 * x) (by omega) (by omega), wrap_id (x := byteAt s i - 48) (by omega) (by omega), wrap_id (by omega) (by omega)]; omega
    rw [impl_Number.l7_s, decide_eq_true (show (i : Int) < (s.size : Int) by omega), decide_eq_true (show 0 ≤ (i : Int) by omega), Int.toNat_natCast, impl_digit, bindO_some, h i (by omega), hw, hy]
    simp only [iteB_true, iteB_false, Bool.not_true]
    exact impl_l7 h h10 k d hd m (i + 1) n _ (by omega) (by omega) (by omega) (by rw [Int.pow_succ]; generalize (10 : Int) ^ i = P at h1 ⊢; omega) hv
theorem impl_num {s : ByteArray} (h : Digs s) (h0 : 0 < s.size) (hb : s.size ≤ 6000) : Ev fun k => impl_Number k s = some (numV s) := by
  have hn := not_nil h0
  have b := h.bd h0
  have h45 : (byteAt s 0 == 45) = false := by simp only [beq_eq_false_iff_ne, ne_eq]; omega
  unfold numV
  by_cases h10 : s.size ≤ 10
  · have vb := dv_bd h s.size 0 0 (by omega) (by omega) (by decide)
    have pb := pow_bd (i := s.size) h10
    rw [Nat.zero_add] at vb
    rw [decide_eq_true h10, cond_true]
    refine ((impl_dig (dv s s.size 0 0) vb.1 (by omega)).and (Ev.gt 12)).mono fun k hk => ?_
    obtain ⟨hd, hk⟩ := hk
    have := impl_l7 h h10 k _ hd s.size 0 k 0 (by omega) (by omega) (by omega) (by decide) rfl
    rw [impl_Number_e, hn, iteB_true, decide_eq_true (show 0 < (s.size : Int) by omega), iteB_true, h45, iteB_false, gate_pos (by omega), impl_Number.j4_e, hn, iteB_true, decide_eq_false (show ¬ (s.size : Int) > 10 by omega), iteB_false, gate_pos (by omega), impl_Number.j6_e]
    exact this
  · rw [decide_eq_false h10, cond_false]
    refine (Ev.gt 12).mono fun k hk => ?_
    rw [impl_Number_e, hn, iteB_true, decide_eq_true (show 0 < (s.size : Int) by omega), iteB_true, h45, iteB_false, gate_pos (by omega), impl_Number.j4_e, hn, iteB_true, decide_eq_true (show (s.size : Int) > 10 by omega), iteB_true]

/-! Scanners of a text. -/
theorem byte_bd (s : ByteArray) (i : Nat) : 0 ≤ byteAt s i ∧ byteAt s i ≤ 255 := by
  unfold byteAt
  split
  · rename_i b _; have := b.toNat_lt; omega
  · omega
def runN (p : Int → Bool) (s : ByteArray) : Nat → Nat → Nat
  | 0, _ => 0
  | m + 1, i => bif p (byteAt s i) then runN p s m (i + 1) + 1 else 0
theorem runN_le (p : Int → Bool) (s : ByteArray) : ∀ m i : Nat, runN p s m i ≤ m
  | 0, _ => Nat.le_refl _
  | m + 1, i => by
    unfold runN
    have := runN_le p s m (i + 1)
    cases p (byteAt s i)
    · exact Nat.zero_le _
    · show runN p s m (i + 1) + 1 ≤ m + 1; omega
theorem runN_ok (p : Int → Bool) (s : ByteArray) : ∀ m i j : Nat, i ≤ j → j < i + runN p s m i → p (byteAt s j) = true
  | 0, i, j, h, h' => by simp only [runN] at h'; omega
  | m + 1, i, j, h, h' => by
    unfold runN at h'
    cases hb : p (byteAt s i) with
    | false => rw [hb] at h'; simp only [cond_false] at h'; omega
    | true =>
      rw [hb] at h'
      simp only [cond_true] at h'
      by_cases e : j = i
      · subst e; exact hb
      · exact runN_ok p s m (i + 1) j (by omega) (by omega)
theorem runN_pos (p : Int → Bool) (s : ByteArray) (m i : Nat) (hm : 0 < m) (h : p (byteAt s i) = true) : 0 < runN p s m i := by
  obtain ⟨m, rfl⟩ : ∃ q, m = q + 1 := ⟨m - 1, by omega⟩
  unfold runN
  rw [h]
  exact Nat.succ_pos _
theorem impl_runL (s : ByteArray) (hb : s.size ≤ 6000) (k : Nat) : ∀ (m i j n : Nat), i + j + m = s.size → m < n → impl_run__impl_isLetter.l2 k n s (i : Int) (j : Int) = some ((j + runN isL s m (i + j) : Nat) : Int)
  | 0, i, j, n, h, hn => by
    obtain ⟨n, rfl⟩ : ∃ p, n = p + 1 := ⟨n - 1, by omega⟩
    have hw : IntKind.wrap .i64 ((i : Int) + (j : Int)) = (i : Int) + (j : Int) := wrap_id (by omega) (by omega)
    rw [impl_run__impl_isLetter.l2_s, hw, decide_eq_false (by omega), iteB_false]
    rfl
  | m + 1, i, j, n, h, hn => by
    obtain ⟨n, rfl⟩ : ∃ p, n = p + 1 := ⟨n - 1, by omega⟩
    have hw : IntKind.wrap .i64 ((i : Int) + (j : Int)) = (i : Int) + (j : Int) := wrap_id (by omega) (by omega)
    have e1 : ((j : Int) + 1) = ((j + 1 : Nat) : Int) := by omega
    have hw1 : IntKind.wrap .i64 ((j : Int) + 1) = ((j + 1 : Nat) : Int) := by rw [wrap_id (by omega) (by omega)]; exact e1
    have et : Int.toNat ((i : Int) + (j : Int)) = i + j := by omega
    rw [impl_run__impl_isLetter.l2_s, hw, hw1, decide_eq_true (show (i : Int) + (j : Int) < (s.size : Int) by omega), iteB_true, decide_eq_true (show 0 ≤ (i : Int) + (j : Int) by omega), iteB_true, iteB_true, et, impl_letter, bindO_some]
    conv => rhs; unfold runN
    cases isL (byteAt s (i + j)) with
    | false => rw [iteB_false]; rfl
    | true =>
      rw [iteB_true, impl_runL s hb k m i (j + 1) n (by omega) (by omega)]
      have : i + (j + 1) = i + j + 1 := by omega
      rw [this, cond_true]
      congr 2; omega
theorem impl_runD (s : ByteArray) (hb : s.size ≤ 6000) (k : Nat) : ∀ (m i j n : Nat), i + j + m = s.size → m < n → impl_run__impl_isDigit.l2 k n s (i : Int) (j : Int) = some ((j + runN isD s m (i + j) : Nat) : Int)
  | 0, i, j, n, h, hn => by
    obtain ⟨n, rfl⟩ : ∃ p, n = p + 1 := ⟨n - 1, by omega⟩
    have hw : IntKind.wrap .i64 ((i : Int) + (j : Int)) = (i : Int) + (j : Int) := wrap_id (by omega) (by omega)
    rw [impl_run__impl_isDigit.l2_s, hw, decide_eq_false (by omega), iteB_false]
    rfl
  | m + 1, i, j, n, h, hn => by
    obtain ⟨n, rfl⟩ : ∃ p, n = p + 1 := ⟨n - 1, by omega⟩
    have hw : IntKind.wrap .i64 ((i : Int) + (j : Int)) = (i : Int) + (j : Int) := wrap_id (by omega) (by omega)
    have e1 : ((j : Int) + 1) = ((j + 1 : Nat) : Int) := by omega
    have hw1 : IntKind.wrap .i64 ((j : Int) + 1) = ((j + 1 : Nat) : Int) := by rw [wrap_id (by omega) (by omega)]; exact e1
    have et : Int.toNat ((i : Int) + (j : Int)) = i + j := by omega
    rw [impl_run__impl_isDigit.l2_s, hw, hw1, decide_eq_true (show (i : Int) + (j : Int) < (s.size : Int) by omega), iteB_true, decide_eq_true (show 0 ≤ (i : Int) + (j : Int) by omega), iteB_true, iteB_true, et, impl_digit, bindO_some]
    conv => rhs; unfold runN
    cases isD (byteAt s (i + j)) with
    | false => rw [iteB_false]; rfl
    | true =>
      rw [iteB_true, impl_runD s hb k m i (j + 1) n (by omega) (by omega)]
      have : i + (j + 1) = i + j + 1 := by omega
      rw [this, cond_true]
      congr 2; omega
theorem spec_l3 (s : ByteArray) (hb : s.size ≤ 6000) (k a : Nat) (y0 : Int) (y1 : ByteArray) (y2 y3 : Int) : ∀ (m i n : Nat), a ≤ i → i + m = s.size → m < n →
    spec_l5One.l3 k n s (a : Int) (i : Int) y0 y1 y2 y3 = some ((1, ByteArray.extract s a (i + runN isL s m i), 0, (a : Int), ()), ((i + runN isL s m i : Nat) : Int), decide (((i + runN isL s m i : Nat) : Int) - (a : Int) ≤ 10), ())
  | 0, i, n, ha, h, hn => by
    obtain ⟨n, rfl⟩ : ∃ p, n = p + 1 := ⟨n - 1, by omega⟩
    have hw : IntKind.wrap .i64 ((i : Int) - (a : Int)) = (i : Int) - (a : Int) := wrap_id (by omega) (by omega)
    rw [spec_l5One.l3_s, hw, decide_eq_false (show ¬ (i : Int) < (s.size : Int) by omega), iteB_false, decide_eq_true (show 0 ≤ (i : Int) by omega), iteB_true, decide_eq_true (show (i : Int) ≤ (s.size : Int) by omega), iteB_true, decide_eq_true (show 0 ≤ (a : Int) by omega), iteB_true, decide_eq_true (show (a : Int) ≤ (i : Int) by omega), iteB_true]
    rfl
  | m + 1, i, n, ha, h, hn => by
    obtain ⟨n, rfl⟩ : ∃ p, n = p + 1 := ⟨n - 1, by omega⟩
    have hw : IntKind.wrap .i64 ((i : Int) - (a : Int)) = (i : Int) - (a : Int) := wrap_id (by omega) (by omega)
    have e1 : ((i : Int) + 1) = ((i + 1 : Nat) : Int) := by omega
    have hw1 : IntKind.wrap .i64 ((i : Int) + 1) = ((i + 1 : Nat) : Int) := by rw [wrap_id (by omega) (by omega)]; exact e1
    rw [spec_l5One.l3_s, hw, hw1, decide_eq_true (show (i : Int) < (s.size : Int) by omega), iteB_true, decide_eq_true (show 0 ≤ (i : Int) by omega), iteB_true, iteB_true, Int.toNat_natCast, spec_letter, bindO_some]
    unfold runN
    cases isL (byteAt s i) with
    | false =>
      rw [iteB_false, iteB_true, decide_eq_true (show (i : Int) ≤ (s.size : Int) by omega), iteB_true, decide_eq_true (show 0 ≤ (a : Int) by omega), iteB_true, decide_eq_true (show (a : Int) ≤ (i : Int) by omega), iteB_true]
      rfl
    | true =>
      rw [iteB_true, spec_l3 s hb k a y0 y1 y2 y3 m (i + 1) n (by omega) (by omega) (by omega), cond_true]
      have : i + 1 + runN isL s m (i + 1) = i + (runN isL s m (i + 1) + 1) := by omega
      rw [this]
theorem spec_l7 (s : ByteArray) (hb : s.size ≤ 6000) (k a : Nat) (y0 : Int) (y1 : ByteArray) (y2 y3 : Int) (N : Int × Bool × Unit) : ∀ (m i n : Nat), a ≤ i → i + m = s.size → m < n →
    spec_Number k (ByteArray.extract s a (i + runN isD s m i)) = some N →
    spec_l5One.l7 k n s (a : Int) (i : Int) y0 y1 y2 y3 = some ((2, ByteArray.empty, N.1, (a : Int), ()), ((i + runN isD s m i : Nat) : Int), N.2.1, ())
  | 0, i, n, ha, h, hn, hN => by
    obtain ⟨n, rfl⟩ : ∃ p, n = p + 1 := ⟨n - 1, by omega⟩
    rw [spec_l5One.l7_s, decide_eq_false (show ¬ (i : Int) < (s.size : Int) by omega), iteB_false, decide_eq_true (show 0 ≤ (i : Int) by omega), iteB_true, decide_eq_true (show (i : Int) ≤ (s.size : Int) by omega), iteB_true, decide_eq_true (show 0 ≤ (a : Int) by omega), iteB_true, decide_eq_true (show (a : Int) ≤ (i : Int) by omega), iteB_true]
    replace hN : spec_Number k (ByteArray.extract s a i) = some N := hN
    rw [Int.toNat_natCast, Int.toNat_natCast, hN, bindO_some]
    rfl
  | m + 1, i, n, ha, h, hn, hN => by
    obtain ⟨n, rfl⟩ : ∃ p, n = p + 1 := ⟨n - 1, by omega⟩
    have e1 : ((i : Int) + 1) = ((i + 1 : Nat) : Int) := by omega
    have hw1 : IntKind.wrap .i64 ((i : Int) + 1) = ((i + 1 : Nat) : Int) := by rw [wrap_id (by omega) (by omega)]; exact e1
    rw [spec_l5One.l7_s, hw1, decide_eq_true (show (i : Int) < (s.size : Int) by omega), iteB_true, decide_eq_true (show 0 ≤ (i : Int) by omega), iteB_true, iteB_true, Int.toNat_natCast, spec_digit, bindO_some]
    unfold runN at hN ⊢
    cases hd : isD (byteAt s i) with
    | false =>
      rw [hd] at hN
      replace hN : spec_Number k (ByteArray.extract s a i) = some N := hN
      rw [iteB_false, iteB_true, decide_eq_true (show (i : Int) ≤ (s.size : Int) by omega), iteB_true, decide_eq_true (show 0 ≤ (a : Int) by omega), iteB_true, decide_eq_true (show (a : Int) ≤ (i : Int) by omega), iteB_true, Int.toNat_natCast, hN, bindO_some]
      rfl
    | true =>
      rw [hd, cond_true] at hN
      have : i + 1 + runN isD s m (i + 1) = i + (runN isD s m (i + 1) + 1) := by omega
      rw [iteB_true, spec_l7 s hb k a y0 y1 y2 y3 N m (i + 1) n (by omega) (by omega) (by omega) (by rw [this]; exact hN), cond_true, this]

/-! Signs of a text. -/
theorem ext_byte (s : ByteArray) (a b i : Nat) (hb : b ≤ s.size) (hi : a + i < b) : byteAt (ByteArray.extract s a b) i = byteAt s (a + i) := by
  have h1 : i < (ByteArray.extract s a b).size := by rw [ByteArray.size_extract]; omega
  have h2 : a + i < s.size := by omega
  unfold byteAt
  rw [getElem?_pos _ i h1, getElem?_pos s (a + i) h2, ByteArray.getElem_extract]
theorem list_two (s : ByteArray) (h : s.size = 2) : (ByteArray.toList s == ByteArray.toList (⟨#[61, 61]⟩ : ByteArray)) = (byteAt s 0 == 61 && byteAt s 1 == 61) := by
  obtain ⟨⟨l⟩⟩ := s
  match l, h with
  | [x, y], _ =>
    have e : ByteArray.toList (⟨⟨[x, y]⟩⟩ : ByteArray) = [x, y] := ByteArray.toList_eq _
    have e' : ByteArray.toList (⟨#[61, 61]⟩ : ByteArray) = [61, 61] := ByteArray.toList_eq _
    have b0 : byteAt (⟨⟨[x, y]⟩⟩ : ByteArray) 0 = (x.toNat : Int) := rfl
    have b1 : byteAt (⟨⟨[x, y]⟩⟩ : ByteArray) 1 = (y.toNat : Int) := rfl
    rw [e, e', b0, b1]
    have t (z : UInt8) : z = 61 ↔ (z.toNat : Int) = 61 := by
      constructor
      · intro h; subst h; rfl
      · intro h; exact UInt8.toNat_inj.1 (by show z.toNat = 61; omega)
    rw [Bool.eq_iff_iff]
    simp only [beq_iff_eq, List.cons.injEq, and_true, t, Bool.and_eq_true]
abbrev sg : ByteArray := (⟨#[40, 41, 123, 125, 44, 59, 61, 43, 45, 42, 60]⟩ : ByteArray)
def isS (b : Int) : Bool := (List.range' 0 11).any fun j => byteAt sg j == b
theorem idx_all : ((List.range 256).all fun n => decide (decide (Lib.indexByte sg.data.toList (Int.toNat (n : Int)).toUInt8 ≥ 0) = isS (n : Int))) = true := by kernel_rfl
theorem idx_ok (b : Int) (h : 0 ≤ b ∧ b ≤ 255) : decide (Lib.indexByte sg.data.toList b.toNat.toUInt8 ≥ 0) = isS b := by
  have := of_decide_eq_true (List.all_eq_true.1 idx_all b.toNat (List.mem_range.2 (by omega)))
  have e : ((b.toNat : Nat) : Int) = b := by omega
  rw [e] at this
  exact this
theorem spec_sgl (s : ByteArray) (hb : s.size ≤ 6000) (k a : Nat) (ha : a < s.size) : ∀ (m i n : Nat), i + m = 11 → m < n → spec_l5Sign.l5 k n s (a : Int) sg (i : Int) = some (bif (List.range' i m).any (fun j => byteAt sg j == byteAt s a) then ByteArray.extract s a (a + 1) else (⟨#[]⟩ : ByteArray))
  | 0, i, n, h, hn => by
    obtain ⟨n, rfl⟩ : ∃ p, n = p + 1 := ⟨n - 1, by omega⟩
    have hs : ((ByteArray.size sg : Nat) : Int) = 11 := rfl
    rw [spec_l5Sign.l5_s, hs, decide_eq_false (show ¬ (i : Int) < 11 by omega), iteB_false]
    rfl
  | m + 1, i, n, h, hn => by
    obtain ⟨n, rfl⟩ : ∃ p, n = p + 1 := ⟨n - 1, by omega⟩
    have hs : ((ByteArray.size sg : Nat) : Int) = 11 := rfl
    have e1 : ((i : Int) + 1) = ((i + 1 : Nat) : Int) := by omega
    have hw1 : IntKind.wrap .i64 ((i : Int) + 1) = ((i + 1 : Nat) : Int) := by rw [wrap_id (by omega) (by omega)]; exact e1
    have hwa : IntKind.wrap .i64 ((a : Int) + 1) = (a : Int) + 1 := wrap_id (by omega) (by omega)
    have et : Int.toNat ((a : Int) + 1) = a + 1 := by omega
    rw [spec_l5Sign.l5_s, hs, hw1, hwa, decide_eq_true (show (i : Int) < 11 by omega), iteB_true, decide_eq_true (show 0 ≤ (i : Int) by omega), iteB_true, iteB_true, decide_eq_true (show 0 ≤ (a : Int) by omega), iteB_true, decide_eq_true (show (a : Int) < (s.size : Int) by omega), iteB_true, Int.toNat_natCast, Int.toNat_natCast, decide_eq_true (show 0 ≤ (a : Int) + 1 by omega), iteB_true, decide_eq_true (show (a : Int) + 1 ≤ (s.size : Int) by omega), iteB_true, iteB_true, decide_eq_true (show (a : Int) ≤ (a : Int) + 1 by omega), iteB_true, et, spec_sgl s hb k a ha m (i + 1) n (by omega) (by omega)]
    rw [List.range'_succ, List.any_cons]
    cases byteAt sg i == byteAt s a <;> simp [iteB]
def eqq (s : ByteArray) (a : Nat) : Bool := decide (a + 2 ≤ s.size) && (byteAt s a == 61 && byteAt s (a + 1) == 61)
def signV (s : ByteArray) (a : Nat) : ByteArray := bif eqq s a then (⟨#[61, 61]⟩ : ByteArray) else bif isS (byteAt s a) then ByteArray.extract s a (a + 1) else (⟨#[]⟩ : ByteArray)
theorem spec_sign (s : ByteArray) (hb : s.size ≤ 6000) (a : Nat) (ha : a < s.size) (k : Nat) (hk : 12 < k) : spec_l5Sign k s (a : Int) = some (signV s a) := by
  have hj : spec_l5Sign.j3 k s (a : Int) = some (bif isS (byteAt s a) then ByteArray.extract s a (a + 1) else (⟨#[]⟩ : ByteArray)) := by
    rw [spec_l5Sign.j3_e]
    exact spec_sgl s hb k a ha 11 0 k (by omega) (by omega)
  have hwa : IntKind.wrap .i64 ((a : Int) + 1) = (a : Int) + 1 := wrap_id (by omega) (by omega)
  have et : Int.toNat ((a : Int) + 1) = a + 1 := by omega
  rw [spec_l5Sign_e, hwa, et, Int.toNat_natCast, decide_eq_true (show 0 ≤ (a : Int) by omega), iteB_true, decide_eq_true (show (a : Int) < (s.size : Int) by omega), iteB_true, gate_pos (by omega), hj, decide_eq_true (show 0 ≤ (a : Int) + 1 by omega)]
  unfold signV eqq
  by_cases h2 : a + 2 ≤ s.size
  · rw [decide_eq_true (show (a : Int) + 1 < (s.size : Int) by omega), decide_eq_true h2]
    cases byteAt s a == 61 <;> cases byteAt s (a + 1) == 61 <;> simp [iteB]
  · rw [decide_eq_false (show ¬ (a : Int) + 1 < (s.size : Int) by omega), decide_eq_false h2]
    cases byteAt s a == 61 <;> simp [iteB]
theorem impl_pre (s : ByteArray) (a : Nat) (ha : a < s.size) (k : Nat) : strings_HasPrefix k (ByteArray.extract s a s.size) (⟨#[61, 61]⟩ : ByteArray) = some (eqq s a) := by
  have hs : ((ByteArray.size (⟨#[61, 61]⟩ : ByteArray) : Nat) : Int) = 2 := rfl
  have hx : (ByteArray.extract s a s.size).size = s.size - a := by rw [ByteArray.size_extract]; omega
  rw [strings_HasPrefix_e, internal_stringslite_HasPrefix_e, hs, hx]
  unfold eqq
  by_cases h2 : a + 2 ≤ s.size
  · have hy : (ByteArray.extract (ByteArray.extract s a s.size) 0 2).size = 2 := by rw [ByteArray.size_extract, hx]; omega
    have b0 : byteAt (ByteArray.extract (ByteArray.extract s a s.size) 0 2) 0 = byteAt s a := by rw [ext_byte _ 0 2 0 (by omega) (by omega), ext_byte s a s.size (0 + 0) (by omega) (by omega)]; rfl
    have b1 : byteAt (ByteArray.extract (ByteArray.extract s a s.size) 0 2) 1 = byteAt s (a + 1) := by rw [ext_byte _ 0 2 1 (by omega) (by omega), ext_byte s a s.size (0 + 1) (by omega) (by omega)]
    have et : Int.toNat (2 : Int) = 2 := rfl
    rw [decide_eq_true (show ((s.size - a : Nat) : Int) ≥ 2 by omega), decide_eq_true h2, iteB_true, decide_eq_true (show (0 : Int) ≤ 2 by omega), iteB_true, iteB_true, et, list_two _ hy, b0, b1, bindO_some, Bool.true_and]
  · rw [decide_eq_false (show ¬ ((s.size - a : Nat) : Int) ≥ 2 by omega), decide_eq_false h2, iteB_false, bindO_some, Bool.false_and]

/-! The token at a place: the program's and the reference's. -/
abbrev TK : Type := Int × ByteArray × Int × Int × Unit
def StepP (s : ByteArray) (a : Nat) (o : Option (TK × Nat)) : Prop :=
  (∀ t e, o = some (t, e) → a < e ∧ e ≤ s.size ∧ t.2.1.size ≤ s.size) ∧
  (Ev fun k => ∃ r, spec_l5One k s (a : Int) = some r ∧ (o = none → r.2.2.1 = false) ∧ ∀ t e, o = some (t, e) → r = (t, (e : Int), true, ())) ∧
  (Ev fun k => ∃ r, impl_token k s (a : Int) = some r ∧ (o = none → r.1 = 0) ∧ ∀ t e, o = some (t, e) → r.1 ≠ 0 ∧ (a : Int) + (r.2.1.size : Int) = (e : Int) ∧ (r.1 = 2 → t = (r.1, (⟨#[]⟩ : ByteArray), r.2.2.1, r.2.2.2.1, ())) ∧ (r.1 ≠ 2 → t = r))
/-- What is told of a token at a place: where it begins, and its text. -/
def TokAt (s : ByteArray) (a : Nat) (t : TK) : Prop := t.2.2.2.1 = (a : Int) ∧ t.1 ≠ 0 ∧ (t.1 ≠ 2 → a + t.2.1.size ≤ s.size ∧ ByteArray.toList (ByteArray.extract s a (a + t.2.1.size)) = ByteArray.toList t.2.1)
def StepQ (s : ByteArray) (a : Nat) (o : Option (TK × Nat)) : Prop := StepP s a o ∧ ∀ t e, o = some (t, e) → TokAt s a t
theorem step_letter (s : ByteArray) (hb : s.size ≤ 6000) (a : Nat) (ha : a < s.size) (hL : isL (byteAt s a) = true) : ∃ o, StepQ s a o := by
  have hr := runN_le isL s (s.size - a) a
  have hp := runN_pos isL s (s.size - a) a (by omega) hL
  have hR (k : Nat) (hk : s.size < k) : impl_run__impl_isLetter k s (a : Int) = some ((runN isL s (s.size - a) a : Nat) : Int) := by
    have := impl_runL s hb k (s.size - a) a 0 k (by omega) (by omega)
    rw [Nat.add_zero, Nat.zero_add] at this
    rw [impl_run__impl_isLetter_e]
    exact this
  have hS (k : Nat) (hk : s.size < k) := spec_l3 s hb k a 0 ByteArray.empty 0 0 (s.size - a) a k (by omega) (by omega) (by omega)
  generalize runN isL s (s.size - a) a = r at hr hp hR hS
  have hx : (ByteArray.extract s a (a + r)).size = r := by rw [ByteArray.size_extract]; omega
  have hw : IntKind.wrap .i64 ((a : Int) + (r : Int)) = (a : Int) + (r : Int) := wrap_id (by omega) (by omega)
  have et : Int.toNat ((a : Int) + (r : Int)) = a + r := by omega
  refine ⟨if r ≤ 10 then some ((1, ByteArray.extract s a (a + r), 0, (a : Int), ()), a + r) else none, ⟨?_, (Ev.gt s.size).mono fun k hk => ?_, (Ev.gt s.size).mono fun k hk => ?_⟩, fun t e h => ?_⟩
  · intro t e h
    split at h
    · cases h; exact ⟨by omega, by omega, by show (ByteArray.extract s a (a + r)).size ≤ s.size; rw [hx]; omega⟩
    · cases h
  · refine ⟨_, by
      rw [spec_l5One_e, decide_eq_true (show 0 ≤ (a : Int) by omega), iteB_true, decide_eq_true (show (a : Int) < (s.size : Int) by omega), iteB_true, Int.toNat_natCast, spec_letter, bindO_some, hL, iteB_true]
      exact hS k hk, fun h => ?_, fun t e h => ?_⟩
    · split at h
      · cases h
      · exact decide_eq_false (by omega)
    · split at h
      · cases h
        rw [decide_eq_true (show ((a + r : Nat) : Int) - (a : Int) ≤ 10 by omega)]
      · cases h
  · have hi : impl_token k s (a : Int) = some (bif decide (((ByteArray.extract s a (a + r)).size : Int) > 10) then (0, ByteArray.empty, 0, 0, ()) else (1, ByteArray.extract s a (a + r), 0, (a : Int), ())) := by
      rw [impl_token_e, decide_eq_true (show 0 ≤ (a : Int) by omega), iteB_true, decide_eq_true (show (a : Int) < (s.size : Int) by omega), iteB_true, Int.toNat_natCast, impl_letter, bindO_some, hL, iteB_true, hR k hk, bindO_some, hw, et, decide_eq_true (show 0 ≤ (a : Int) + (r : Int) by omega), iteB_true, decide_eq_true (show (a : Int) + (r : Int) ≤ (s.size : Int) by omega), iteB_true, iteB_true, decide_eq_true (show (a : Int) ≤ (a : Int) + (r : Int) by omega), iteB_true, iteB_ss]
    refine ⟨_, hi, fun h => ?_, fun t e h => ?_⟩
    · split at h
      · cases h
      · rw [hx, decide_eq_true (show (r : Int) > 10 by omega)]; rfl
    · split at h
      · cases h
        rw [hx, decide_eq_false (show ¬ (r : Int) > 10 by omega)]
        exact ⟨by show (1 : Int) ≠ 0; decide, by show (a : Int) + ((ByteArray.extract s a (a + r)).size : Int) = _; rw [hx]; omega, fun h => absurd h (by show ¬ (1 : Int) = 2; decide), fun _ => rfl⟩
      · cases h
  · split at h
    · cases h
      refine ⟨rfl, by show ¬ (1 : Int) = 0; decide, fun _ => ?_⟩
      show a + (ByteArray.extract s a (a + r)).size ≤ s.size ∧ ByteArray.toList (ByteArray.extract s a (a + (ByteArray.extract s a (a + r)).size)) = ByteArray.toList (ByteArray.extract s a (a + r))
      rw [hx]; exact ⟨by omega, rfl⟩
    · cases h
theorem step_digit (s : ByteArray) (hb : s.size ≤ 6000) (a : Nat) (ha : a < s.size) (hL : isL (byteAt s a) = false) (hD : isD (byteAt s a) = true) : ∃ o, StepQ s a o := by
  have hr := runN_le isD s (s.size - a) a
  have hp := runN_pos isD s (s.size - a) a (by omega) hD
  have hok := runN_ok isD s (s.size - a) a
  have hR (k : Nat) (hk : s.size < k) : impl_run__impl_isDigit k s (a : Int) = some ((runN isD s (s.size - a) a : Nat) : Int) := by
    have := impl_runD s hb k (s.size - a) a 0 k (by omega) (by omega)
    rw [Nat.add_zero, Nat.zero_add] at this
    rw [impl_run__impl_isDigit_e]
    exact this
  have hS (k : Nat) (hk : s.size < k) (N : Int × Bool × Unit) := spec_l7 s hb k a 0 ByteArray.empty 0 0 N (s.size - a) a k (by omega) (by omega) (by omega)
  generalize runN isD s (s.size - a) a = r at hr hp hR hS hok
  have hx : (ByteArray.extract s a (a + r)).size = r := by rw [ByteArray.size_extract]; omega
  have hdig : Digs (ByteArray.extract s a (a + r)) := fun i hi => by
    rw [hx] at hi
    rw [ext_byte s a (a + r) i (by omega) (by omega)]
    exact hok (a + i) (by omega) (by omega)
  have hw : IntKind.wrap .i64 ((a : Int) + (r : Int)) = (a : Int) + (r : Int) := wrap_id (by omega) (by omega)
  have et : Int.toNat ((a : Int) + (r : Int)) = a + r := by omega
  have n1 := spec_num hdig (by omega) (by omega)
  have n2 := impl_num hdig (by omega) (by omega)
  generalize hN : numV (ByteArray.extract s a (a + r)) = N at n1 n2
  refine ⟨if N.2.1 = true then some ((2, ByteArray.empty, N.1, (a : Int), ()), a + r) else none, ⟨?_, (n1.and (Ev.gt s.size)).mono fun k hk => ?_, (n2.and (Ev.gt s.size)).mono fun k hk => ?_⟩, fun t e h => ?_⟩
  · intro t e h
    split at h
    · cases h; exact ⟨by omega, by omega, Nat.zero_le _⟩
    · cases h
  · obtain ⟨hn, hk⟩ := hk
    refine ⟨_, by
      rw [spec_l5One_e, decide_eq_true (show 0 ≤ (a : Int) by omega), iteB_true, decide_eq_true (show (a : Int) < (s.size : Int) by omega), iteB_true, Int.toNat_natCast, spec_letter, bindO_some, hL, iteB_false, iteB_true, iteB_true, spec_digit, bindO_some, hD, iteB_true]
      exact hS k hk N hn, fun h => ?_, fun t e h => ?_⟩
    · split at h
      · cases h
      · rename_i hf; simpa using hf
    · split at h
      · rename_i hf
        cases h
        rw [hf]
      · cases h
  · obtain ⟨hn, hk⟩ := hk
    have hi : impl_token k s (a : Int) = some (bif !N.2.1 then (0, ByteArray.empty, 0, 0, ()) else (2, ByteArray.extract s a (a + r), N.1, (a : Int), ())) := by
      rw [impl_token_e, decide_eq_true (show 0 ≤ (a : Int) by omega), iteB_true, decide_eq_true (show (a : Int) < (s.size : Int) by omega), iteB_true, Int.toNat_natCast, impl_letter, bindO_some, hL, iteB_false, impl_digit, bindO_some, hD, iteB_true, hR k hk, bindO_some, hw, et, decide_eq_true (show 0 ≤ (a : Int) + (r : Int) by omega), iteB_true, decide_eq_true (show (a : Int) + (r : Int) ≤ (s.size : Int) by omega), iteB_true, iteB_true, decide_eq_true (show (a : Int) ≤ (a : Int) + (r : Int) by omega), iteB_true, hn, bindO_some, iteB_ss]
    refine ⟨_, hi, fun h => ?_, fun t e h => ?_⟩
    · split at h
      · cases h
      · rename_i hf
        have : N.2.1 = false := by simpa using hf
        rw [this]; rfl
    · split at h
      · rename_i hf
        cases h
        rw [hf]
        exact ⟨by show (2 : Int) ≠ 0; decide, by show (a : Int) + ((ByteArray.extract s a (a + r)).size : Int) = _; rw [hx]; omega, fun _ => rfl, fun h => absurd rfl h⟩
      · cases h
  · split at h
    · cases h
      exact ⟨rfl, by show ¬ (2 : Int) = 0; decide, fun h => absurd rfl h⟩
    · cases h

theorem step_sign (s : ByteArray) (hb : s.size ≤ 6000) (a : Nat) (ha : a < s.size) (hL : isL (byteAt s a) = false) (hD : isD (byteAt s a) = false) : ∃ o, StepQ s a o := by
  have hz : (!(ByteArray.toList (⟨#[]⟩ : ByteArray) == ByteArray.toList (⟨#[]⟩ : ByteArray))) = false := by simp
  have hx : (ByteArray.extract s a (a + 1)).size = 1 := by rw [ByteArray.size_extract]; omega
  have hs2 : (⟨#[61, 61]⟩ : ByteArray).size = 2 := rfl
  have hw1 : IntKind.wrap .i64 ((a : Int) + 1) = (a : Int) + 1 := wrap_id (by omega) (by omega)
  have et : Int.toNat ((a : Int) + 1) = a + 1 := by omega
  have hS (k : Nat) (hk : 12 < k) : spec_l5One k s (a : Int) = some ((3, signV s a, 0, (a : Int), ()), IntKind.wrap .i64 ((a : Int) + ((signV s a).size : Int)), !(ByteArray.toList (signV s a) == ByteArray.toList (⟨#[]⟩ : ByteArray)), ()) := by
    rw [spec_l5One_e, decide_eq_true (show 0 ≤ (a : Int) by omega), iteB_true, decide_eq_true (show (a : Int) < (s.size : Int) by omega), iteB_true, Int.toNat_natCast, spec_letter, bindO_some, hL, iteB_false, iteB_true, iteB_true, spec_digit, bindO_some, hD, iteB_false, spec_sign s hb a ha k hk, bindO_some]
  have hI (k : Nat) : impl_token k s (a : Int) = some (bif eqq s a then (3, (⟨#[61, 61]⟩ : ByteArray), 0, (a : Int), ()) else bif isS (byteAt s a) then (3, ByteArray.extract s a (a + 1), 0, (a : Int), ()) else (0, ByteArray.empty, 0, 0, ())) := by
    have hi : strings_IndexByte k sg (byteAt s a) = some (Lib.indexByte sg.data.toList (byteAt s a).toNat.toUInt8) := rfl
    rw [impl_token_e, decide_eq_true (show 0 ≤ (a : Int) by omega), iteB_true, decide_eq_true (show (a : Int) < (s.size : Int) by omega), iteB_true, Int.toNat_natCast, impl_letter, bindO_some, hL, iteB_false, impl_digit, bindO_some, hD, iteB_false, iteB_true, decide_eq_true (show (a : Int) ≤ (s.size : Int) by omega), iteB_true, impl_pre s a ha k, bindO_some, hi, bindO_some, idx_ok _ (byte_bd s a), hw1, et, decide_eq_true (show 0 ≤ (a : Int) + 1 by omega), iteB_true, decide_eq_true (show (a : Int) + 1 ≤ (s.size : Int) by omega), iteB_true, iteB_true, decide_eq_true (show (a : Int) ≤ (a : Int) + 1 by omega), iteB_true, iteB_ss, iteB_ss]
  unfold signV at hS
  cases he : eqq s a with
  | true =>
    have h2 : a + 2 ≤ s.size := by
      unfold eqq at he
      simp only [Bool.and_eq_true, decide_eq_true_eq] at he
      exact he.1
    simp only [he, cond_true] at hS hI
    refine ⟨some ((3, (⟨#[61, 61]⟩ : ByteArray), 0, (a : Int), ()), a + 2), ⟨fun t e h => ?_, (Ev.gt 12).mono fun k hk => ⟨_, hS k hk, fun h => (by cases h), fun t e h => ?_⟩, Ev.of fun k => ⟨_, hI k, fun h => (by cases h), fun t e h => ?_⟩⟩, fun t e h => ?_⟩
    · cases h; exact ⟨by omega, by omega, by show (⟨#[61, 61]⟩ : ByteArray).size ≤ s.size; rw [hs2]; omega⟩
    · cases h
      rw [not_nil (by rw [hs2]; omega), hs2, wrap_id (by omega) (by omega)]
      rfl
    · cases h
      exact ⟨by show (3 : Int) ≠ 0; decide, rfl, fun h => absurd h (by show ¬ (3 : Int) = 2; decide), fun _ => rfl⟩
    · cases h
      refine ⟨rfl, by show ¬ (3 : Int) = 0; decide, fun _ => ?_⟩
      show a + (⟨#[61, 61]⟩ : ByteArray).size ≤ s.size ∧ ByteArray.toList (ByteArray.extract s a (a + (⟨#[61, 61]⟩ : ByteArray).size)) = ByteArray.toList (⟨#[61, 61]⟩ : ByteArray)
      rw [hs2]
      refine ⟨h2, eq_of_beq ?_⟩
      rw [list_two _ (by rw [ByteArray.size_extract]; omega), ext_byte s a (a + 2) 0 (by omega) (by omega), ext_byte s a (a + 2) 1 (by omega) (by omega)]
      unfold eqq at he
      simp only [Bool.and_eq_true, decide_eq_true_eq] at he
      rw [Nat.add_zero, he.2.1, he.2.2]; rfl
  | false =>
    cases hi : isS (byteAt s a) with
    | true =>
      simp only [he, hi, cond_true, cond_false] at hS hI
      refine ⟨some ((3, ByteArray.extract s a (a + 1), 0, (a : Int), ()), a + 1), ⟨fun t e h => ?_, (Ev.gt 12).mono fun k hk => ⟨_, hS k hk, fun h => (by cases h), fun t e h => ?_⟩, Ev.of fun k => ⟨_, hI k, fun h => (by cases h), fun t e h => ?_⟩⟩, fun t e h => ?_⟩
      · cases h; exact ⟨by omega, by omega, by show (ByteArray.extract s a (a + 1)).size ≤ s.size; rw [hx]; omega⟩
      · cases h
        rw [not_nil (by rw [hx]; omega), hx, wrap_id (by omega) (by omega)]
        rfl
      · cases h
        exact ⟨by show (3 : Int) ≠ 0; decide, by show (a : Int) + ((ByteArray.extract s a (a + 1)).size : Int) = _; rw [hx]; omega, fun h => absurd h (by show ¬ (3 : Int) = 2; decide), fun _ => rfl⟩
      · cases h
        refine ⟨rfl, by show ¬ (3 : Int) = 0; decide, fun _ => ?_⟩
        show a + (ByteArray.extract s a (a + 1)).size ≤ s.size ∧ ByteArray.toList (ByteArray.extract s a (a + (ByteArray.extract s a (a + 1)).size)) = ByteArray.toList (ByteArray.extract s a (a + 1))
        rw [hx]; exact ⟨by omega, rfl⟩
    | false =>
      simp only [he, hi, cond_false] at hS hI
      refine ⟨none, ⟨fun t e h => by (cases h), (Ev.gt 12).mono fun k hk => ⟨_, hS k hk, fun _ => hz, fun t e h => by (cases h)⟩, Ev.of fun k => ⟨_, hI k, fun _ => rfl, fun t e h => by (cases h)⟩⟩, fun t e h => by (cases h)⟩
theorem step_ok (s : ByteArray) (hb : s.size ≤ 6000) (a : Nat) (ha : a < s.size) : ∃ o, StepQ s a o := by
  cases hL : isL (byteAt s a) with
  | true => exact step_letter s hb a ha hL
  | false =>
    cases hD : isD (byteAt s a) with
    | true => exact step_digit s hb a ha hL hD
    | false => exact step_sign s hb a ha hL hD
/-- All tokens from a place on. -/
def runT (s : ByteArray) (f : Nat → Option (TK × Nat)) : Nat → Nat → List TK → List TK × Int × Unit
  | 0, _, _ => ([], 0, ())
  | m + 1, a, acc => bif decide (a < s.size) then (bif byteAt s a == 32 || byteAt s a == 10 then runT s f m (a + 1) acc else match f a with
    | none => ([], (a : Int), ())
    | some p => runT s f m p.2 (acc ++ [p.1])) else (acc ++ [(0, ByteArray.empty, 0, (s.size : Int), ())], -1, ())
theorem lim40 {l : List TK} {t : TK} (h : l.length ≤ 6000) : decide ((List.length (l ++ [t])) * 40 ≤ lim) = true := decide_eq_true (by rw [List.length_append]; simp [lim]; omega)
theorem spec_tk_l5 (k : Nat) (s : ByteArray) : ∀ (n : Nat) (i : Int), spec_Tokens.l5 k n s i = spec_Tokens.l5b k n s i [] := by
  intro n
  induction n with
  | zero => intro i; rw [spec_Tokens.l5_0, spec_Tokens.l5b_0]
  | succ n ih => intro i; rw [spec_Tokens.l5_s, spec_Tokens.l5b_s, spec_Tokens.j8_e, spec_Tokens.j8b_e]; simp only [ih]; rfl
theorem impl_tk_l5 (k : Nat) (s : ByteArray) : ∀ (n : Nat) (i : Int), impl_Tokens.l5 k n s i = impl_Tokens.l5b k n s i [] := by
  intro n
  induction n with
  | zero => intro i; rw [impl_Tokens.l5_0, impl_Tokens.l5b_0]
  | succ n ih => intro i; rw [impl_Tokens.l5_s, impl_Tokens.l5b_s, impl_Tokens.j8_e, impl_Tokens.j8b_e]; simp only [ih]; rfl
theorem spec_run (s : ByteArray) (hb : s.size ≤ 6000) (f : Nat → Option (TK × Nat)) (k : Nat) (hk : 0 < k)
    (hf : ∀ a, a < s.size → (∀ t e, f a = some (t, e) → a < e ∧ e ≤ s.size ∧ t.2.1.size ≤ s.size) ∧ ∃ r, spec_l5One k s (a : Int) = some r ∧ (f a = none → r.2.2.1 = false) ∧ ∀ t e, f a = some (t, e) → r = (t, (e : Int), true, ())) :
    ∀ (m a n : Nat) (acc : List TK), a ≤ s.size → s.size - a < m → m ≤ n → acc.length ≤ a → spec_Tokens.l5b k n s (a : Int) acc = some (runT s f m a acc)
  | 0, a, n, acc, h1, h2, _, _ => by omega
  | m + 1, a, n, acc, h1, h2, h3, h4 => by
    obtain ⟨n, rfl⟩ : ∃ p, n = p + 1 := ⟨n - 1, by omega⟩
    unfold runT
    rw [spec_Tokens.l5b_s]
    by_cases ha : a < s.size
    · have e1 : ((a : Int) + 1) = ((a + 1 : Nat) : Int) := by omega
      have hw1 : IntKind.wrap .i64 ((a : Int) + 1) = ((a + 1 : Nat) : Int) := by rw [wrap_id (by omega) (by omega)]; exact e1
      obtain ⟨hp, r, er, r0, r1⟩ := hf a ha
      rw [decide_eq_true ha, cond_true, decide_eq_true (show (a : Int) < (s.size : Int) by omega), iteB_true, decide_eq_true (show 0 ≤ (a : Int) by omega), iteB_true, iteB_true, Int.toNat_natCast, hw1, spec_run s hb f k hk hf m (a + 1) n acc (by omega) (by omega) (by omega) (by omega), gate_pos hk, spec_Tokens.j8b_e, er, bindO_some]
      cases h32 : byteAt s a == 32
      · cases h10 : byteAt s a == 10
        · simp only [Bool.not_false, Bool.or_false, iteB_true, iteB_false, cond_false]
          cases hfa : f a with
          | none => rw [r0 hfa]; rfl
          | some p =>
            obtain ⟨t, e⟩ := p
            have := r1 t e hfa
            subst this
            have hp := hp t e hfa
            show iteB false _ (iteB (decide ((List.length (acc ++ [t])) * 40 ≤ lim)) (spec_Tokens.l5b k n s (e : Int) (acc ++ [t])) none) = _
            rw [iteB_false, lim40 (by omega), iteB_true]
            exact spec_run s hb f k hk hf m e n _ hp.2.1 (by omega) (by omega) (by rw [List.length_append]; show acc.length + 1 ≤ e; omega)
        · rfl
      · rfl
    · rw [decide_eq_false ha, cond_false, decide_eq_false (show ¬ (a : Int) < (s.size : Int) by omega), iteB_false, lim40 (by omega), iteB_true]
theorem impl_run (s : ByteArray) (hb : s.size ≤ 6000) (f : Nat → Option (TK × Nat)) (k : Nat) (hk : 0 < k)
    (hf : ∀ a, a < s.size → (∀ t e, f a = some (t, e) → a < e ∧ e ≤ s.size ∧ t.2.1.size ≤ s.size) ∧ ∃ r, impl_token k s (a : Int) = some r ∧ (f a = none → r.1 = 0) ∧ ∀ t e, f a = some (t, e) → r.1 ≠ 0 ∧ (a : Int) + (r.2.1.size : Int) = (e : Int) ∧ (r.1 = 2 → t = (r.1, (⟨#[]⟩ : ByteArray), r.2.2.1, r.2.2.2.1, ())) ∧ (r.1 ≠ 2 → t = r)) :
    ∀ (m a n : Nat) (acc : List TK), a ≤ s.size → s.size - a < m → m ≤ n → acc.length ≤ a → impl_Tokens.l5b k n s (a : Int) acc = some (runT s f m a acc)
  | 0, a, n, acc, h1, h2, _, _ => by omega
  | m + 1, a, n, acc, h1, h2, h3, h4 => by
    obtain ⟨n, rfl⟩ : ∃ p, n = p + 1 := ⟨n - 1, by omega⟩
    unfold runT
    rw [impl_Tokens.l5b_s]
    by_cases ha : a < s.size
    · have e1 : ((a : Int) + 1) = ((a + 1 : Nat) : Int) := by omega
      have hw1 : IntKind.wrap .i64 ((a : Int) + 1) = ((a + 1 : Nat) : Int) := by rw [wrap_id (by omega) (by omega)]; exact e1
      obtain ⟨hp, r, er, r0, r1⟩ := hf a ha
      rw [decide_eq_true ha, cond_true, decide_eq_true (show (a : Int) < (s.size : Int) by omega), iteB_true, decide_eq_true (show 0 ≤ (a : Int) by omega), iteB_true, iteB_true, Int.toNat_natCast, hw1, impl_run s hb f k hk hf m (a + 1) n acc (by omega) (by omega) (by omega) (by omega), gate_pos hk, impl_Tokens.j8b_e, er, bindO_some]
      cases h32 : byteAt s a == 32
      · cases h10 : byteAt s a == 10
        · simp only [Bool.not_false, Bool.or_false, iteB_true, iteB_false, cond_false]
          cases hfa : f a with
          | none => rw [r0 hfa]; rfl
          | some p =>
            obtain ⟨t, e⟩ := p
            obtain ⟨q0, q1, q2, q3⟩ := r1 t e hfa
            have hp := hp t e hfa
            have z0 : (r.1 == 0) = false := beq_eq_false_iff_ne.2 q0
            have hw : IntKind.wrap .i64 ((a : Int) + (r.2.1.size : Int)) = (e : Int) := by rw [q1]; exact wrap_id (by omega) (by omega)
            rw [z0, iteB_false, hw, lim40 (by omega), lim40 (by omega), iteB_true, iteB_true]
            have nx := impl_run s hb f k hk hf m e n (acc ++ [t]) hp.2.1 (by omega) (by omega) (by rw [List.length_append]; show acc.length + 1 ≤ e; omega)
            by_cases h2 : r.1 = 2
            · have z2 : (r.1 == 2) = true := by simp [h2]
              rw [z2, iteB_true, ← q2 h2]; exact nx
            · have z2 : (r.1 == 2) = false := by simp [h2]
              rw [z2, iteB_false, ← q3 h2]; exact nx
        · rfl
      · rfl
    · rw [decide_eq_false ha, cond_false, decide_eq_false (show ¬ (a : Int) < (s.size : Int) by omega), iteB_false, lim40 (by omega), iteB_true]

/-! The law. -/
abbrev dT : TK := Ty.dflt (.pair (.int .i64) (.pair .str (.pair (.int .i64) (.pair (.int .i64) .unit))))
def TokOk (s : ByteArray) (t : TK) : Prop := ∃ a : Nat, t.2.2.2.1 = (a : Int) ∧ a ≤ s.size ∧ (t.1 ≠ 0 → t.1 ≠ 2 → a + t.2.1.size ≤ s.size ∧ ByteArray.toList (ByteArray.extract s a (a + t.2.1.size)) = ByteArray.toList t.2.1)
structure ResOk (s : ByteArray) (l : List TK) : Prop where
  tok : ∀ t ∈ l, TokOk s t
  inc : ∀ (i : Nat), i + 1 < l.length → (l.getD i dT).2.2.2.1 ≤ (l.getD (i + 1) dT).2.2.2.1
def Res (s : ByteArray) (o : List TK × Int × Unit) : Prop := (s.size ≤ 6000 ∧ o.1.length ≤ 6001 ∧ o.2.1 = -1 ∧ ResOk s o.1 ∧ ∃ init, o.1 = init ++ [(0, ByteArray.empty, 0, (s.size : Int), ())]) ∨ (0 ≤ o.2.1 ∧ o.1 = [])
theorem ResOk.snoc {s : ByteArray} {l : List TK} (h : ResOk s l) {t : TK} (ht : TokOk s t) (hl : ∀ u ∈ l, u.2.2.2.1 ≤ t.2.2.2.1) : ResOk s (l ++ [t]) := by
  refine ⟨fun u hu => ?_, fun i hi => ?_⟩
  · rcases List.mem_append.1 hu with hu | hu
    · exact h.tok u hu
    · rw [List.mem_singleton.1 hu]; exact ht
  · rw [List.length_append] at hi
    simp only [List.length_cons, List.length_nil] at hi
    have e1 : (l ++ [t]).getD i dT = l.getD i dT := by
      simp only [List.getD_eq_getElem?_getD]; rw [List.getElem?_append_left (by omega)]
    rw [e1]
    by_cases hi2 : i + 1 < l.length
    · have e2 : (l ++ [t]).getD (i + 1) dT = l.getD (i + 1) dT := by
        simp only [List.getD_eq_getElem?_getD]; rw [List.getElem?_append_left (by omega)]
      rw [e2]; exact h.inc i hi2
    · have e2 : (l ++ [t]).getD (i + 1) dT = t := by
        have : i + 1 = l.length := by omega
        simp [this]
      rw [e2]
      refine hl _ ?_
      exact getD_mem l dT (i := (i : Int)) (by omega) (by omega)
theorem runT_good (s : ByteArray) (hb : s.size ≤ 6000) (f : Nat → Option (TK × Nat)) (hf : ∀ a, a < s.size → ∀ t e, f a = some (t, e) → (a < e ∧ e ≤ s.size) ∧ TokAt s a t) : ∀ (m a : Nat) (acc : List TK), a ≤ s.size → acc.length ≤ a → ResOk s acc → (∀ u ∈ acc, u.2.2.2.1 ≤ (a : Int)) → Res s (runT s f m a acc) := by
  intro m
  induction m with
  | zero => intro a acc _ _ _ _; exact .inr ⟨Int.le_refl _, rfl⟩
  | succ m ih =>
    intro a acc h1 h2 h3 h4
    unfold runT
    by_cases ha : a < s.size
    · rw [decide_eq_true ha, cond_true]
      cases hsp : (byteAt s a == 32 || byteAt s a == 10) with
      | true => rw [cond_true]; exact ih (a + 1) acc (by omega) (by omega) h3 fun u hu => by have := h4 u hu; omega
      | false =>
        rw [cond_false]
        cases hfa : f a with
        | none => exact .inr ⟨by show (0 : Int) ≤ (a : Int); omega, rfl⟩
        | some p =>
          obtain ⟨t, e⟩ := p
          obtain ⟨⟨g1, g2⟩, g3, g4, g5⟩ := hf a ha t e hfa
          refine ih e (acc ++ [t]) g2 (by rw [List.length_append]; show acc.length + 1 ≤ e; omega) (h3.snoc ⟨a, g3, by omega, fun _ q => g5 q⟩ fun u hu => by rw [g3]; exact h4 u hu) fun u hu => ?_
          rcases List.mem_append.1 hu with hu | hu
          · have := h4 u hu; omega
          · rw [List.mem_singleton.1 hu, g3]; omega
    · rw [decide_eq_false ha, cond_false]
      refine .inl ⟨hb, by rw [List.length_append]; show acc.length + 1 ≤ 6001; omega, rfl, h3.snoc ⟨s.size, rfl, Nat.le_refl _, fun q => absurd rfl q⟩ fun u hu => ?_, acc, rfl⟩
      have := h4 u hu
      show u.2.2.2.1 ≤ (s.size : Int)
      omega
theorem both_ok (s : ByteArray) : ∃ o : List TK × Int × Unit, (Ev fun k => spec_Tokens k s = some o) ∧ (Ev fun k => impl_Tokens k s = some o) ∧ Res s o := by
  by_cases hb : s.size ≤ 6000
  · have hall : ∀ a, ∃ o, a < s.size → StepQ s a o := fun a => by
      by_cases ha : a < s.size
      · obtain ⟨o, h⟩ := step_ok s hb a ha; exact ⟨o, fun _ => h⟩
      · exact ⟨none, fun h => absurd h ha⟩
    let f : Nat → Option (TK × Nat) := fun a => Classical.choose (hall a)
    have hf : ∀ a, a < s.size → StepQ s a (f a) := fun a => Classical.choose_spec (hall a)
    refine ⟨runT s f (s.size + 1) 0 [], ?_, ?_, runT_good s hb f (fun a ha t e h => ⟨⟨((hf a ha).1.1 t e h).1, ((hf a ha).1.1 t e h).2.1⟩, (hf a ha).2 t e h⟩) _ 0 [] (Nat.zero_le _) (Nat.le_refl _) ⟨fun t h => (by cases h), fun i h => absurd h (by simp)⟩ (fun t h => by cases h)⟩
    · have ev := Ev.all (l := List.range s.size) (fun a ha => (hf a (List.mem_range.1 ha)).1.2.1)
      refine ev.two (Ev.gt (s.size + 1)) fun k h1 h2 => ?_
      have := spec_run s hb f k (by omega) (fun a ha => ⟨(hf a ha).1.1, h1 a (List.mem_range.2 ha)⟩) (s.size + 1) 0 k [] (by omega) (by omega) (by omega) (Nat.le_refl _)
      rw [spec_Tokens_e, decide_eq_false (by omega), iteB_false, spec_tk_l5]
      exact this
    · have ev := Ev.all (l := List.range s.size) (fun a ha => (hf a (List.mem_range.1 ha)).1.2.2)
      refine ev.two (Ev.gt (s.size + 1)) fun k h1 h2 => ?_
      have := impl_run s hb f k (by omega) (fun a ha => ⟨(hf a ha).1.1, h1 a (List.mem_range.2 ha)⟩) (s.size + 1) 0 k [] (by omega) (by omega) (by omega) (Nat.le_refl _)
      rw [impl_Tokens_e, decide_eq_false (by omega), iteB_false, impl_tk_l5]
      exact this
  · exact ⟨([], 0, ()), Ev.of fun k => by rw [spec_Tokens_e, decide_eq_true (by omega), iteB_true], Ev.of fun k => by rw [impl_Tokens_e, decide_eq_true (by omega), iteB_true], .inr ⟨Int.le_refl _, rfl⟩⟩
/-! Keywords. -/
theorem kw_l3 (k : Nat) (c : ByteArray) (K : List ByteArray) (hK : K.length ≤ 1000) : ∀ m i n : Nat, i + m = K.length → m < n → spec_Keyword.l3 k n c (i : Int) K = some ((K.drop i).any fun x => ByteArray.toList c == ByteArray.toList x) := by
  intro m
  induction m with
  | zero =>
    intro i n h1 h2
    obtain ⟨n, rfl⟩ : ∃ p, n = p + 1 := ⟨n - 1, by omega⟩
    rw [spec_Keyword.l3_s, decide_eq_false (by omega), iteB_false, List.drop_eq_nil_of_le (by omega)]; rfl
  | succ m ih =>
    intro i n h1 h2
    obtain ⟨n, rfl⟩ : ∃ p, n = p + 1 := ⟨n - 1, by omega⟩
    have hw : IntKind.wrap .i64 ((i : Int) + 1) = ((i + 1 : Nat) : Int) := by rw [wrap_id (by omega) (by omega)]; omega
    have hd := drop_at K ByteArray.empty (i : Int) (by omega) (by omega)
    have e1 : ((i : Int) + 1).toNat = i + 1 := by omega
    rw [Int.toNat_natCast, e1] at hd
    rw [spec_Keyword.l3_s, decide_eq_true (show (i : Int) < (K.length : Int) by omega), iteB_true, decide_eq_true (show 0 ≤ (i : Int) by omega), iteB_true, iteB_true, hw, ih (i + 1) n (by omega) (by omega), Int.toNat_natCast, hd, List.any_cons, BEq.comm]
    cases ByteArray.toList c == ByteArray.toList (K.getD i ByteArray.empty) <;> rfl

theorem keyword_ok (c : ByteArray) : ∃ b, (Ev fun k => spec_Keyword k c = some b) ∧ Ev fun k => impl_Keyword k c = some b := by
  have h1 : ∀ K : List ByteArray, K.length ≤ 1000 → Ev fun k => slices_Contains_string k K c = some (K.any fun x => ByteArray.toList c == ByteArray.toList x) := fun K hK =>
    contains_of (α := ByteArray) (d := ByteArray.empty) (C := fun _ y => some (ByteArray.toList c == ByteArray.toList y)) (I := fun k xs => slices_Index_string k xs c) (L := fun k n xs m i => slices_Index_string.l2 k n xs c m i) (S := fun k xs => slices_Contains_string k xs c) (fun k n xs m i => slices_Index_string.l2_s k n xs c m i) (fun k xs => slices_Index_string_e k xs c) (fun k xs => slices_Contains_string_e k xs c) K (by omega) fun x _ => Ev.of fun _ => rfl
  obtain ⟨K, e1, e2, hK⟩ : ∃ K : List ByteArray, (∀ k, spec_Keyword k c = spec_Keyword.l3 k k c 0 K) ∧ (∀ k, impl_Keyword k c = bindO (slices_Contains_string k K c) fun r1 => (some r1)) ∧ Nat.ble K.length 1000 = true := ⟨_, fun k => spec_Keyword_e k c, fun k => impl_Keyword_e k c, by kernel_rfl⟩
  have hK := Nat.le_of_ble_eq_true hK
  refine ⟨K.any fun x => ByteArray.toList c == ByteArray.toList x, (Ev.gt 1000).mono fun k hk => ?_, (h1 K hK).mono fun k h => ?_⟩
  · rw [e1]; exact kw_l3 k c K hK K.length 0 k (Nat.zero_add _) (by omega)
  · rw [e2, h, bindO_some]
theorem law_l10 (k : Nat) (hk : 0 < k) (s : ByteArray) (hb : s.size ≤ 6000) (l : List TK) (hl : l.length ≤ 6001) (hR : ResOk s l) {init : List TK} (hi : l = init ++ [(0, ByteArray.empty, 0, (s.size : Int), ())]) : ∀ m i n : Nat, i + m = l.length → m < n → laws_FnTokens.l10 k n s l (-1) l (i : Int) = some true := by
  intro m
  induction m with
  | zero =>
    intro i n h1 h2
    obtain ⟨n, rfl⟩ : ∃ p, n = p + 1 := ⟨n - 1, by omega⟩
    have hlen : l.length = init.length + 1 := by rw [hi]; simp
    have hw : IntKind.wrap .i64 ((l.length : Int) - 1) = (init.length : Int) := by rw [hlen, wrap_id (by omega) (by omega)]; omega
    have hg : l.getD init.length dT = (0, ByteArray.empty, 0, (s.size : Int), ()) := by rw [hi]; simp
    have b1 : decide ((-1 : Int) ≥ 0) = false := rfl
    have b2 : ((-1 : Int) == (-1)) = true := rfl
    rw [laws_FnTokens.l10_s, decide_eq_false (show ¬ (i : Int) < (l.length : Int) by omega), iteB_false, b1, iteB_false, b2, iteB_true, hw, decide_eq_true (show 0 ≤ (init.length : Int) by omega), iteB_true, decide_eq_true (show (init.length : Int) < (l.length : Int) by omega), iteB_true, Int.toNat_natCast, hg, iteB_true, iteB_true]
    show iteB ((0 : Int) == 0) (some ((s.size : Int) == (s.size : Int))) (some false) = some true
    rw [beq_self_eq_true, beq_self_eq_true, iteB_true]
  | succ m ih =>
    intro i n h1 h2
    obtain ⟨n, rfl⟩ : ∃ p, n = p + 1 := ⟨n - 1, by omega⟩
    have hw : IntKind.wrap .i64 ((i : Int) + 1) = ((i + 1 : Nat) : Int) := by rw [wrap_id (by omega) (by omega)]; omega
    have a0 : decide (0 ≤ (i : Int)) = true := decide_eq_true (by omega)
    have a1 : decide ((i : Int) < (l.length : Int)) = true := decide_eq_true (by omega)
    have nx := ih (i + 1) n (by omega) (by omega)
    have hmem := getD_mem l dT (i := (i : Int)) (by omega) (by omega)
    rw [Int.toNat_natCast] at hmem
    obtain ⟨a, ta, tb, tc⟩ := hR.tok _ hmem
    have hj : laws_FnTokens.j14 k n s l (-1) l (i : Int) = some true := by
      rw [laws_FnTokens.j14_e, Int.toNat_natCast, hw, nx, a0, a1]
      simp only [iteB_true]
      generalize l.getD i dT = T at ta tc ⊢
      obtain ⟨t1, t2, t3, t4, t5⟩ := T
      replace ta : t4 = (a : Int) := ta
      subst ta
      show iteB (t1 != 0) (iteB (t1 != 2) (iteB (decide (0 ≤ IntKind.wrap .i64 ((a : Int) + (t2.size : Int)))) (iteB (decide (IntKind.wrap .i64 ((a : Int) + (t2.size : Int)) ≤ (s.size : Int))) (iteB (decide (0 ≤ (a : Int))) (iteB (decide ((a : Int) ≤ IntKind.wrap .i64 ((a : Int) + (t2.size : Int)))) (iteB (!(ByteArray.toList (ByteArray.extract s (Int.toNat (a : Int)) (Int.toNat (IntKind.wrap .i64 ((a : Int) + (t2.size : Int))))) == ByteArray.toList t2)) (some false) (some true)) none) none) none) none) (some true)) (some true) = some true
      cases h0 : (t1 != 0) with
      | false => rfl
      | true =>
        rw [iteB_true]
        cases h2' : (t1 != 2) with
        | false => rfl
        | true =>
          obtain ⟨q1, q2⟩ := tc (by simpa using h0) (by simpa using h2')
          replace q1 : a + t2.size ≤ s.size := q1
          replace q2 : ByteArray.toList (ByteArray.extract s a (a + t2.size)) = ByteArray.toList t2 := q2
          have hwa : IntKind.wrap .i64 ((a : Int) + (t2.size : Int)) = ((a + t2.size : Nat) : Int) := by rw [wrap_id (by omega) (by omega)]; omega
          rw [iteB_true, hwa, decide_eq_true (show 0 ≤ ((a + t2.size : Nat) : Int) by omega), iteB_true, decide_eq_true (show ((a + t2.size : Nat) : Int) ≤ (s.size : Int) by omega), iteB_true, decide_eq_true (show 0 ≤ (a : Int) by omega), iteB_true, decide_eq_true (show (a : Int) ≤ ((a + t2.size : Nat) : Int) by omega), iteB_true, Int.toNat_natCast, Int.toNat_natCast, q2, beq_self_eq_true, Bool.not_true, iteB_false]
    rw [laws_FnTokens.l10_s, Int.toNat_natCast, a0, a1, gate_pos hk, hj]
    simp only [iteB_true, beq_self_eq_true, Bool.and_self, Bool.and_true, Bool.not_true, Bool.not_false]
    by_cases hz : i = 0
    · subst hz
      rfl
    · obtain ⟨j, rfl⟩ : ∃ j, i = j + 1 := ⟨i - 1, by omega⟩
      have hwj : IntKind.wrap .i64 (((j + 1 : Nat) : Int) - 1) = (j : Int) := by rw [wrap_id (by omega) (by omega)]; omega
      have hinc := hR.inc j (by omega)
      rw [decide_eq_true (show ((j + 1 : Nat) : Int) > 0 by omega), iteB_true, hwj, decide_eq_true (show 0 ≤ (j : Int) by omega), iteB_true, decide_eq_true (show (j : Int) < (l.length : Int) by omega), iteB_true, Int.toNat_natCast, decide_eq_false (show ¬ (l.getD (j + 1) dT).2.2.2.1 < (l.getD j dT).2.2.2.1 by omega), iteB_false]
theorem FnTokens : ∀ (x0 : List Int), WfT (.row (.int .u8)) x0 → ∃ k, laws_FnTokens k x0 = some true := by
  intro code _
  by_cases hbig : (List.length code : Int) > 1048576
  · exact ⟨0, by rw [laws_FnTokens_e, laws_big_e, bindO_some, decide_eq_true hbig, iteB_true]⟩
  have hc : code.length ≤ 1048576 := by omega
  refine Ev.get ?_
  obtain ⟨s, _, d1⟩ := drawTokens_ok hc
  obtain ⟨c, _, d2⟩ := drawKeyword_ok hc
  obtain ⟨⟨l, b, u⟩, e1, e2, hR⟩ := both_ok s
  obtain ⟨q, k1, k2⟩ := keyword_ok c
  refine ((d1.and d2).and (e1.and e2)).two ((k1.and k2).and ((Ev.gt 0).and (Ev.gt 7000))) fun k h1 h2 => ?_
  obtain ⟨⟨d1, d2⟩, e1, e2⟩ := h1
  obtain ⟨⟨k1, k2⟩, hk, hk2⟩ := h2
  replace d1 : spec_DrawTokens k code = some s := d1
  replace d2 : spec_DrawKeyword k code = some c := d2
  have n1 : (b != b) = false := by simp
  have n2 : (((l.length : Int)) != (l.length : Int)) = false := by simp
  have n3 : (q == q) = true := by simp
  rw [laws_FnTokens_e, laws_big_e, bindO_some, decide_eq_false hbig, iteB_false, d1, bindO_some, e2, bindO_some, e1, bindO_some, d2, bindO_some, n1, n2, Bool.not_false, iteB_true, iteB_true, k2, bindO_some, k1, bindO_some, n3, Bool.not_true, iteB_false, gate_pos hk, laws_FnTokens.j9_e]
  rcases hR with ⟨hb, hl, hm, hR, init, hi⟩ | ⟨h0, h1⟩
  · replace hm : b = -1 := hm
    subst hm
    exact law_l10 k hk s hb l hl hR hi l.length 0 k (Nat.zero_add _) (by have : l.length ≤ 6001 := hl; omega)
  · replace h1 : l = [] := h1
    replace h0 : 0 ≤ b := h0
    subst h1
    obtain ⟨k, rfl⟩ : ∃ p, k = p + 1 := ⟨k - 1, by omega⟩
    rw [laws_FnTokens.l10_s]
    simp only [List.length_nil, decide_eq_true (show b ≥ 0 by omega), iteB_true]
    rfl

end Go.Proofs.Yteojdaobpjhddaa.Pure
