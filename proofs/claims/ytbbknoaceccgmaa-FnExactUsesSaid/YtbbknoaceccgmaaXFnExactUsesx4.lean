-- Written by wip/xprint, a program of this session over the kit's print. Lean checks it.
import Derived.Test.YtbbknoaceccgmaaXFnExactUsesx0
import Derived.Test.YtbbknoaceccgmaaXFnExactUsesx3
namespace Go.Proofs.Ytbbknoaceccgmaa.XFnExactUses
open Go.RowKit Go.Proofs.YtbbknoaceccgmaaW.PrintWords Go.Proofs.YtbbknoaceccgmaaW.PrintLast Go.Proofs.YtbbknoaceccgmaaW.PrintMore
attribute [local go_sem] max2_int min2_int max_two min_two max_three min_three max_four min_four   -- for this text's walks alone
set_option linter.unusedVariables false
set_option linter.unusedSimpArgs false

/-! ### impl_owns: function 116 -/
mutual
def impl_owns.j0 : Nat → Int → Bool → Option (ByteArray)
  | 0, _, _ => none
  | k + 1, x3, x6 => if x6 = true then (some (⟨#[68, 65]⟩ : ByteArray)) else (if x3 = 3 then (impl_owns.j1 k x3 (x3 == 3)) else (if x3 = 4 then (impl_owns.j1 k x3 (x3 == 4)) else (if x3 = 5 then (impl_owns.j1 k x3 (x3 == 5)) else (if x3 = 6 then (impl_owns.j1 k x3 (x3 == 6)) else (impl_owns.j1 k x3 (x3 == 7))))))
def impl_owns.j1 : Nat → Int → Bool → Option (ByteArray)
  | 0, _, _ => none
  | k + 1, x3, x11 => if x11 = true then (some (⟨#[68, 65, 66]⟩ : ByteArray)) else (if x3 = 8 then (impl_owns.j2 k x3 (x3 == 8)) else (impl_owns.j2 k x3 (x3 == 9)))
def impl_owns.j2 : Nat → Int → Bool → Option (ByteArray)
  | 0, _, _ => none
  | k + 1, x3, x17 => if x17 = true then (some (⟨#[78]⟩ : ByteArray)) else (if x3 = 10 then (some (⟨#[65, 78]⟩ : ByteArray)) else (if x3 = 11 then (some (⟨#[68, 83, 88]⟩ : ByteArray)) else (if x3 = 12 then (impl_owns.j3 k x3 (x3 == 12)) else (if x3 = 13 then (impl_owns.j3 k x3 (x3 == 13)) else (if x3 = 18 then (impl_owns.j3 k x3 (x3 == 18)) else (if x3 = 25 then (impl_owns.j3 k x3 (x3 == 25)) else (impl_owns.j3 k x3 (x3 == 28))))))))
def impl_owns.j3 : Nat → Int → Bool → Option (ByteArray)
  | 0, _, _ => none
  | k + 1, x3, x24 => if x24 = true then (some (⟨#[65]⟩ : ByteArray)) else (if x3 = 14 then (some (⟨#[83, 88]⟩ : ByteArray)) else (if x3 = 16 then (impl_owns.j4 k x3 (x3 == 16)) else (if x3 = 21 then (impl_owns.j4 k x3 (x3 == 21)) else (if x3 = 26 then (impl_owns.j4 k x3 (x3 == 26)) else (impl_owns.j4 k x3 (x3 == 27))))))
def impl_owns.j4 : Nat → Int → Bool → Option (ByteArray)
  | 0, _, _ => none
  | k + 1, x3, x32 => if x32 = true then (some (⟨#[65, 66]⟩ : ByteArray)) else (if x3 = 19 then (some (⟨#[68, 66, 78, 88]⟩ : ByteArray)) else (if x3 = 22 then (some (⟨#[68, 65, 66, 88]⟩ : ByteArray)) else (if x3 = 23 then (some (⟨#[68]⟩ : ByteArray)) else (if x3 = 24 then (some (⟨#[68, 83]⟩ : ByteArray)) else (some (⟨#[]⟩ : ByteArray))))))
end
def impl_owns.f (k : Nat) (a0 : Int) : Option (ByteArray) := if a0 = 1 then (some (⟨#[68, 78]⟩ : ByteArray)) else (if a0 = 2 then (impl_owns.j0 k a0 (a0 == 2)) else (if a0 = 15 then (impl_owns.j0 k a0 (a0 == 15)) else (if a0 = 17 then (impl_owns.j0 k a0 (a0 == 17)) else (impl_owns.j0 k a0 (a0 == 20)))))
theorem impl_owns.mono_l : ∀ k, (∀ y0 y1, LeO (impl_owns.j0 k y0 y1) (impl_owns.j0 (k + 1) y0 y1)) ∧ (∀ y0 y1, LeO (impl_owns.j1 k y0 y1) (impl_owns.j1 (k + 1) y0 y1)) ∧ (∀ y0 y1, LeO (impl_owns.j2 k y0 y1) (impl_owns.j2 (k + 1) y0 y1)) ∧ (∀ y0 y1, LeO (impl_owns.j3 k y0 y1) (impl_owns.j3 (k + 1) y0 y1)) ∧ (∀ y0 y1, LeO (impl_owns.j4 k y0 y1) (impl_owns.j4 (k + 1) y0 y1))
  | 0 => ⟨fun _ _ r h => by simp [impl_owns.j0] at h, fun _ _ r h => by simp [impl_owns.j1] at h, fun _ _ r h => by simp [impl_owns.j2] at h, fun _ _ r h => by simp [impl_owns.j3] at h, fun _ _ r h => by simp [impl_owns.j4] at h⟩
  | k + 1 => by
    obtain ⟨ih0, ih1, ih2, ih3, ih4⟩ := impl_owns.mono_l k
    refine ⟨?_, ?_, ?_, ?_, ?_⟩
    · intro y0 y1
      unfold impl_owns.j0
      repeat' first
      | (with_reducible exact ih0 _ _)
      | (with_reducible exact ih1 _ _)
      | (with_reducible exact ih2 _ _)
      | (with_reducible exact ih3 _ _)
      | (with_reducible exact ih4 _ _)
      | (with_reducible exact LeO.refl _)
      | (with_reducible exact LeO.none _)
      | (with_reducible refine LeO.ite ?_ ?_)
      | (with_reducible refine LeO.bind ?_ (fun _ => ?_))
      | exact ih0 _ _
      | exact ih1 _ _
      | exact ih2 _ _
      | exact ih3 _ _
      | exact ih4 _ _
      | exact LeO.none _
      | refine LeO.ite ?_ ?_
      | refine LeO.bind ?_ (fun _ => ?_)
    · intro y0 y1
      unfold impl_owns.j1
      repeat' first
      | (with_reducible exact ih0 _ _)
      | (with_reducible exact ih1 _ _)
      | (with_reducible exact ih2 _ _)
      | (with_reducible exact ih3 _ _)
      | (with_reducible exact ih4 _ _)
      | (with_reducible exact LeO.refl _)
      | (with_reducible exact LeO.none _)
      | (with_reducible refine LeO.ite ?_ ?_)
      | (with_reducible refine LeO.bind ?_ (fun _ => ?_))
      | exact ih0 _ _
      | exact ih1 _ _
      | exact ih2 _ _
      | exact ih3 _ _
      | exact ih4 _ _
      | exact LeO.none _
      | refine LeO.ite ?_ ?_
      | refine LeO.bind ?_ (fun _ => ?_)
    · intro y0 y1
      unfold impl_owns.j2
      repeat' first
      | (with_reducible exact ih0 _ _)
      | (with_reducible exact ih1 _ _)
      | (with_reducible exact ih2 _ _)
      | (with_reducible exact ih3 _ _)
      | (with_reducible exact ih4 _ _)
      | (with_reducible exact LeO.refl _)
      | (with_reducible exact LeO.none _)
      | (with_reducible refine LeO.ite ?_ ?_)
      | (with_reducible refine LeO.bind ?_ (fun _ => ?_))
      | exact ih0 _ _
      | exact ih1 _ _
      | exact ih2 _ _
      | exact ih3 _ _
      | exact ih4 _ _
      | exact LeO.none _
      | refine LeO.ite ?_ ?_
      | refine LeO.bind ?_ (fun _ => ?_)
    · intro y0 y1
      unfold impl_owns.j3
      repeat' first
      | (with_reducible exact ih0 _ _)
      | (with_reducible exact ih1 _ _)
      | (with_reducible exact ih2 _ _)
      | (with_reducible exact ih3 _ _)
      | (with_reducible exact ih4 _ _)
      | (with_reducible exact LeO.refl _)
      | (with_reducible exact LeO.none _)
      | (with_reducible refine LeO.ite ?_ ?_)
      | (with_reducible refine LeO.bind ?_ (fun _ => ?_))
      | exact ih0 _ _
      | exact ih1 _ _
      | exact ih2 _ _
      | exact ih3 _ _
      | exact ih4 _ _
      | exact LeO.none _
      | refine LeO.ite ?_ ?_
      | refine LeO.bind ?_ (fun _ => ?_)
    · intro y0 y1
      unfold impl_owns.j4
      repeat' first
      | (with_reducible exact ih0 _ _)
      | (with_reducible exact ih1 _ _)
      | (with_reducible exact ih2 _ _)
      | (with_reducible exact ih3 _ _)
      | (with_reducible exact ih4 _ _)
      | (with_reducible exact LeO.refl _)
      | (with_reducible exact LeO.none _)
      | (with_reducible refine LeO.ite ?_ ?_)
      | (with_reducible refine LeO.bind ?_ (fun _ => ?_))
      | exact ih0 _ _
      | exact ih1 _ _
      | exact ih2 _ _
      | exact ih3 _ _
      | exact ih4 _ _
      | exact LeO.none _
      | refine LeO.ite ?_ ?_
      | refine LeO.bind ?_ (fun _ => ?_)
theorem impl_owns.mono : ∀ a0 k, LeO (impl_owns.f k a0) (impl_owns.f (k + 1) a0) := by
  intro a0 k
  obtain ⟨ih0, ih1, ih2, ih3, ih4⟩ := impl_owns.mono_l k
  unfold impl_owns.f
  repeat' first
      | (with_reducible exact ih0 _ _)
      | (with_reducible exact ih1 _ _)
      | (with_reducible exact ih2 _ _)
      | (with_reducible exact ih3 _ _)
      | (with_reducible exact ih4 _ _)
      | (with_reducible exact LeO.refl _)
      | (with_reducible exact LeO.none _)
      | (with_reducible refine LeO.ite ?_ ?_)
      | (with_reducible refine LeO.bind ?_ (fun _ => ?_))
      | exact ih0 _ _
      | exact ih1 _ _
      | exact ih2 _ _
      | exact ih3 _ _
      | exact ih4 _ _
      | exact LeO.none _
      | refine LeO.ite ?_ ?_
      | refine LeO.bind ?_ (fun _ => ?_)
set_option maxHeartbeats 8000000 in
set_option maxRecDepth 100000 in
theorem impl_owns.calls (k : Nat) (a0 : Int) (r : ByteArray) (w : World) (h : impl_owns.f k a0 = some r) :
    Calls Try.prog 116 #[.int .i64 a0] w fun e w' => e = .returned (.string r) ∧ Drawn0 w w' := by
  have H : (if a0 = 1 then (some (⟨#[68, 78]⟩ : ByteArray)) else (if a0 = 2 then (impl_owns.j0 k a0 (a0 == 2)) else (if a0 = 15 then (impl_owns.j0 k a0 (a0 == 15)) else (if a0 = 17 then (impl_owns.j0 k a0 (a0 == 17)) else (impl_owns.j0 k a0 (a0 == 20)))))) = some r := h
  clear h
  by_cases c2 : a0 = 1
  · rw [if_pos c2] at H
    have c2b0 : (a0 == 1) = true := beq_iff_eq.mpr c2
    have c2b1 : (a0 != 1) = false := bne_eq_false_iff_eq.mpr c2
    clear c2
    obtain rfl := Option.some.inj H
    go_enter Try.func116, Try.ntmps116
    go_wp2
    go_ret
    exact ⟨by first | rfl | (simp; done) | (simp [*]; done), by repeat (first | exact Drawn0.refl _ | apply Drawn0.step)⟩
  · rw [if_neg c2] at H
    have c2b0 : (a0 == 1) = false := beq_eq_false_iff_ne.mpr c2
    have c2b1 : (a0 != 1) = true := bne_iff_ne.mpr c2
    have HC3 := Aside0.mk H
    clear H
    go_enter Try.func116, Try.ntmps116
    go_upto_if 6 with (fail)
    go_cut [6] (fun v6 wc => ∃ (kq : Nat) (x6_2 : Bool), v6 = .bool x6_2 ∧ Aside0 (impl_owns.j0 kq a0 x6_2 = some r) ∧ Aside0 (kq ≤ k) ∧ Drawn0 w wc)
    case first =>
      have H := HC3.out
      clear HC3
      by_cases c4 : a0 = 2
      · rw [if_pos c4] at H
        have c4b0 : (a0 == 2) = true := beq_iff_eq.mpr c4
        have c4b1 : (a0 != 2) = false := bne_eq_false_iff_eq.mpr c4
        clear c4
        (first | rw [c4b0] | (simp only [i64_w, i32_w]; rw [c4b0]) | skip)
        have H' := Aside0.mk H
        clear H
        go_wp2
        go_meet
        case rel => exact ⟨_, ((a0 == 2)), (by first | rfl | (simp; done) | (simp [*]; done)), H', ⟨by first | omega | exact Nat.le_refl _⟩, by repeat (first | exact Drawn0.refl _ | apply Drawn0.step)⟩
      · rw [if_neg c4] at H
        have c4b0 : (a0 == 2) = false := beq_eq_false_iff_ne.mpr c4
        have c4b1 : (a0 != 2) = true := bne_iff_ne.mpr c4
        (first | rw [c4b0] | (simp only [i64_w, i32_w]; rw [c4b0]) | skip)
        by_cases c5 : a0 = 15
        · rw [if_pos c5] at H
          have c5b0 : (a0 == 15) = true := beq_iff_eq.mpr c5
          have c5b1 : (a0 != 15) = false := bne_eq_false_iff_eq.mpr c5
          clear c5
          have H' := Aside0.mk H
          clear H
          go_wp2
          go_meet
          case rel => exact ⟨_, ((a0 == 15)), (by first | rfl | (simp; done) | (simp [*]; done)), H', ⟨by first | omega | exact Nat.le_refl _⟩, by repeat (first | exact Drawn0.refl _ | apply Drawn0.step)⟩
        · rw [if_neg c5] at H
          have c5b0 : (a0 == 15) = false := beq_eq_false_iff_ne.mpr c5
          have c5b1 : (a0 != 15) = true := bne_iff_ne.mpr c5
          by_cases c6 : a0 = 17
          · rw [if_pos c6] at H
            have c6b0 : (a0 == 17) = true := beq_iff_eq.mpr c6
            have c6b1 : (a0 != 17) = false := bne_eq_false_iff_eq.mpr c6
            clear c6
            have H' := Aside0.mk H
            clear H
            go_wp2
            go_meet
            case rel => exact ⟨_, ((a0 == 17)), (by first | rfl | (simp; done) | (simp [*]; done)), H', ⟨by first | omega | exact Nat.le_refl _⟩, by repeat (first | exact Drawn0.refl _ | apply Drawn0.step)⟩
          · rw [if_neg c6] at H
            have c6b0 : (a0 == 17) = false := beq_eq_false_iff_ne.mpr c6
            have c6b1 : (a0 != 17) = true := bne_iff_ne.mpr c6
            have H' := Aside0.mk H
            clear H
            go_wp2
            go_meet
            case rel => exact ⟨_, ((a0 == 20)), (by first | rfl | (simp; done) | (simp [*]; done)), H', ⟨by first | omega | exact Nat.le_refl _⟩, by repeat (first | exact Drawn0.refl _ | apply Drawn0.step)⟩
    case rest =>
      clear HC3
      try clear c1
      try clear c2
      try clear c2b0
      try clear c2b1
      try clear p2
      try clear c4
      try clear c4b0
      try clear c4b1
      try clear c5
      try clear c5b0
      try clear c5b1
      try clear c6
      try clear c6b0
      try clear c6b1
      obtain ⟨kq, x6_2, rfl, HA, HJ2, ⟨mc2, rfl⟩⟩ := hcut
      cases kq with
      | zero => exact absurd HA.out (by simp [impl_owns.j0])
      | succ kj2 =>
        have H := HA.out
        clear HA
        simp only [impl_owns.j0] at H
        by_cases c7 : x6_2 = true
        · subst c7
          have H1 : (some (⟨#[68, 65]⟩ : ByteArray)) = some r := by rw [if_pos rfl] at H; exact H
          clear H
          have H := H1
          clear H1
          obtain rfl := Option.some.inj H
          go_wp2
          go_ret
          exact ⟨by first | rfl | (simp; done) | (simp [*]; done), by repeat (first | exact Drawn0.refl _ | apply Drawn0.step)⟩
        · replace c7 := Bool.eq_false_iff.mpr c7
          subst c7
          have H1 : (if a0 = 3 then (impl_owns.j1 kj2 a0 (a0 == 3)) else (if a0 = 4 then (impl_owns.j1 kj2 a0 (a0 == 4)) else (if a0 = 5 then (impl_owns.j1 kj2 a0 (a0 == 5)) else (if a0 = 6 then (impl_owns.j1 kj2 a0 (a0 == 6)) else (impl_owns.j1 kj2 a0 (a0 == 7)))))) = some r := by rw [if_neg (show ¬ (false = true) by decide)] at H; exact H
          clear H
          have H := H1
          clear H1
          have HC8 := Aside0.mk H
          clear H
          go_upto_if 11 with (fail)
          go_cut [11] (fun v11 wc => ∃ (kq : Nat) (x11_7 : Bool), v11 = .bool x11_7 ∧ Aside0 (impl_owns.j1 kq a0 x11_7 = some r) ∧ Aside0 (kq ≤ kj2) ∧ Drawn0 w wc)
          case first =>
            have H := HC8.out
            clear HC8
            by_cases c9 : a0 = 3
            · rw [if_pos c9] at H
              have c9b0 : (a0 == 3) = true := beq_iff_eq.mpr c9
              have c9b1 : (a0 != 3) = false := bne_eq_false_iff_eq.mpr c9
              clear c9
              (first | rw [c9b0] | (simp only [i64_w, i32_w]; rw [c9b0]) | skip)
              have H' := Aside0.mk H
              clear H
              go_wp2
              go_meet
              case rel => exact ⟨_, ((a0 == 3)), (by first | rfl | (simp; done) | (simp [*]; done)), H', ⟨by have := HJ2.out; first | omega | exact Nat.le_refl _⟩, by repeat (first | exact Drawn0.refl _ | apply Drawn0.step)⟩
            · rw [if_neg c9] at H
              have c9b0 : (a0 == 3) = false := beq_eq_false_iff_ne.mpr c9
              have c9b1 : (a0 != 3) = true := bne_iff_ne.mpr c9
              (first | rw [c9b0] | (simp only [i64_w, i32_w]; rw [c9b0]) | skip)
              by_cases c10 : a0 = 4
              · rw [if_pos c10] at H
                have c10b0 : (a0 == 4) = true := beq_iff_eq.mpr c10
                have c10b1 : (a0 != 4) = false := bne_eq_false_iff_eq.mpr c10
                clear c10
                have H' := Aside0.mk H
                clear H
                go_wp2
                go_meet
                case rel => exact ⟨_, ((a0 == 4)), (by first | rfl | (simp; done) | (simp [*]; done)), H', ⟨by have := HJ2.out; first | omega | exact Nat.le_refl _⟩, by repeat (first | exact Drawn0.refl _ | apply Drawn0.step)⟩
              · rw [if_neg c10] at H
                have c10b0 : (a0 == 4) = false := beq_eq_false_iff_ne.mpr c10
                have c10b1 : (a0 != 4) = true := bne_iff_ne.mpr c10
                by_cases c11 : a0 = 5
                · rw [if_pos c11] at H
                  have c11b0 : (a0 == 5) = true := beq_iff_eq.mpr c11
                  have c11b1 : (a0 != 5) = false := bne_eq_false_iff_eq.mpr c11
                  clear c11
                  have H' := Aside0.mk H
                  clear H
                  go_wp2
                  go_meet
                  case rel => exact ⟨_, ((a0 == 5)), (by first | rfl | (simp; done) | (simp [*]; done)), H', ⟨by have := HJ2.out; first | omega | exact Nat.le_refl _⟩, by repeat (first | exact Drawn0.refl _ | apply Drawn0.step)⟩
                · rw [if_neg c11] at H
                  have c11b0 : (a0 == 5) = false := beq_eq_false_iff_ne.mpr c11
                  have c11b1 : (a0 != 5) = true := bne_iff_ne.mpr c11
                  by_cases c12 : a0 = 6
                  · rw [if_pos c12] at H
                    have c12b0 : (a0 == 6) = true := beq_iff_eq.mpr c12
                    have c12b1 : (a0 != 6) = false := bne_eq_false_iff_eq.mpr c12
                    clear c12
                    have H' := Aside0.mk H
                    clear H
                    go_wp2
                    go_meet
                    case rel => exact ⟨_, ((a0 == 6)), (by first | rfl | (simp; done) | (simp [*]; done)), H', ⟨by have := HJ2.out; first | omega | exact Nat.le_refl _⟩, by repeat (first | exact Drawn0.refl _ | apply Drawn0.step)⟩
                  · rw [if_neg c12] at H
                    have c12b0 : (a0 == 6) = false := beq_eq_false_iff_ne.mpr c12
                    have c12b1 : (a0 != 6) = true := bne_iff_ne.mpr c12
                    have H' := Aside0.mk H
                    clear H
                    go_wp2
                    go_meet
                    case rel => exact ⟨_, ((a0 == 7)), (by first | rfl | (simp; done) | (simp [*]; done)), H', ⟨by have := HJ2.out; first | omega | exact Nat.le_refl _⟩, by repeat (first | exact Drawn0.refl _ | apply Drawn0.step)⟩
          case rest =>
            clear HC8
            try clear c1
            try clear c2
            try clear c2b0
            try clear c2b1
            try clear p2
            try clear c4
            try clear c4b0
            try clear c4b1
            try clear c5
            try clear c5b0
            try clear c5b1
            try clear c6
            try clear c6b0
            try clear c6b1
            try clear c7
            try clear c9
            try clear c9b0
            try clear c9b1
            try clear c10
            try clear c10b0
            try clear c10b1
            try clear c11
            try clear c11b0
            try clear c11b1
            try clear c12
            try clear c12b0
            try clear c12b1
            try clear p2
            obtain ⟨kq, x11_7, rfl, HA, HJ7, ⟨mc7, rfl⟩⟩ := hcut
            cases kq with
            | zero => exact absurd HA.out (by simp [impl_owns.j1])
            | succ kj7 =>
              have H := HA.out
              clear HA
              simp only [impl_owns.j1] at H
              by_cases c13 : x11_7 = true
              · subst c13
                have H1 : (some (⟨#[68, 65, 66]⟩ : ByteArray)) = some r := by rw [if_pos rfl] at H; exact H
                clear H
                have H := H1
                clear H1
                obtain rfl := Option.some.inj H
                go_wp2
                go_ret
                exact ⟨by first | rfl | (simp; done) | (simp [*]; done), by repeat (first | exact Drawn0.refl _ | apply Drawn0.step)⟩
              · replace c13 := Bool.eq_false_iff.mpr c13
                subst c13
                have H1 : (if a0 = 8 then (impl_owns.j2 kj7 a0 (a0 == 8)) else (impl_owns.j2 kj7 a0 (a0 == 9))) = some r := by rw [if_neg (show ¬ (false = true) by decide)] at H; exact H
                clear H
                have H := H1
                clear H1
                have HC14 := Aside0.mk H
                clear H
                go_upto_if 17 with (fail)
                go_cut [17] (fun v17 wc => ∃ (kq : Nat) (x17_13 : Bool), v17 = .bool x17_13 ∧ Aside0 (impl_owns.j2 kq a0 x17_13 = some r) ∧ Aside0 (kq ≤ kj7) ∧ Drawn0 w wc)
                case first =>
                  have H := HC14.out
                  clear HC14
                  by_cases c15 : a0 = 8
                  · rw [if_pos c15] at H
                    have c15b0 : (a0 == 8) = true := beq_iff_eq.mpr c15
                    have c15b1 : (a0 != 8) = false := bne_eq_false_iff_eq.mpr c15
                    clear c15
                    (first | rw [c15b0] | (simp only [i64_w, i32_w]; rw [c15b0]) | skip)
                    have H' := Aside0.mk H
                    clear H
                    go_wp2
                    go_meet
                    case rel => exact ⟨_, ((a0 == 8)), (by first | rfl | (simp; done) | (simp [*]; done)), H', ⟨by have := HJ2.out; have := HJ7.out; first | omega | exact Nat.le_refl _⟩, by repeat (first | exact Drawn0.refl _ | apply Drawn0.step)⟩
                  · rw [if_neg c15] at H
                    have c15b0 : (a0 == 8) = false := beq_eq_false_iff_ne.mpr c15
                    have c15b1 : (a0 != 8) = true := bne_iff_ne.mpr c15
                    (first | rw [c15b0] | (simp only [i64_w, i32_w]; rw [c15b0]) | skip)
                    have H' := Aside0.mk H
                    clear H
                    go_wp2
                    go_meet
                    case rel => exact ⟨_, ((a0 == 9)), (by first | rfl | (simp; done) | (simp [*]; done)), H', ⟨by have := HJ2.out; have := HJ7.out; first | omega | exact Nat.le_refl _⟩, by repeat (first | exact Drawn0.refl _ | apply Drawn0.step)⟩
                case rest =>
                  clear HC14
                  try clear c1
                  try clear c2
                  try clear c2b0
                  try clear c2b1
                  try clear p2
                  try clear c4
                  try clear c4b0
                  try clear c4b1
                  try clear c5
                  try clear c5b0
                  try clear c5b1
                  try clear c6
                  try clear c6b0
                  try clear c6b1
                  try clear c7
                  try clear c9
                  try clear c9b0
                  try clear c9b1
                  try clear c10
                  try clear c10b0
                  try clear c10b1
                  try clear c11
                  try clear c11b0
                  try clear c11b1
                  try clear c12
                  try clear c12b0
                  try clear c12b1
                  try clear c13
                  try clear c15
                  try clear c15b0
                  try clear c15b1
                  try clear p2
                  obtain ⟨kq, x17_13, rfl, HA, HJ13, ⟨mc13, rfl⟩⟩ := hcut
                  cases kq with
                  | zero => exact absurd HA.out (by simp [impl_owns.j2])
                  | succ kj13 =>
                    have H := HA.out
                    clear HA
                    simp only [impl_owns.j2] at H
                    by_cases c16 : x17_13 = true
                    · subst c16
                      have H1 : (some (⟨#[78]⟩ : ByteArray)) = some r := by rw [if_pos rfl] at H; exact H
                      clear H
                      have H := H1
                      clear H1
                      obtain rfl := Option.some.inj H
                      go_wp2
                      go_ret
                      exact ⟨by first | rfl | (simp; done) | (simp [*]; done), by repeat (first | exact Drawn0.refl _ | apply Drawn0.step)⟩
                    · replace c16 := Bool.eq_false_iff.mpr c16
                      subst c16
                      have H1 : (if a0 = 10 then (some (⟨#[65, 78]⟩ : ByteArray)) else (if a0 = 11 then (some (⟨#[68, 83, 88]⟩ : ByteArray)) else (if a0 = 12 then (impl_owns.j3 kj13 a0 (a0 == 12)) else (if a0 = 13 then (impl_owns.j3 kj13 a0 (a0 == 13)) else (if a0 = 18 then (impl_owns.j3 kj13 a0 (a0 == 18)) else (if a0 = 25 then (impl_owns.j3 kj13 a0 (a0 == 25)) else (impl_owns.j3 kj13 a0 (a0 == 28)))))))) = some r := by rw [if_neg (show ¬ (false = true) by decide)] at H; exact H
                      clear H
                      have H := H1
                      clear H1
                      by_cases c17 : a0 = 10
                      · rw [if_pos c17] at H
                        have c17b0 : (a0 == 10) = true := beq_iff_eq.mpr c17
                        have c17b1 : (a0 != 10) = false := bne_eq_false_iff_eq.mpr c17
                        clear c17
                        obtain rfl := Option.some.inj H
                        go_wp2
                        go_ret
                        exact ⟨by first | rfl | (simp; done) | (simp [*]; done), by repeat (first | exact Drawn0.refl _ | apply Drawn0.step)⟩
                      · rw [if_neg c17] at H
                        have c17b0 : (a0 == 10) = false := beq_eq_false_iff_ne.mpr c17
                        have c17b1 : (a0 != 10) = true := bne_iff_ne.mpr c17
                        by_cases c18 : a0 = 11
                        · rw [if_pos c18] at H
                          have c18b0 : (a0 == 11) = true := beq_iff_eq.mpr c18
                          have c18b1 : (a0 != 11) = false := bne_eq_false_iff_eq.mpr c18
                          clear c18
                          obtain rfl := Option.some.inj H
                          go_wp2
                          go_ret
                          exact ⟨by first | rfl | (simp; done) | (simp [*]; done), by repeat (first | exact Drawn0.refl _ | apply Drawn0.step)⟩
                        · rw [if_neg c18] at H
                          have c18b0 : (a0 == 11) = false := beq_eq_false_iff_ne.mpr c18
                          have c18b1 : (a0 != 11) = true := bne_iff_ne.mpr c18
                          have HC19 := Aside0.mk H
                          clear H
                          go_upto_if 24 with (fail)
                          go_cut [24] (fun v24 wc => ∃ (kq : Nat) (x24_18 : Bool), v24 = .bool x24_18 ∧ Aside0 (impl_owns.j3 kq a0 x24_18 = some r) ∧ Aside0 (kq ≤ kj13) ∧ Drawn0 w wc)
                          case first =>
                            have H := HC19.out
                            clear HC19
                            by_cases c20 : a0 = 12
                            · rw [if_pos c20] at H
                              have c20b0 : (a0 == 12) = true := beq_iff_eq.mpr c20
                              have c20b1 : (a0 != 12) = false := bne_eq_false_iff_eq.mpr c20
                              clear c20
                              (first | rw [c20b0] | (simp only [i64_w, i32_w]; rw [c20b0]) | skip)
                              have H' := Aside0.mk H
                              clear H
                              go_wp2
                              go_meet
                              case rel => exact ⟨_, ((a0 == 12)), (by first | rfl | (simp; done) | (simp [*]; done)), H', ⟨by have := HJ2.out; have := HJ7.out; have := HJ13.out; first | omega | exact Nat.le_refl _⟩, by repeat (first | exact Drawn0.refl _ | apply Drawn0.step)⟩
                            · rw [if_neg c20] at H
                              have c20b0 : (a0 == 12) = false := beq_eq_false_iff_ne.mpr c20
                              have c20b1 : (a0 != 12) = true := bne_iff_ne.mpr c20
                              (first | rw [c20b0] | (simp only [i64_w, i32_w]; rw [c20b0]) | skip)
                              by_cases c21 : a0 = 13
                              · rw [if_pos c21] at H
                                have c21b0 : (a0 == 13) = true := beq_iff_eq.mpr c21
                                have c21b1 : (a0 != 13) = false := bne_eq_false_iff_eq.mpr c21
                                clear c21
                                have H' := Aside0.mk H
                                clear H
                                go_wp2
                                go_meet
                                case rel => exact ⟨_, ((a0 == 13)), (by first | rfl | (simp; done) | (simp [*]; done)), H', ⟨by have := HJ2.out; have := HJ7.out; have := HJ13.out; first | omega | exact Nat.le_refl _⟩, by repeat (first | exact Drawn0.refl _ | apply Drawn0.step)⟩
                              · rw [if_neg c21] at H
                                have c21b0 : (a0 == 13) = false := beq_eq_false_iff_ne.mpr c21
                                have c21b1 : (a0 != 13) = true := bne_iff_ne.mpr c21
                                by_cases c22 : a0 = 18
                                · rw [if_pos c22] at H
                                  have c22b0 : (a0 == 18) = true := beq_iff_eq.mpr c22
                                  have c22b1 : (a0 != 18) = false := bne_eq_false_iff_eq.mpr c22
                                  clear c22
                                  have H' := Aside0.mk H
                                  clear H
                                  go_wp2
                                  go_meet
                                  case rel => exact ⟨_, ((a0 == 18)), (by first | rfl | (simp; done) | (simp [*]; done)), H', ⟨by have := HJ2.out; have := HJ7.out; have := HJ13.out; first | omega | exact Nat.le_refl _⟩, by repeat (first | exact Drawn0.refl _ | apply Drawn0.step)⟩
                                · rw [if_neg c22] at H
                                  have c22b0 : (a0 == 18) = false := beq_eq_false_iff_ne.mpr c22
                                  have c22b1 : (a0 != 18) = true := bne_iff_ne.mpr c22
                                  by_cases c23 : a0 = 25
                                  · rw [if_pos c23] at H
                                    have c23b0 : (a0 == 25) = true := beq_iff_eq.mpr c23
                                    have c23b1 : (a0 != 25) = false := bne_eq_false_iff_eq.mpr c23
                                    clear c23
                                    have H' := Aside0.mk H
                                    clear H
                                    go_wp2
                                    go_meet
                                    case rel => exact ⟨_, ((a0 == 25)), (by first | rfl | (simp; done) | (simp [*]; done)), H', ⟨by have := HJ2.out; have := HJ7.out; have := HJ13.out; first | omega | exact Nat.le_refl _⟩, by repeat (first | exact Drawn0.refl _ | apply Drawn0.step)⟩
                                  · rw [if_neg c23] at H
                                    have c23b0 : (a0 == 25) = false := beq_eq_false_iff_ne.mpr c23
                                    have c23b1 : (a0 != 25) = true := bne_iff_ne.mpr c23
                                    have H' := Aside0.mk H
                                    clear H
                                    go_wp2
                                    go_meet
                                    case rel => exact ⟨_, ((a0 == 28)), (by first | rfl | (simp; done) | (simp [*]; done)), H', ⟨by have := HJ2.out; have := HJ7.out; have := HJ13.out; first | omega | exact Nat.le_refl _⟩, by repeat (first | exact Drawn0.refl _ | apply Drawn0.step)⟩
                          case rest =>
                            clear HC19
                            try clear c1
                            try clear c2
                            try clear c2b0
                            try clear c2b1
                            try clear p2
                            try clear c4
                            try clear c4b0
                            try clear c4b1
                            try clear c5
                            try clear c5b0
                            try clear c5b1
                            try clear c6
                            try clear c6b0
                            try clear c6b1
                            try clear c7
                            try clear c9
                            try clear c9b0
                            try clear c9b1
                            try clear c10
                            try clear c10b0
                            try clear c10b1
                            try clear c11
                            try clear c11b0
                            try clear c11b1
                            try clear c12
                            try clear c12b0
                            try clear c12b1
                            try clear c13
                            try clear c15
                            try clear c15b0
                            try clear c15b1
                            try clear c16
                            try clear c17
                            try clear c17b0
                            try clear c17b1
                            try clear c18
                            try clear c18b0
                            try clear c18b1
                            try clear c20
                            try clear c20b0
                            try clear c20b1
                            try clear c21
                            try clear c21b0
                            try clear c21b1
                            try clear c22
                            try clear c22b0
                            try clear c22b1
                            try clear c23
                            try clear c23b0
                            try clear c23b1
                            try clear p2
                            obtain ⟨kq, x24_18, rfl, HA, HJ18, ⟨mc18, rfl⟩⟩ := hcut
                            cases kq with
                            | zero => exact absurd HA.out (by simp [impl_owns.j3])
                            | succ kj18 =>
                              have H := HA.out
                              clear HA
                              simp only [impl_owns.j3] at H
                              by_cases c24 : x24_18 = true
                              · subst c24
                                have H1 : (some (⟨#[65]⟩ : ByteArray)) = some r := by rw [if_pos rfl] at H; exact H
                                clear H
                                have H := H1
                                clear H1
                                obtain rfl := Option.some.inj H
                                go_wp2
                                go_ret
                                exact ⟨by first | rfl | (simp; done) | (simp [*]; done), by repeat (first | exact Drawn0.refl _ | apply Drawn0.step)⟩
                              · replace c24 := Bool.eq_false_iff.mpr c24
                                subst c24
                                have H1 : (if a0 = 14 then (some (⟨#[83, 88]⟩ : ByteArray)) else (if a0 = 16 then (impl_owns.j4 kj18 a0 (a0 == 16)) else (if a0 = 21 then (impl_owns.j4 kj18 a0 (a0 == 21)) else (if a0 = 26 then (impl_owns.j4 kj18 a0 (a0 == 26)) else (impl_owns.j4 kj18 a0 (a0 == 27)))))) = some r := by rw [if_neg (show ¬ (false = true) by decide)] at H; exact H
                                clear H
                                have H := H1
                                clear H1
                                by_cases c25 : a0 = 14
                                · rw [if_pos c25] at H
                                  have c25b0 : (a0 == 14) = true := beq_iff_eq.mpr c25
                                  have c25b1 : (a0 != 14) = false := bne_eq_false_iff_eq.mpr c25
                                  clear c25
                                  obtain rfl := Option.some.inj H
                                  go_wp2
                                  go_ret
                                  exact ⟨by first | rfl | (simp; done) | (simp [*]; done), by repeat (first | exact Drawn0.refl _ | apply Drawn0.step)⟩
                                · rw [if_neg c25] at H
                                  have c25b0 : (a0 == 14) = false := beq_eq_false_iff_ne.mpr c25
                                  have c25b1 : (a0 != 14) = true := bne_iff_ne.mpr c25
                                  have HC26 := Aside0.mk H
                                  clear H
                                  go_upto_if 32 with (fail)
                                  go_cut [32] (fun v32 wc => ∃ (kq : Nat) (x32_25 : Bool), v32 = .bool x32_25 ∧ Aside0 (impl_owns.j4 kq a0 x32_25 = some r) ∧ Aside0 (kq ≤ kj18) ∧ Drawn0 w wc)
                                  case first =>
                                    have H := HC26.out
                                    clear HC26
                                    by_cases c27 : a0 = 16
                                    · rw [if_pos c27] at H
                                      have c27b0 : (a0 == 16) = true := beq_iff_eq.mpr c27
                                      have c27b1 : (a0 != 16) = false := bne_eq_false_iff_eq.mpr c27
                                      clear c27
                                      (first | rw [c27b0] | (simp only [i64_w, i32_w]; rw [c27b0]) | skip)
                                      have H' := Aside0.mk H
                                      clear H
                                      go_wp2
                                      go_meet
                                      case rel => exact ⟨_, ((a0 == 16)), (by first | rfl | (simp; done) | (simp [*]; done)), H', ⟨by have := HJ2.out; have := HJ7.out; have := HJ13.out; have := HJ18.out; first | omega | exact Nat.le_refl _⟩, by repeat (first | exact Drawn0.refl _ | apply Drawn0.step)⟩
                                    · rw [if_neg c27] at H
                                      have c27b0 : (a0 == 16) = false := beq_eq_false_iff_ne.mpr c27
                                      have c27b1 : (a0 != 16) = true := bne_iff_ne.mpr c27
                                      (first | rw [c27b0] | (simp only [i64_w, i32_w]; rw [c27b0]) | skip)
                                      by_cases c28 : a0 = 21
                                      · rw [if_pos c28] at H
                                        have c28b0 : (a0 == 21) = true := beq_iff_eq.mpr c28
                                        have c28b1 : (a0 != 21) = false := bne_eq_false_iff_eq.mpr c28
                                        clear c28
                                        have H' := Aside0.mk H
                                        clear H
                                        go_wp2
                                        go_meet
                                        case rel => exact ⟨_, ((a0 == 21)), (by first | rfl | (simp; done) | (simp [*]; done)), H', ⟨by have := HJ2.out; have := HJ7.out; have := HJ13.out; have := HJ18.out; first | omega | exact Nat.le_refl _⟩, by repeat (first | exact Drawn0.refl _ | apply Drawn0.step)⟩
                                      · rw [if_neg c28] at H
                                        have c28b0 : (a0 == 21) = false := beq_eq_false_iff_ne.mpr c28
                                        have c28b1 : (a0 != 21) = true := bne_iff_ne.mpr c28
                                        by_cases c29 : a0 = 26
                                        · rw [if_pos c29] at H
                                          have c29b0 : (a0 == 26) = true := beq_iff_eq.mpr c29
                                          have c29b1 : (a0 != 26) = false := bne_eq_false_iff_eq.mpr c29
                                          clear c29
                                          have H' := Aside0.mk H
                                          clear H
                                          go_wp2
                                          go_meet
                                          case rel => exact ⟨_, ((a0 == 26)), (by first | rfl | (simp; done) | (simp [*]; done)), H', ⟨by have := HJ2.out; have := HJ7.out; have := HJ13.out; have := HJ18.out; first | omega | exact Nat.le_refl _⟩, by repeat (first | exact Drawn0.refl _ | apply Drawn0.step)⟩
                                        · rw [if_neg c29] at H
                                          have c29b0 : (a0 == 26) = false := beq_eq_false_iff_ne.mpr c29
                                          have c29b1 : (a0 != 26) = true := bne_iff_ne.mpr c29
                                          have H' := Aside0.mk H
                                          clear H
                                          go_wp2
                                          go_meet
                                          case rel => exact ⟨_, ((a0 == 27)), (by first | rfl | (simp; done) | (simp [*]; done)), H', ⟨by have := HJ2.out; have := HJ7.out; have := HJ13.out; have := HJ18.out; first | omega | exact Nat.le_refl _⟩, by repeat (first | exact Drawn0.refl _ | apply Drawn0.step)⟩
                                  case rest =>
                                    clear HC26
                                    try clear c1
                                    try clear c2
                                    try clear c2b0
                                    try clear c2b1
                                    try clear p2
                                    try clear c4
                                    try clear c4b0
                                    try clear c4b1
                                    try clear c5
                                    try clear c5b0
                                    try clear c5b1
                                    try clear c6
                                    try clear c6b0
                                    try clear c6b1
                                    try clear c7
                                    try clear c9
                                    try clear c9b0
                                    try clear c9b1
                                    try clear c10
                                    try clear c10b0
                                    try clear c10b1
                                    try clear c11
                                    try clear c11b0
                                    try clear c11b1
                                    try clear c12
                                    try clear c12b0
                                    try clear c12b1
                                    try clear c13
                                    try clear c15
                                    try clear c15b0
                                    try clear c15b1
                                    try clear c16
                                    try clear c17
                                    try clear c17b0
                                    try clear c17b1
                                    try clear c18
                                    try clear c18b0
                                    try clear c18b1
                                    try clear c20
                                    try clear c20b0
                                    try clear c20b1
                                    try clear c21
                                    try clear c21b0
                                    try clear c21b1
                                    try clear c22
                                    try clear c22b0
                                    try clear c22b1
                                    try clear c23
                                    try clear c23b0
                                    try clear c23b1
                                    try clear c24
                                    try clear c25
                                    try clear c25b0
                                    try clear c25b1
                                    try clear c27
                                    try clear c27b0
                                    try clear c27b1
                                    try clear c28
                                    try clear c28b0
                                    try clear c28b1
                                    try clear c29
                                    try clear c29b0
                                    try clear c29b1
                                    try clear p2
                                    obtain ⟨kq, x32_25, rfl, HA, HJ25, ⟨mc25, rfl⟩⟩ := hcut
                                    cases kq with
                                    | zero => exact absurd HA.out (by simp [impl_owns.j4])
                                    | succ kj25 =>
                                      have H := HA.out
                                      clear HA
                                      simp only [impl_owns.j4] at H
                                      by_cases c30 : x32_25 = true
                                      · subst c30
                                        have H1 : (some (⟨#[65, 66]⟩ : ByteArray)) = some r := by rw [if_pos rfl] at H; exact H
                                        clear H
                                        have H := H1
                                        clear H1
                                        obtain rfl := Option.some.inj H
                                        go_wp2
                                        go_ret
                                        exact ⟨by first | rfl | (simp; done) | (simp [*]; done), by repeat (first | exact Drawn0.refl _ | apply Drawn0.step)⟩
                                      · replace c30 := Bool.eq_false_iff.mpr c30
                                        subst c30
                                        have H1 : (if a0 = 19 then (some (⟨#[68, 66, 78, 88]⟩ : ByteArray)) else (if a0 = 22 then (some (⟨#[68, 65, 66, 88]⟩ : ByteArray)) else (if a0 = 23 then (some (⟨#[68]⟩ : ByteArray)) else (if a0 = 24 then (some (⟨#[68, 83]⟩ : ByteArray)) else (some (⟨#[]⟩ : ByteArray)))))) = some r := by rw [if_neg (show ¬ (false = true) by decide)] at H; exact H
                                        clear H
                                        have H := H1
                                        clear H1
                                        by_cases c31 : a0 = 19
                                        · rw [if_pos c31] at H
                                          have c31b0 : (a0 == 19) = true := beq_iff_eq.mpr c31
                                          have c31b1 : (a0 != 19) = false := bne_eq_false_iff_eq.mpr c31
                                          clear c31
                                          obtain rfl := Option.some.inj H
                                          go_wp2
                                          go_ret
                                          exact ⟨by first | rfl | (simp; done) | (simp [*]; done), by repeat (first | exact Drawn0.refl _ | apply Drawn0.step)⟩
                                        · rw [if_neg c31] at H
                                          have c31b0 : (a0 == 19) = false := beq_eq_false_iff_ne.mpr c31
                                          have c31b1 : (a0 != 19) = true := bne_iff_ne.mpr c31
                                          by_cases c32 : a0 = 22
                                          · rw [if_pos c32] at H
                                            have c32b0 : (a0 == 22) = true := beq_iff_eq.mpr c32
                                            have c32b1 : (a0 != 22) = false := bne_eq_false_iff_eq.mpr c32
                                            clear c32
                                            obtain rfl := Option.some.inj H
                                            go_wp2
                                            go_ret
                                            exact ⟨by first | rfl | (simp; done) | (simp [*]; done), by repeat (first | exact Drawn0.refl _ | apply Drawn0.step)⟩
                                          · rw [if_neg c32] at H
                                            have c32b0 : (a0 == 22) = false := beq_eq_false_iff_ne.mpr c32
                                            have c32b1 : (a0 != 22) = true := bne_iff_ne.mpr c32
                                            by_cases c33 : a0 = 23
                                            · rw [if_pos c33] at H
                                              have c33b0 : (a0 == 23) = true := beq_iff_eq.mpr c33
                                              have c33b1 : (a0 != 23) = false := bne_eq_false_iff_eq.mpr c33
                                              clear c33
                                              obtain rfl := Option.some.inj H
                                              go_wp2
                                              go_ret
                                              exact ⟨by first | rfl | (simp; done) | (simp [*]; done), by repeat (first | exact Drawn0.refl _ | apply Drawn0.step)⟩
                                            · rw [if_neg c33] at H
                                              have c33b0 : (a0 == 23) = false := beq_eq_false_iff_ne.mpr c33
                                              have c33b1 : (a0 != 23) = true := bne_iff_ne.mpr c33
                                              by_cases c34 : a0 = 24
                                              · rw [if_pos c34] at H
                                                have c34b0 : (a0 == 24) = true := beq_iff_eq.mpr c34
                                                have c34b1 : (a0 != 24) = false := bne_eq_false_iff_eq.mpr c34
                                                clear c34
                                                obtain rfl := Option.some.inj H
                                                go_wp2
                                                go_ret
                                                exact ⟨by first | rfl | (simp; done) | (simp [*]; done), by repeat (first | exact Drawn0.refl _ | apply Drawn0.step)⟩
                                              · rw [if_neg c34] at H
                                                have c34b0 : (a0 == 24) = false := beq_eq_false_iff_ne.mpr c34
                                                have c34b1 : (a0 != 24) = true := bne_iff_ne.mpr c34
                                                obtain rfl := Option.some.inj H
                                                go_wp2
                                                go_ret
                                                exact ⟨by first | rfl | (simp; done) | (simp [*]; done), by repeat (first | exact Drawn0.refl _ | apply Drawn0.step)⟩

theorem bytes_event {P : Program} {ops : Array Oper} {rest : List Oper} {o : Oper} {a : Act} {Q : Exit → Act → World → Prop} {w0 W : World} (base e src dst : Nat) (hgd : o.guard = none) {N : Tmp} (_hd : o.dst = some N) (x : Operand) (ho : o.op = .convert src dst x) {s : ByteArray} (hx : a.eval x = .string s)
    (hs : P.underlying src = some .string) (ht : P.underlying dst = some (.slice e)) (he : P.underlying e = some (.int .u8)) (HB : Below base w0 W) (hbase : base ≤ W.heap.size) (hm : s.size ≤ 9223372036854775807)
    (h : ∀ A c w1, Kd.C (Kd.int .u8) w1 A (s.toList.map fun z_ => (z_.toNat : Int)).length (s.toList.map fun z_ => (z_.toNat : Int)) → (s.toList.map fun z_ => (z_.toNat : Int)).length ≤ c → Below base w0 w1 →
      wpList P ops Q rest (a.put o.dst (.slice A (s.toList.map fun z_ => (z_.toNat : Int)).length c)) w1) : wpList P ops Q (o :: rest) a W := by
  have hl : (s.toList.map fun z_ => (z_.toNat : Int)).length = s.size := by
    rw [List.length_map, ByteArray.toList_eq, Array.length_toList]; rfl
  have hr := run_bytes_of_string (P := P) W src dst e s hs ht he
  generalize hg : grownCap W s.size 0 e = cap at hr
  have hcap : s.size ≤ cap := by rw [← hg]; exact grownCap_ge W s.size 0 e
  have hrun : (execOp a.eval o).run P W = .ok (.value (.slice (some ⟨W.heap.size, 0, none⟩) s.size cap)) (W.drew.alloc (.cells (bytesRow s cap) e ((bytesRow s cap).size, (bytesRow s cap).size + 1))) := by
    unfold execOp
    rw [ho]
    simp only [hx]
    simp [hr]
  refine Kd.event_run hgd hrun ?_
  rw [← hl]
  refine h _ _ _ ⟨rfl, by rw [hl]; exact hm, fun _ => ⟨_, rfl, fun j p hj => ?_⟩⟩ (by rw [hl]; exact hcap) (HB.drew.alloc hbase _)
  obtain ⟨hjl, hp⟩ := List.getElem?_eq_some_iff.1 hj
  have hjs : j < s.toList.length := by simpa using hjl
  have hjd : j < s.data.size := by rw [ByteArray.toList_eq, Array.length_toList] at hjs; exact hjs
  refine ⟨[.int .u8 p], rfl, rfl, fun i u hi => ?_⟩
  cases i with
  | succ i => simp at hi
  | zero =>
    have hu : Value.int .u8 p = u := by simpa using hi
    subst hu
    have hp2 : p = (s.data[j].toNat : Int) := by
      rw [← hp, List.getElem_map]
      simp [ByteArray.toList_eq]
    have hcell : (bytesRow s cap)[j]? = some (.int .u8 p) := by
      unfold bytesRow
      rw [Array.getElem?_append_left (by simpa using hjd)]
      rw [Array.getElem?_map, Array.getElem?_eq_getElem hjd]
      simp [hp2]
    have hheap : (W.drew.alloc (.cells (bytesRow s cap) e ((bytesRow s cap).size, (bytesRow s cap).size + 1))).heap[W.heap.size]? = some (.cells (bytesRow s cap) e ((bytesRow s cap).size, (bytesRow s cap).size + 1)) := by
      show (W.heap.push _)[W.heap.size]? = _
      simp
    have hoff : j * (Kd.int .u8).sz + 0 = j := by
      show j * 1 + 0 = j
      omega
    rw [hoff]
    have ha : (⟨W.heap.size, 0, none⟩ : Addr).add j = ⟨W.heap.size, j, none⟩ := by
      unfold Addr.add
      by_cases h0 : j = 0
      · subst h0; simp
      · simp [h0]
    rw [ha]
    unfold World.cell?
    simp only [hheap]
    simpa using hcell

/-! ### impl_owned: function 103 -/
def impl_owned.f (k : Nat) (a0 : Int) (a1 : Int) : Option (Bool) := (impl_owns.f k a0).bind fun t155 => (if t155.size ≤ 9223372036854775807 then ((slices_Contains_byte.f k ((t155.toList.map fun z_ => (z_.toNat : Int))) a1).bind fun t159 => (some t159)) else (none))
theorem impl_owned.mono : ∀ a0 a1 k, LeO (impl_owned.f k a0 a1) (impl_owned.f (k + 1) a0 a1) := by
  intro a0 a1 k
  unfold impl_owned.f
  repeat' first
      | (with_reducible exact impl_owns.mono _ _)
      | (with_reducible exact slices_Contains_byte.mono _ _ _)
      | (with_reducible exact LeO.refl _)
      | (with_reducible exact LeO.none _)
      | (with_reducible refine LeO.ite ?_ ?_)
      | (with_reducible refine LeO.bind ?_ (fun _ => ?_))
      | exact impl_owns.mono _ _
      | exact slices_Contains_byte.mono _ _ _
      | exact LeO.none _
      | refine LeO.ite ?_ ?_
      | refine LeO.bind ?_ (fun _ => ?_)
set_option maxHeartbeats 8000000 in
set_option maxRecDepth 100000 in
theorem impl_owned.calls (k : Nat) (a0 : Int) (a1 : Int) (r : Bool) (w : World) (h : impl_owned.f k a0 a1 = some r) :
    Calls Try.prog 103 #[.int .i64 a0, .int .u8 a1] w fun e w' => e = .returned (.bool r) ∧ Below w.heap.size w w' := by
  have HB := Aside0.mk (Below.refl w.heap.size w)
  have H : ((impl_owns.f k a0).bind fun t155 => (if t155.size ≤ 9223372036854775807 then ((slices_Contains_byte.f k ((t155.toList.map fun z_ => (z_.toNat : Int))) a1).bind fun t159 => (some t159)) else (none))) = some r := h
  clear h
  replace H := Option.bind_eq_some_iff.mp H
  obtain ⟨t155, A30, H⟩ := H
  replace H : (if t155.size ≤ 9223372036854775807 then ((slices_Contains_byte.f k ((t155.toList.map fun z_ => (z_.toNat : Int))) a1).bind fun t159 => (some t159)) else (none)) = some r := H
  have A3 := Aside0.mk A30
  clear A30
  by_cases c4 : t155.size ≤ 9223372036854775807
  · rw [if_pos c4] at H
    have c4b0 := eq_true c4
    have c4b1 : decide (t155.size ≤ 9223372036854775807) = true := decide_eq_true c4
    try have c4b2 : (9223372036854775807 < t155.size) = False := eq_false (Nat.not_lt.2 c4)
    clear c4
    obtain ⟨y156, hy156⟩ : ∃ y_ : List Int, y_ = ((t155.toList.map fun z_ => (z_.toNat : Int))) := ⟨_, rfl⟩
    replace H : ((slices_Contains_byte.f k y156 a1).bind fun t159 => (some t159)) = some r := by first | (rw [hy156]; with_reducible exact H) | (have H2_ := (Option.bind_some _ _).symm.trans H; rw [hy156]; with_reducible exact H2_) | (have H2_ := (Option.bind_some _ _).symm.trans H; with_reducible exact H2_) | with_reducible exact H | (rw [hy156]; exact H) | exact H
    have Ny156 := Aside0.mk hy156
    clear hy156
    replace H := Option.bind_eq_some_iff.mp H
    obtain ⟨t159, A50, H⟩ := H
    replace H : (some t159) = some r := H
    have A5 := Aside0.mk A50
    clear A50
    obtain rfl := Option.some.inj H
    go_enter Try.func103, Try.ntmps103
    go_wp2_with (first | ((with_reducible refine gate_callee (f := 116) rfl ?_); refine goesL_ (some 6) rfl rfl Try.func116 (by kernel_rfl) rfl #[.int .i64 a0] rfl (by (try simp only [List.map_toArray, List.map_cons, List.map_nil]); first | done | rfl | (simp only [List.length_drop, List.length_take]; rfl)) ?_; (with_reducible refine (impl_owns.calls k a0 t155 _ A3.out).mono ?_); rintro e w' ⟨rfl, ⟨nd, rfl⟩⟩; refine ⟨_, rfl, ?_⟩) | ((with_reducible refine gate_dst (N := 7) rfl ?_); refine bytes_event (w0 := w) w.heap.size 5 9 66 ?hg (N := 7) ?hd ?hx_ ?ho (s := t155) ?hx Try.underlying9 Try.underlying66 Try.underlying5 ?hB ?hbs ?hm ?_; (case hd => rfl); (case hg => rfl); (case ho => rfl); (case hx => rfl); (case hB => repeat (first | (with_reducible first | exact HB.out | apply below_alloc | apply pw_below_drewN | apply below_drew1) | exact HB.out)); (case hbs => exact below_size (by repeat (first | (with_reducible first | exact HB.out | apply below_alloc | apply pw_below_drewN | apply below_drew1) | exact HB.out))); (case hm => first | assumption | exact of_eq_true (by assumption)); intro Ao8 co8 wB_ hC_ hc_ hb; rw [← Ny156.out] at hC_ hc_ ⊢; have HCHO158 := Aside0.mk hC_; have HcHO158 := Aside0.mk hc_; clear hC_ hc_; have n1_ := Aside0.mk hb; clear HB; have HB := n1_; clear n1_; clear hb) | ((with_reducible refine gate_callee (f := 115) rfl ?_); refine goesL_ (some 9) rfl rfl Try.func115 (by kernel_rfl) rfl #[.slice Ao8 y156.length co8, .int .u8 a1] rfl (by (try simp only [List.map_toArray, List.map_cons, List.map_nil]); first | done | rfl | (simp only [List.length_drop, List.length_take]; rfl)) ?_; (with_reducible refine (slices_Contains_byte.calls k _ _ y156 a1 t159 _ ?side1 ?side2 A5.out).mono ?_); (case side1 => repeat (first | exact HCHO158.out | (with_reducible refine Kd.C_alloc ?_ _) | (with_reducible refine Kd.C_drewN ?_ _) | (with_reducible refine Kd.C_drew ?_))); (case side2 => exact HcHO158.out); rintro e w' ⟨rfl, ⟨nd, rfl⟩⟩; refine ⟨_, rfl, ?_⟩))
    go_ret
    exact ⟨by first | rfl | (simp [errW_none, errW_some] <;> rfl) | (simp [*, errW_none, errW_some] <;> rfl), by repeat (first | (with_reducible first | exact HB.out | apply below_alloc | apply pw_below_drewN | apply below_drew1) | exact HB.out)⟩
  · rw [if_neg c4] at H
    exact absurd H (by simp)

end Go.Proofs.Ytbbknoaceccgmaa.XFnExactUses
