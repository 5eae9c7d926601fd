/- Contracts of functions of the program, several texts joined. -/
import Derived.Test.YtppdckjgdamlnaaQ0
import Derived.Test.YtppdckjgdamlnaaMB
namespace Go.Proofs.Ytppdckjgdamlnaa.Q
open Go.RowKit Go.Proofs.YtppdckjgdamlnaaW.PrintWords Go.Proofs.YtppdckjgdamlnaaW.PrintLast Go.Proofs.YtppdckjgdamlnaaW.PrintMore
attribute [local go_sem] max2_int min2_int max_two min_two max_three min_three max_four min_four   -- for this text's walks alone
set_option linter.unusedVariables false
set_option linter.unusedSimpArgs false

/-! ### coulombref01_whole: function 80 -/
mutual
def coulombref01_whole.l0 : Nat → Int → Int → Int → Int → Int → Int → Option (Int × Int)
  | 0, _, _, _, _, _, _ => none
  | k + 1, x0, x1, x2, x8, x9, x10 => if x10 ≥ 0 then (if 0 ≤ (IntKind.u64.wrap (x10)) then (if (Int.tmod (shr .i64 x1 (IntKind.u64.wrap (x10))) 2) = 1 then (if x2 = 0 then (none) else (coulombref01_whole.j1 k x0 x1 x2 (wrap64 ((wrap64 (2 * x8)) + (wrap64 (Int.tdiv x0 x2)))) (wrap64 ((wrap64 (2 * x9)) + (Int.tmod x0 x2))) x10)) else (coulombref01_whole.j1 k x0 x1 x2 (wrap64 (2 * x8)) (wrap64 (2 * x9)) x10)) else (none)) else (some (x8, x9))
def coulombref01_whole.j1 : Nat → Int → Int → Int → Int → Int → Int → Option (Int × Int)
  | 0, _, _, _, _, _, _ => none
  | k + 1, x0, x1, x2, x8, x9, x10 => coulombref01_whole.l1 k x0 x1 x2 x8 x9 x10
def coulombref01_whole.l1 : Nat → Int → Int → Int → Int → Int → Int → Option (Int × Int)
  | 0, _, _, _, _, _, _ => none
  | k + 1, x0, x1, x2, x8, x9, x10 => if x9 ≥ x2 then (coulombref01_whole.l1 k x0 x1 x2 (wrap64 (x8 + 1)) (wrap64 (x9 - x2)) x10) else (if x8 > 288230376151711744 then (some (1152921504606846976, 0)) else (coulombref01_whole.l0 k x0 x1 x2 x8 x9 (wrap64 (x10 - 1))))
end
def coulombref01_whole.f (k : Nat) (a0 : Int) (a1 : Int) (a2 : Int) : Option (Int × Int) := coulombref01_whole.l0 k a0 a1 a2 0 0 43
theorem coulombref01_whole.mono_l : ∀ k, (∀ y0 y1 y2 y3 y4 y5, LeO (coulombref01_whole.l0 k y0 y1 y2 y3 y4 y5) (coulombref01_whole.l0 (k + 1) y0 y1 y2 y3 y4 y5)) ∧ (∀ y0 y1 y2 y3 y4 y5, LeO (coulombref01_whole.j1 k y0 y1 y2 y3 y4 y5) (coulombref01_whole.j1 (k + 1) y0 y1 y2 y3 y4 y5)) ∧ (∀ y0 y1 y2 y3 y4 y5, LeO (coulombref01_whole.l1 k y0 y1 y2 y3 y4 y5) (coulombref01_whole.l1 (k + 1) y0 y1 y2 y3 y4 y5))
  | 0 => ⟨fun _ _ _ _ _ _ r h => by simp [coulombref01_whole.l0] at h, fun _ _ _ _ _ _ r h => by simp [coulombref01_whole.j1] at h, fun _ _ _ _ _ _ r h => by simp [coulombref01_whole.l1] at h⟩
  | k + 1 => by
    obtain ⟨ih0, ih1, ih2⟩ := coulombref01_whole.mono_l k
    refine ⟨?_, ?_, ?_⟩
    · intro y0 y1 y2 y3 y4 y5
      unfold coulombref01_whole.l0
      repeat' first
      | (with_reducible exact ih0 _ _ _ _ _ _)
      | (with_reducible exact ih1 _ _ _ _ _ _)
      | (with_reducible exact ih2 _ _ _ _ _ _)
      | (with_reducible exact LeO.refl _)
      | (with_reducible exact LeO.none _)
      | (with_reducible refine LeO.ite ?_ ?_)
      | (with_reducible refine LeO.bind ?_ (fun _ => ?_))
      | exact ih0 _ _ _ _ _ _
      | exact ih1 _ _ _ _ _ _
      | exact ih2 _ _ _ _ _ _
      | exact LeO.none _
      | refine LeO.ite ?_ ?_
      | refine LeO.bind ?_ (fun _ => ?_)
    · intro y0 y1 y2 y3 y4 y5
      unfold coulombref01_whole.j1
      repeat' first
      | (with_reducible exact ih0 _ _ _ _ _ _)
      | (with_reducible exact ih1 _ _ _ _ _ _)
      | (with_reducible exact ih2 _ _ _ _ _ _)
      | (with_reducible exact LeO.refl _)
      | (with_reducible exact LeO.none _)
      | (with_reducible refine LeO.ite ?_ ?_)
      | (with_reducible refine LeO.bind ?_ (fun _ => ?_))
      | exact ih0 _ _ _ _ _ _
      | exact ih1 _ _ _ _ _ _
      | exact ih2 _ _ _ _ _ _
      | exact LeO.none _
      | refine LeO.ite ?_ ?_
      | refine LeO.bind ?_ (fun _ => ?_)
    · intro y0 y1 y2 y3 y4 y5
      unfold coulombref01_whole.l1
      repeat' first
      | (with_reducible exact ih0 _ _ _ _ _ _)
      | (with_reducible exact ih1 _ _ _ _ _ _)
      | (with_reducible exact ih2 _ _ _ _ _ _)
      | (with_reducible exact LeO.refl _)
      | (with_reducible exact LeO.none _)
      | (with_reducible refine LeO.ite ?_ ?_)
      | (with_reducible refine LeO.bind ?_ (fun _ => ?_))
      | exact ih0 _ _ _ _ _ _
      | exact ih1 _ _ _ _ _ _
      | exact ih2 _ _ _ _ _ _
      | exact LeO.none _
      | refine LeO.ite ?_ ?_
      | refine LeO.bind ?_ (fun _ => ?_)
theorem coulombref01_whole.mono : ∀ a0 a1 a2 k, LeO (coulombref01_whole.f k a0 a1 a2) (coulombref01_whole.f (k + 1) a0 a1 a2) := by
  intro a0 a1 a2 k
  obtain ⟨ih0, ih1, ih2⟩ := coulombref01_whole.mono_l k
  unfold coulombref01_whole.f
  repeat' first
      | (with_reducible exact ih0 _ _ _ _ _ _)
      | (with_reducible exact ih1 _ _ _ _ _ _)
      | (with_reducible exact ih2 _ _ _ _ _ _)
      | (with_reducible exact LeO.refl _)
      | (with_reducible exact LeO.none _)
      | (with_reducible refine LeO.ite ?_ ?_)
      | (with_reducible refine LeO.bind ?_ (fun _ => ?_))
      | exact ih0 _ _ _ _ _ _
      | exact ih1 _ _ _ _ _ _
      | exact ih2 _ _ _ _ _ _
      | exact LeO.none _
      | refine LeO.ite ?_ ?_
      | refine LeO.bind ?_ (fun _ => ?_)
set_option maxHeartbeats 8000000 in
set_option maxRecDepth 100000 in
theorem coulombref01_whole.calls (k : Nat) (a0 : Int) (a1 : Int) (a2 : Int) (r1 : Int) (r2 : Int) (w : World) (h : coulombref01_whole.f k a0 a1 a2 = some (r1, r2)) :
    Calls Try.prog 80 #[.int .i64 a0, .int .i64 a1, .int .i64 a2] w fun e w' => e = .returned (.tuple #[.int .i64 r1, .int .i64 r2]) ∧ Drawn0 w w' := by
  have H : (coulombref01_whole.l0 k a0 a1 a2 0 0 43) = some (r1, r2) := h
  clear h
  have H' := Aside0.mk H
  clear H
  go_enter Try.func80, Try.ntmps80
  go_wp2
  go_loopg [8, 9, 10] k (fun kq v8 v9 v10 w' => ∃ (x8_1 : Int) (x9_1 : Int) (x10_1 : Int), v8 = .int .i64 x8_1 ∧ v9 = .int .i64 x9_1 ∧ v10 = .int .i64 x10_1 ∧ Aside0 (coulombref01_whole.l0 kq a0 a1 a2 x8_1 x9_1 x10_1 = some (r1, r2)) ∧ Aside0 (kq ≤ k) ∧ Drawn0 w w')
  case atStart => exact ⟨(0), (0), (43), (by first | rfl | (simp; done) | (simp [*]; done)), (by first | rfl | (simp; done) | (simp [*]; done)), (by first | rfl | (simp; done) | (simp [*]; done)), H', ⟨Nat.le_refl _⟩, by repeat (first | exact Drawn0.refl _ | apply Drawn0.step)⟩
  case round =>
    clear H'
    try clear p2
    obtain ⟨x8_1, x9_1, x10_1, rfl, rfl, rfl, HA, HK1, ⟨m1, rfl⟩⟩ := hrel
    cases gk with
    | zero => exact absurd HA.out (by simp [coulombref01_whole.l0])
    | succ k1 =>
      have H := HA.out
      clear HA
      simp only [coulombref01_whole.l0] at H
      by_cases c4 : x10_1 ≥ 0
      · rw [if_pos c4] at H
        have c4b0 : decide (0 ≤ x10_1) = true := decide_eq_true c4
        clear c4
        obtain ⟨ji5, hji5⟩ : ∃ j_ : Int, (IntKind.u64.wrap (x10_1)) = j_ := ⟨_, rfl⟩
        replace H : (if 0 ≤ (ji5) then (if (Int.tmod (shr .i64 a1 (ji5)) 2) = 1 then (if a2 = 0 then (none) else (coulombref01_whole.j1 k1 a0 a1 a2 (wrap64 ((wrap64 (2 * x8_1)) + (wrap64 (Int.tdiv a0 a2)))) (wrap64 ((wrap64 (2 * x9_1)) + (Int.tmod a0 a2))) x10_1)) else (coulombref01_whole.j1 k1 a0 a1 a2 (wrap64 (2 * x8_1)) (wrap64 (2 * x9_1)) x10_1)) else (none)) = some (r1, r2) := by first | (rw [hji5] at H; exact H) | (simp only [hji5] at H ⊢; exact H)
        by_cases c6 : 0 ≤ (ji5)
        · rw [if_pos c6] at H
          have c6b0 := eq_true c6
          have c6b1 : decide (0 ≤ (ji5)) = true := decide_eq_true c6
          clear c6
          obtain ⟨ji7, hji7⟩ : ∃ j_ : Int, (shr .i64 a1 (ji5)) = j_ := ⟨_, rfl⟩
          replace H : (if (Int.tmod (ji7) 2) = 1 then (if a2 = 0 then (none) else (coulombref01_whole.j1 k1 a0 a1 a2 (wrap64 ((wrap64 (2 * x8_1)) + (wrap64 (Int.tdiv a0 a2)))) (wrap64 ((wrap64 (2 * x9_1)) + (Int.tmod a0 a2))) x10_1)) else (coulombref01_whole.j1 k1 a0 a1 a2 (wrap64 (2 * x8_1)) (wrap64 (2 * x9_1)) x10_1)) = some (r1, r2) := by first | (rw [hji7] at H; exact H) | (simp only [hji7] at H ⊢; exact H)
          have hji7_ : (a1 / 2 ^ min (ji5).toNat 64) = ji7 := hji7
          have hji7z : (ji5) ≤ 64 → (a1 / 2 ^ (ji5).toNat) = ji7 := shr_small hji7
          have HC8 := Aside0.mk H
          clear H
          go_upto_if 24 with (fail)
          go_cut [8, 9] (fun v8 v9 wc => ∃ (kq : Nat) (x8_7 : Int) (x9_7 : Int), v8 = .int .i64 x8_7 ∧ v9 = .int .i64 x9_7 ∧ Aside0 (coulombref01_whole.j1 kq a0 a1 a2 x8_7 x9_7 x10_1 = some (r1, r2)) ∧ Aside0 (kq ≤ k1) ∧ Drawn0 w wc)
          case first =>
            have H := HC8.out
            clear HC8
            by_cases c9 : (Int.tmod (ji7) 2) = 1
            · rw [if_pos c9] at H
              have c9b0 : ((Int.tmod (ji7) 2) == 1) = true := beq_iff_eq.mpr c9
              have c9b1 : ((Int.tmod (ji7) 2) != 1) = false := bne_eq_false_iff_eq.mpr c9
              clear c9
              (first | rw [c9b0] | (simp only [i64_w, i32_w]; rw [c9b0]) | skip)
              by_cases c10 : a2 = 0
              · rw [if_pos c10] at H
                exact absurd H (by simp)
              · rw [if_neg c10] at H
                have c10b0 : (a2 == 0) = false := beq_eq_false_iff_ne.mpr c10
                have c10b1 : (a2 != 0) = true := bne_iff_ne.mpr c10
                have H' := Aside0.mk H
                clear H
                go_wp2
                go_meet
                case rel => exact ⟨_, (wrap64 ((wrap64 (2 * x8_1)) + (wrap64 (Int.tdiv a0 a2)))), (wrap64 ((wrap64 (2 * x9_1)) + (Int.tmod a0 a2))), (by first | rfl | (simp; done) | (simp [*]; done)), (by first | rfl | (simp; done) | (simp [*]; done)), H', ⟨by have := HK1.out; first | omega | exact Nat.le_refl _⟩, by repeat (first | exact Drawn0.refl _ | apply Drawn0.step)⟩
            · rw [if_neg c9] at H
              have c9b0 : ((Int.tmod (ji7) 2) == 1) = false := beq_eq_false_iff_ne.mpr c9
              have c9b1 : ((Int.tmod (ji7) 2) != 1) = true := bne_iff_ne.mpr c9
              (first | rw [c9b0] | (simp only [i64_w, i32_w]; rw [c9b0]) | skip)
              have H' := Aside0.mk H
              clear H
              go_wp2
              go_meet
              case rel => exact ⟨_, (wrap64 (2 * x8_1)), (wrap64 (2 * x9_1)), (by first | rfl | (simp; done) | (simp [*]; done)), (by first | rfl | (simp; done) | (simp [*]; done)), H', ⟨by have := HK1.out; first | omega | exact Nat.le_refl _⟩, by repeat (first | exact Drawn0.refl _ | apply Drawn0.step)⟩
          case rest =>
            clear HC8
            try clear c1
            try clear p2
            try clear c4
            try clear c4b0
            try clear c6
            try clear c6b0
            try clear c6b1
            try clear p6
            try clear c8
            try clear c9
            try clear c9b0
            try clear c9b1
            try clear c10
            try clear c10b0
            try clear c10b1
            try clear p2
            obtain ⟨kq, x8_7, x9_7, rfl, rfl, HA, HJ7, ⟨mc7, rfl⟩⟩ := hcut
            cases kq with
            | zero => exact absurd HA.out (by simp [coulombref01_whole.j1])
            | succ kj7 =>
              have H := HA.out
              clear HA
              simp only [coulombref01_whole.j1] at H
              have H' := Aside0.mk H
              clear H
              go_wp2
              go_loopg [8, 9] kj7 (fun kq v8 v9 w' => ∃ (x8_3 : Int) (x9_3 : Int), v8 = .int .i64 x8_3 ∧ v9 = .int .i64 x9_3 ∧ Aside0 (coulombref01_whole.l1 kq a0 a1 a2 x8_3 x9_3 x10_1 = some (r1, r2)) ∧ Aside0 (kq ≤ kj7) ∧ Drawn0 w w')
              case atStart => exact ⟨(x8_7), (x9_7), (by first | rfl | (simp; done) | (simp [*]; done)), (by first | rfl | (simp; done) | (simp [*]; done)), H', ⟨Nat.le_refl _⟩, by repeat (first | exact Drawn0.refl _ | apply Drawn0.step)⟩
              case round =>
                clear H'
                try clear c1
                try clear p2
                try clear c4
                try clear c4b0
                try clear c6
                try clear c6b0
                try clear c6b1
                try clear p6
                try clear c7
                try clear c8
                try clear c9
                try clear c9b0
                try clear c9b1
                try clear c10
                try clear c10b0
                try clear c10b1
                try clear p2
                try clear p6
                obtain ⟨x8_3, x9_3, rfl, rfl, HA, HK3, ⟨m3, rfl⟩⟩ := hrel
                cases gk with
                | zero => exact absurd HA.out (by simp [coulombref01_whole.l1])
                | succ k3 =>
                  have H := HA.out
                  clear HA
                  simp only [coulombref01_whole.l1] at H
                  by_cases c11 : x9_3 ≥ a2
                  · rw [if_pos c11] at H
                    have c11b0 : decide (a2 ≤ x9_3) = true := decide_eq_true c11
                    clear c11
                    have H' := Aside0.mk H
                    clear H
                    go_wp2
                    go_roundg k3
                    case measure => have := HK1.out; have := HJ7.out; have := HK3.out; omega
                    case rel => exact ⟨(wrap64 (x8_3 + 1)), (wrap64 (x9_3 - a2)), (by first | rfl | (simp; done) | (simp [*]; done)), (by first | rfl | (simp; done) | (simp [*]; done)), H', ⟨by have := HK1.out; have := HJ7.out; have := HK3.out; omega⟩, by repeat (first | exact Drawn0.refl _ | apply Drawn0.step)⟩
                  · rw [if_neg c11] at H
                    have c11b0 : decide (a2 ≤ x9_3) = false := decide_eq_false c11
                    clear c11
                    by_cases c12 : x8_3 > 288230376151711744
                    · rw [if_pos c12] at H
                      have c12b0 : decide (288230376151711744 < x8_3) = true := decide_eq_true c12
                      clear c12
                      simp only [Option.some.injEq, Prod.mk.injEq] at H
                      obtain ⟨rfl, rfl⟩ := H
                      go_wp2
                      go_ret2
                      exact ⟨by first | rfl | (simp; done) | (simp only [← hji5, ← hji7] <;> (first | rfl | simp)) | (simp [*]; done), by repeat (first | exact Drawn0.refl _ | apply Drawn0.step)⟩
                    · rw [if_neg c12] at H
                      have c12b0 : decide (288230376151711744 < x8_3) = false := decide_eq_false c12
                      clear c12
                      have H' := Aside0.mk H
                      clear H
                      go_wp2
                      go_roundg k3
                      case measure => have := HK1.out; have := HJ7.out; have := HK3.out; omega
                      case rel => exact ⟨(x8_3), (x9_3), (wrap64 (x10_1 - 1)), (by first | rfl | (simp; done) | (simp [*]; done)), (by first | rfl | (simp; done) | (simp [*]; done)), (by first | rfl | (simp; done) | (simp [*]; done)), H', ⟨by have := HK1.out; have := HJ7.out; have := HK3.out; omega⟩, by repeat (first | exact Drawn0.refl _ | apply Drawn0.step)⟩
        · rw [if_neg c6] at H
          exact absurd H (by simp)
      · rw [if_neg c4] at H
        have c4b0 : decide (0 ≤ x10_1) = false := decide_eq_false c4
        clear c4
        simp only [Option.some.injEq, Prod.mk.injEq] at H
        obtain ⟨rfl, rfl⟩ := H
        go_wp2
        go_ret2
        exact ⟨by first | rfl | (simp; done) | (simp [*]; done), by repeat (first | exact Drawn0.refl _ | apply Drawn0.step)⟩

end Go.Proofs.Ytppdckjgdamlnaa.Q

namespace Go.Proofs.Ytppdckjgdamlnaa.Q
open Go.RowKit Go.Proofs.YtppdckjgdamlnaaW.PrintWords Go.Proofs.YtppdckjgdamlnaaW.PrintLast Go.Proofs.YtppdckjgdamlnaaW.PrintMore
attribute [local go_sem] max2_int min2_int max_two min_two max_three min_three max_four min_four   -- for this text's walks alone
set_option linter.unusedVariables false
set_option linter.unusedSimpArgs false

/-! ### coulombref01_abs: function 81 -/
def coulombref01_abs.f (a0 : Int) : Option (Int) := if a0 < 0 then (some (wrap64 (-a0))) else (some a0)
set_option maxHeartbeats 8000000 in
set_option maxRecDepth 100000 in
theorem coulombref01_abs.calls (a0 : Int) (r : Int) (w : World) (h : coulombref01_abs.f a0 = some r) :
    Calls Try.prog 81 #[.int .i64 a0] w fun e w' => e = .returned (.int .i64 r) ∧ Drawn0 w w' := by
  have H : (if a0 < 0 then (some (wrap64 (-a0))) else (some a0)) = some r := h
  clear h
  by_cases c2 : a0 < 0
  · rw [if_pos c2] at H
    have c2b0 : decide (a0 < 0) = true := decide_eq_true c2
    clear c2
    obtain rfl := Option.some.inj H
    go_enter Try.func81, Try.ntmps81
    go_wp2
    go_ret
    exact ⟨by first | rfl | (simp; done) | (simp [*]; done), by repeat (first | exact Drawn0.refl _ | apply Drawn0.step)⟩
  · rw [if_neg c2] at H
    have c2b0 : decide (a0 < 0) = false := decide_eq_false c2
    clear c2
    obtain rfl := Option.some.inj H
    go_enter Try.func81, Try.ntmps81
    go_wp2
    go_ret
    exact ⟨by first | rfl | (simp; done) | (simp [*]; done), by repeat (first | exact Drawn0.refl _ | apply Drawn0.step)⟩

end Go.Proofs.Ytppdckjgdamlnaa.Q

namespace Go.Proofs.Ytppdckjgdamlnaa.Q
open Go.RowKit Go.Proofs.YtppdckjgdamlnaaW.PrintWords Go.Proofs.YtppdckjgdamlnaaW.PrintLast Go.Proofs.YtppdckjgdamlnaaW.PrintMore
attribute [local go_sem] max2_int min2_int max_two min_two max_three min_three max_four min_four   -- for this text's walks alone
set_option linter.unusedVariables false
set_option linter.unusedSimpArgs false

/-! ### coulombref11_low: function 58 -/
def coulombref11_low.l0 : Nat → List (S48) → List Int → Int → Option (List Int)
  | 0, _, _, _ => none
  | k + 1, x0, x3, x4 => if x4 < (x0.length : Int) then (if 0 ≤ x4 then (if x3.length < 17592186044416 then (coulombref11_low.l0 k x0 (x3 ++ [(rd_T48 x0 x4).f0]) (wrap64 (x4 + 1))) else (none)) else (none)) else (some x3)
def coulombref11_low.f (k : Nat) (l0 : List (S48)) : Option (List Int) := coulombref11_low.l0 k l0 ([] : List Int) 0
theorem coulombref11_low.mono_l : ∀ k, (∀ y0 y1 y2, LeO (coulombref11_low.l0 k y0 y1 y2) (coulombref11_low.l0 (k + 1) y0 y1 y2))
  | 0 => fun _ _ _ r h => by simp [coulombref11_low.l0] at h
  | k + 1 => by
    have ih0 := coulombref11_low.mono_l k
    · intro y0 y1 y2
      unfold coulombref11_low.l0
      repeat' first
      | (with_reducible exact ih0 _ _ _)
      | (with_reducible exact LeO.refl _)
      | (with_reducible exact LeO.none _)
      | (with_reducible refine LeO.ite ?_ ?_)
      | (with_reducible refine LeO.bind ?_ (fun _ => ?_))
      | exact ih0 _ _ _
      | exact LeO.none _
      | refine LeO.ite ?_ ?_
      | refine LeO.bind ?_ (fun _ => ?_)
theorem coulombref11_low.mono : ∀ a0 k, LeO (coulombref11_low.f k a0) (coulombref11_low.f (k + 1) a0) := by
  intro a0 k
  have ih0 := coulombref11_low.mono_l k
  unfold coulombref11_low.f
  repeat' first
      | (with_reducible exact ih0 _ _ _)
      | (with_reducible exact LeO.refl _)
      | (with_reducible exact LeO.none _)
      | (with_reducible refine LeO.ite ?_ ?_)
      | (with_reducible refine LeO.bind ?_ (fun _ => ?_))
      | exact ih0 _ _ _
      | exact LeO.none _
      | refine LeO.ite ?_ ?_
      | refine LeO.bind ?_ (fun _ => ?_)
set_option maxHeartbeats 8000000 in
set_option maxRecDepth 100000 in
theorem coulombref11_low.calls (k : Nat) (A0 : Option Addr) (c0 : Nat) (l0 : List (S48)) (r : List Int) (w : World) (hr0 : Kd.C k48 w A0 l0.length l0) (hc0 : l0.length ≤ c0) (h : coulombref11_low.f k l0 = some r) :
    Calls Try.prog 58 #[.slice A0 l0.length c0] w fun e w' => ∃ v0_ : Value, e = .returned (v0_) ∧ Kd.R (Kd.int .i64) 2 w' w.heap.size (fun _ => True) v0_ r ∧ Below w.heap.size w w' := by
  have HR0 := Aside0.mk hr0
  have HC0 := Aside0.mk hc0
  clear hr0 hc0
  have HB := Aside0.mk (Below.refl w.heap.size w)
  have H : (coulombref11_low.l0 k l0 ([] : List Int) 0) = some r := h
  clear h
  have H' := Aside0.mk H
  clear H
  go_enter Try.func58, Try.ntmps58
  go_wp2
  go_loopg [3, 4] k (fun kq v3 v4 w' => ∃ (x3_1 : List Int) (x4_1 : Int), v4 = .int .i64 x4_1 ∧ Aside0 (coulombref11_low.l0 kq l0 x3_1 x4_1 = some r) ∧ Aside0 (kq ≤ k) ∧ Aside0 (Kd.R (Kd.int .i64) 2 w' w.heap.size (fun _ => True) v3 x3_1) ∧ Aside0 (Below w.heap.size w w'))
  case atStart => exact ⟨(([] : List Int)), (0), (by first | rfl | (simp; done) | (simp [*]; done)), H', ⟨Nat.le_refl _⟩, ⟨by first | exact Kd.R_nil _ _ _ _ _ | exact Kd.N_nil _ _ _ _ _ | exact Kd.V_nil _ _ _ _ _ | exact Kd.Q_nil _ _ _ _ _ | exact Kd.S_nil _ _ _ _ _⟩, ⟨by repeat (first | (with_reducible first | exact HB.out | apply below_alloc | apply pw_below_drewN | apply below_drew1) | exact HB.out)⟩⟩
  case round =>
    clear H'
    obtain ⟨x3_1, x4_1, rfl, HA, HK1, HO_3, HB⟩ := hrel
    cases gk with
    | zero => exact absurd HA.out (by simp [coulombref11_low.l0])
    | succ k1 =>
      have H := HA.out
      clear HA
      simp only [coulombref11_low.l0] at H
      by_cases c2 : x4_1 < (l0.length : Int)
      · rw [if_pos c2] at H
        have c2b0 : decide (x4_1 < (l0.length : Int)) = true := decide_eq_true c2
        clear c2
        by_cases c3 : 0 ≤ x4_1
        · rw [if_pos c3] at H
          have c3b0 : decide (0 ≤ x4_1) = true := decide_eq_true c3
          clear c3
          by_cases c4 : x3_1.length < 17592186044416
          · rw [if_pos c4] at H
            have LMc4 := Aside0.mk c4
            clear c4
            obtain ⟨y234, hy234⟩ : ∃ y_ : List Int, y_ = (x3_1 ++ [(rd_T48 l0 x4_1).f0]) := ⟨_, rfl⟩
            replace H : (coulombref11_low.l0 k1 l0 y234 (wrap64 (x4_1 + 1))) = some r := by first | (rw [hy234]; with_reducible exact H) | (have H2_ := (Option.bind_some _ _).symm.trans H; rw [hy234]; with_reducible exact H2_) | (have H2_ := (Option.bind_some _ _).symm.trans H; with_reducible exact H2_) | with_reducible exact H | (rw [hy234]; exact H) | exact H
            have Ny234 := Aside0.mk hy234
            clear hy234
            have H' := Aside0.mk H
            clear H
            have p233 : 0 ≤ (x4_1 : Int) := of_decide_eq_true (by first | (with_reducible assumption) | assumption)
            have q233 : x4_1 < (l0.length : Int) := of_decide_eq_true (by first | (with_reducible assumption) | assumption)
            obtain ⟨ad233, e233, hx233_0, hx233_1⟩ := at_T48 HR0.out x4_1 p233 q233
            cases e233
            replace hx233_0 := (HB.out.cell (World.block_lt_of_cell? w _ hx233_0)).trans hx233_0
            replace hx233_1 := (HB.out.cell (World.block_lt_of_cell? w _ hx233_1)).trans hx233_1
            replace p233 := eq_true p233
            replace q233 := eq_true q233
            go_wp2_with (first | ((with_reducible refine gate_builtin (b := .append) (xs := #[.tmp 11, .tmp 17]) rfl ?_); at_builtin; refine Kd.R_append (Kd.int .i64) (w0 := w) w.heap.size rfl (.tmp 11) (.tmp 17) 50 2 (.int .i64 0) 8 rfl Try.underlying50 info2 rfl (by decide) (by omega) u3 x3_1 ((rd_T48 l0 x4_1).f0) [.int .i64 ((rd_T48 l0 x4_1).f0)] (fun _ => True) (fun _ => False) rfl rfl ?aP (fun _ hk => hk.elim) ?aF ?aO ?aB ?aS ?aL ?_; (case aP => exact rfl); (case aB => exact (by repeat (first | (with_reducible first | exact HB.out | apply below_alloc | apply pw_below_drewN | apply below_drew1) | exact HB.out))); (case aF => exact (fun _ _ => trivial)); (case aO => exact (by (with_reducible repeat (first | apply Kd.R_alloc | apply Kd.R_drewN | apply Kd.R_drew)); exact HO_3.out)); (case aS => exact (below_size (by repeat (first | (with_reducible first | exact HB.out | apply below_alloc | apply pw_below_drewN | apply below_drew1) | exact HB.out)))); (case aL => have := LMc4.out; omega); intro v235 w5 ho hb hg hat; rw [← Ny234.out] at ho; have n0_ := Aside0.mk (hb); have n1_ := Aside0.mk (ho); clear HB; clear HO_3; have HB := n0_; have HO236 := n1_; clear n0_ n1_; clear ho hb hg hat))
            go_roundg k1
            case measure => have := HK1.out; omega
            case rel => exact ⟨(y234), (wrap64 (x4_1 + 1)), (by first | rfl | (simp; done) | (simp [*]; done)), H', ⟨by have := HK1.out; omega⟩, ⟨by (with_reducible repeat (first | apply Kd.R_alloc | apply Kd.R_drewN | apply Kd.R_drew)); exact HO236.out⟩, ⟨by repeat (first | (with_reducible first | exact HB.out | apply below_alloc | apply pw_below_drewN | apply below_drew1) | exact HB.out)⟩⟩
          · rw [if_neg c4] at H
            exact absurd H (by simp)
        · rw [if_neg c3] at H
          exact absurd H (by simp)
      · rw [if_neg c2] at H
        have c2b0 : decide (x4_1 < (l0.length : Int)) = false := decide_eq_false c2
        clear c2
        obtain rfl := Option.some.inj H
        go_wp2
        go_ret
        exact ⟨_, by first | rfl | (simp [errW_none, errW_some] <;> rfl) | (simp [*, errW_none, errW_some] <;> rfl), by (with_reducible repeat (first | apply Kd.R_alloc | apply Kd.R_drewN | apply Kd.R_drew)); exact HO_3.out, by repeat (first | (with_reducible first | exact HB.out | apply below_alloc | apply pw_below_drewN | apply below_drew1) | exact HB.out)⟩

end Go.Proofs.Ytppdckjgdamlnaa.Q

namespace Go.Proofs.Ytppdckjgdamlnaa.Q
open Go.RowKit Go.Proofs.YtppdckjgdamlnaaW.PrintWords Go.Proofs.YtppdckjgdamlnaaW.PrintLast Go.Proofs.YtppdckjgdamlnaaW.PrintMore
attribute [local go_sem] max2_int min2_int max_two min_two max_three min_three max_four min_four   -- for this text's walks alone
set_option linter.unusedVariables false
set_option linter.unusedSimpArgs false

/-! ### coulombref11_high: function 59 -/
def coulombref11_high.l0 : Nat → List (S48) → List Int → Int → Option (List Int)
  | 0, _, _, _ => none
  | k + 1, x0, x3, x4 => if x4 < (x0.length : Int) then (if 0 ≤ x4 then (if x3.length < 17592186044416 then (coulombref11_high.l0 k x0 (x3 ++ [(rd_T48 x0 x4).f1]) (wrap64 (x4 + 1))) else (none)) else (none)) else (some x3)
def coulombref11_high.f (k : Nat) (l0 : List (S48)) : Option (List Int) := coulombref11_high.l0 k l0 ([] : List Int) 0
theorem coulombref11_high.mono_l : ∀ k, (∀ y0 y1 y2, LeO (coulombref11_high.l0 k y0 y1 y2) (coulombref11_high.l0 (k + 1) y0 y1 y2))
  | 0 => fun _ _ _ r h => by simp [coulombref11_high.l0] at h
  | k + 1 => by
    have ih0 := coulombref11_high.mono_l k
    · intro y0 y1 y2
      unfold coulombref11_high.l0
      repeat' first
      | (with_reducible exact ih0 _ _ _)
      | (with_reducible exact LeO.refl _)
      | (with_reducible exact LeO.none _)
      | (with_reducible refine LeO.ite ?_ ?_)
      | (with_reducible refine LeO.bind ?_ (fun _ => ?_))
      | exact ih0 _ _ _
      | exact LeO.none _
      | refine LeO.ite ?_ ?_
      | refine LeO.bind ?_ (fun _ => ?_)
theorem coulombref11_high.mono : ∀ a0 k, LeO (coulombref11_high.f k a0) (coulombref11_high.f (k + 1) a0) := by
  intro a0 k
  have ih0 := coulombref11_high.mono_l k
  unfold coulombref11_high.f
  repeat' first
      | (with_reducible exact ih0 _ _ _)
      | (with_reducible exact LeO.refl _)
      | (with_reducible exact LeO.none _)
      | (with_reducible refine LeO.ite ?_ ?_)
      | (with_reducible refine LeO.bind ?_ (fun _ => ?_))
      | exact ih0 _ _ _
      | exact LeO.none _
      | refine LeO.ite ?_ ?_
      | refine LeO.bind ?_ (fun _ => ?_)
set_option maxHeartbeats 8000000 in
set_option maxRecDepth 100000 in
theorem coulombref11_high.calls (k : Nat) (A0 : Option Addr) (c0 : Nat) (l0 : List (S48)) (r : List Int) (w : World) (hr0 : Kd.C k48 w A0 l0.length l0) (hc0 : l0.length ≤ c0) (h : coulombref11_high.f k l0 = some r) :
    Calls Try.prog 59 #[.slice A0 l0.length c0] w fun e w' => ∃ v0_ : Value, e = .returned (v0_) ∧ Kd.R (Kd.int .i64) 2 w' w.heap.size (fun _ => True) v0_ r ∧ Below w.heap.size w w' := by
  have HR0 := Aside0.mk hr0
  have HC0 := Aside0.mk hc0
  clear hr0 hc0
  have HB := Aside0.mk (Below.refl w.heap.size w)
  have H : (coulombref11_high.l0 k l0 ([] : List Int) 0) = some r := h
  clear h
  have H' := Aside0.mk H
  clear H
  go_enter Try.func59, Try.ntmps59
  go_wp2
  go_loopg [3, 4] k (fun kq v3 v4 w' => ∃ (x3_1 : List Int) (x4_1 : Int), v4 = .int .i64 x4_1 ∧ Aside0 (coulombref11_high.l0 kq l0 x3_1 x4_1 = some r) ∧ Aside0 (kq ≤ k) ∧ Aside0 (Kd.R (Kd.int .i64) 2 w' w.heap.size (fun _ => True) v3 x3_1) ∧ Aside0 (Below w.heap.size w w'))
  case atStart => exact ⟨(([] : List Int)), (0), (by first | rfl | (simp; done) | (simp [*]; done)), H', ⟨Nat.le_refl _⟩, ⟨by first | exact Kd.R_nil _ _ _ _ _ | exact Kd.N_nil _ _ _ _ _ | exact Kd.V_nil _ _ _ _ _ | exact Kd.Q_nil _ _ _ _ _ | exact Kd.S_nil _ _ _ _ _⟩, ⟨by repeat (first | (with_reducible first | exact HB.out | apply below_alloc | apply pw_below_drewN | apply below_drew1) | exact HB.out)⟩⟩
  case round =>
    clear H'
    obtain ⟨x3_1, x4_1, rfl, HA, HK1, HO_3, HB⟩ := hrel
    cases gk with
    | zero => exact absurd HA.out (by simp [coulombref11_high.l0])
    | succ k1 =>
      have H := HA.out
      clear HA
      simp only [coulombref11_high.l0] at H
      by_cases c2 : x4_1 < (l0.length : Int)
      · rw [if_pos c2] at H
        have c2b0 : decide (x4_1 < (l0.length : Int)) = true := decide_eq_true c2
        clear c2
        by_cases c3 : 0 ≤ x4_1
        · rw [if_pos c3] at H
          have c3b0 : decide (0 ≤ x4_1) = true := decide_eq_true c3
          clear c3
          by_cases c4 : x3_1.length < 17592186044416
          · rw [if_pos c4] at H
            have LMc4 := Aside0.mk c4
            clear c4
            obtain ⟨y238, hy238⟩ : ∃ y_ : List Int, y_ = (x3_1 ++ [(rd_T48 l0 x4_1).f1]) := ⟨_, rfl⟩
            replace H : (coulombref11_high.l0 k1 l0 y238 (wrap64 (x4_1 + 1))) = some r := by first | (rw [hy238]; with_reducible exact H) | (have H2_ := (Option.bind_some _ _).symm.trans H; rw [hy238]; with_reducible exact H2_) | (have H2_ := (Option.bind_some _ _).symm.trans H; with_reducible exact H2_) | with_reducible exact H | (rw [hy238]; exact H) | exact H
            have Ny238 := Aside0.mk hy238
            clear hy238
            have H' := Aside0.mk H
            clear H
            have p237 : 0 ≤ (x4_1 : Int) := of_decide_eq_true (by first | (with_reducible assumption) | assumption)
            have q237 : x4_1 < (l0.length : Int) := of_decide_eq_true (by first | (with_reducible assumption) | assumption)
            obtain ⟨ad237, e237, hx237_0, hx237_1⟩ := at_T48 HR0.out x4_1 p237 q237
            cases e237
            replace hx237_0 := (HB.out.cell (World.block_lt_of_cell? w _ hx237_0)).trans hx237_0
            replace hx237_1 := (HB.out.cell (World.block_lt_of_cell? w _ hx237_1)).trans hx237_1
            replace p237 := eq_true p237
            replace q237 := eq_true q237
            go_wp2_with (first | ((with_reducible refine gate_builtin (b := .append) (xs := #[.tmp 11, .tmp 17]) rfl ?_); at_builtin; refine Kd.R_append (Kd.int .i64) (w0 := w) w.heap.size rfl (.tmp 11) (.tmp 17) 50 2 (.int .i64 0) 8 rfl Try.underlying50 info2 rfl (by decide) (by omega) u3 x3_1 ((rd_T48 l0 x4_1).f1) [.int .i64 ((rd_T48 l0 x4_1).f1)] (fun _ => True) (fun _ => False) rfl rfl ?aP (fun _ hk => hk.elim) ?aF ?aO ?aB ?aS ?aL ?_; (case aP => exact rfl); (case aB => exact (by repeat (first | (with_reducible first | exact HB.out | apply below_alloc | apply pw_below_drewN | apply below_drew1) | exact HB.out))); (case aF => exact (fun _ _ => trivial)); (case aO => exact (by (with_reducible repeat (first | apply Kd.R_alloc | apply Kd.R_drewN | apply Kd.R_drew)); exact HO_3.out)); (case aS => exact (below_size (by repeat (first | (with_reducible first | exact HB.out | apply below_alloc | apply pw_below_drewN | apply below_drew1) | exact HB.out)))); (case aL => have := LMc4.out; omega); intro v239 w5 ho hb hg hat; rw [← Ny238.out] at ho; have n0_ := Aside0.mk (hb); have n1_ := Aside0.mk (ho); clear HB; clear HO_3; have HB := n0_; have HO240 := n1_; clear n0_ n1_; clear ho hb hg hat))
            go_roundg k1
            case measure => have := HK1.out; omega
            case rel => exact ⟨(y238), (wrap64 (x4_1 + 1)), (by first | rfl | (simp; done) | (simp [*]; done)), H', ⟨by have := HK1.out; omega⟩, ⟨by (with_reducible repeat (first | apply Kd.R_alloc | apply Kd.R_drewN | apply Kd.R_drew)); exact HO240.out⟩, ⟨by repeat (first | (with_reducible first | exact HB.out | apply below_alloc | apply pw_below_drewN | apply below_drew1) | exact HB.out)⟩⟩
          · rw [if_neg c4] at H
            exact absurd H (by simp)
        · rw [if_neg c3] at H
          exact absurd H (by simp)
      · rw [if_neg c2] at H
        have c2b0 : decide (x4_1 < (l0.length : Int)) = false := decide_eq_false c2
        clear c2
        obtain rfl := Option.some.inj H
        go_wp2
        go_ret
        exact ⟨_, by first | rfl | (simp [errW_none, errW_some] <;> rfl) | (simp [*, errW_none, errW_some] <;> rfl), by (with_reducible repeat (first | apply Kd.R_alloc | apply Kd.R_drewN | apply Kd.R_drew)); exact HO_3.out, by repeat (first | (with_reducible first | exact HB.out | apply below_alloc | apply pw_below_drewN | apply below_drew1) | exact HB.out)⟩

end Go.Proofs.Ytppdckjgdamlnaa.Q

namespace Go.Proofs.Ytppdckjgdamlnaa
open Go.RowKit Go.Proofs.YtppdckjgdamlnaaW.PrintWords Go.Proofs.YtppdckjgdamlnaaW.PrintLast Go.Proofs.YtppdckjgdamlnaaW.PrintMore Q Go.Shelf

def inB (x lo hi : Int) : Bool := decide (lo ≤ x) && decide (x ≤ hi)
theorem in_calls (x lo hi : Int) (w : World) : Calls Try.prog 36 #[.int .i64 x, .int .i64 lo, .int .i64 hi] w fun e w' => e = .returned (.bool (inB x lo hi)) ∧ w = w' := by
  by_cases h1 : lo ≤ x
  · go_enter Try.func36, Try.ntmps36
    go_wp2
    go_ret
    exact ⟨ret_b (by simp [inB, h1]), rfl⟩
  · go_enter Try.func36, Try.ntmps36
    go_wp2
    go_ret
    exact ⟨ret_b (by simp [inB]; omega), rfl⟩

def spanB (x : S48) (m : Int) : Bool := decide (x.f0 ≤ x.f1) && decide (-m ≤ x.f0) && decide (x.f1 ≤ m)
theorem span_calls (x : S48) (m : Int) (h0 : 0 ≤ m) (h1 : m ≤ 1099511627776) (w : World) : Calls Try.prog 60 #[.agg #[.int .i64 x.f0, .int .i64 x.f1], .int .i64 m] w fun e w' => e = .returned (.bool (spanB x m)) ∧ Below w.heap.size w w' := by
  by_cases h2 : x.f0 ≤ x.f1
  · by_cases h3 : -m ≤ x.f0
    · go_enter Try.func60, Try.ntmps60
      go_wp2
      go_ret
      exact ⟨ret_b (by simp [spanB, h2, h3]), below_alloc (Below.refl _ _) _⟩
    · go_enter Try.func60, Try.ntmps60
      go_wp2
      go_ret
      exact ⟨ret_b (by simp [spanB, h2]; omega), below_alloc (Below.refl _ _) _⟩
  · go_enter Try.func60, Try.ntmps60
    go_wp2
    go_ret
    exact ⟨ret_b (by simp [spanB]; omega), below_alloc (Below.refl _ _) _⟩
theorem spanB_eq (x : S48) (m : Int) (h1 : m ≤ 1099511627776) : spanB x m = insideS x ⟨-m, m⟩ := by
  rw [Bool.eq_iff_iff]
  simp only [spanB, insideS, validS, validSp, isQ, Bool.and_eq_true, decide_eq_true_eq, Bool.not_eq_true', decide_eq_false_iff_not]
  omega

/-- as many spans as loops, each valid -/
def spansB (xs : List S48) (n : Int) (m : Int) : Bool := decide ((xs.length : Int) = n) && xs.all (spanB · m)
theorem spans_calls (A : Option Addr) (c : Nat) (xs : List S48) (n m : Int) (h0 : 0 ≤ m) (h1 : m ≤ 1099511627776) (w : World) (hr : Kd.C k48 w A xs.length xs) :
    Calls Try.prog 40 #[.slice A xs.length c, .int .i64 n, .int .i64 m] w fun e w' => e = .returned (.bool (spansB xs n m)) ∧ Below w.heap.size w w' := by
  have hlen := hr.2.1
  have HR := Aside0.mk hr
  clear hr
  by_cases hn : (xs.length : Int) = n
  · have HN := Aside0.mk hn
    go_enter Try.func40, Try.ntmps40
    go_wp2
    clear hn
    go_loopg [7] xs.length (fun gg s7 wr => ∃ i : Nat, i ≤ xs.length ∧ xs.length - i ≤ gg ∧ s7 = .int .i64 i ∧ Aside0 (Below w.heap.size w wr) ∧ Aside0 ((xs.take i).all (spanB · m) = true))
    case atStart => exact ⟨0, by omega, by omega, rfl, ⟨Below.refl _ _⟩, ⟨by simp⟩⟩
    case round =>
      obtain ⟨i, hi, hgi, rfl, HB, HA⟩ := hrel
      by_cases hlt : i < xs.length
      · have y1 : (i : Int) < (xs.length : Int) := by omega
        obtain ⟨ad, x, rfl, E, x0, x1⟩ := at48 (Kd.C_below HR.out HB.out) i hlt
        go_wp2_with fail
        refine (span_calls x m h0 h1 wr).mono ?_
        rintro e w2 ⟨rfl, hb⟩
        have HB2 := Aside0.mk (below_step HB.out hb)
        clear hb
        cases hs : spanB x m with
        | true =>
          have HA2 := Aside0.mk (show (xs.take (i + 1)).all (spanB · m) = true by rw [List.take_add_one, E.out, List.all_append, HA.out]; simp [hs])
          clear HA hs
          go_wp2_with fail
          go_roundg (xs.length - (i + 1))
          case measure => omega
          case rel => exact ⟨i + 1, by omega, by omega, by go_num, HB2, HA2⟩
        | false =>
          have HS := Aside0.mk hs
          clear hs
          go_wp2_with fail
          go_ret
          refine ⟨ret_b ?_, HB2.out⟩
          have : xs.all (spanB · m) = false := List.all_eq_false.2 ⟨x, List.mem_of_getElem? E.out, by rw [HS.out]; decide⟩
          rw [spansB, this, Bool.and_false]
      · have y1 : ¬ (i : Int) < (xs.length : Int) := by omega
        obtain rfl : i = xs.length := by omega
        rw [List.take_length] at HA
        go_wp2_with fail
        go_ret
        exact ⟨ret_b (by rw [spansB, HA.out, decide_eq_true HN.out]; rfl), HB.out⟩
  · go_enter Try.func40, Try.ntmps40
    go_wp2
    go_ret
    exact ⟨ret_b (by simp [spansB, hn]), Below.refl _ _⟩

instance (a b : S48) : Decidable (a = b) := decidable_of_iff (a.f0 = b.f0 ∧ a.f1 = b.f1) (by cases a; cases b; simp)
theorem SameBox_calls (A1 A2 : Option Addr) (c1 c2 : Nat) (xs ys : List S48) (w : World) (hx : Kd.C k48 w A1 xs.length xs) (hy : Kd.C k48 w A2 ys.length ys) :
    Calls Try.prog 65 #[.slice A1 xs.length c1, .slice A2 ys.length c2] w fun e w' => e = .returned (.bool (decide (xs = ys))) ∧ Below w.heap.size w w' := by
  have hlen := hx.2.1
  have HX := Aside0.mk hx
  have HY := Aside0.mk hy
  clear hx hy
  by_cases hn : xs.length = ys.length
  · have y0 : (xs.length : Int) = (ys.length : Int) := by omega
    have HN := Aside0.mk hn
    clear hn
    go_enter Try.func65, Try.ntmps65
    go_wp2
    go_loopg [5] xs.length (fun gg s5 wr => ∃ i : Nat, i ≤ xs.length ∧ xs.length - i ≤ gg ∧ s5 = .int .i64 i ∧ Aside0 (Below w.heap.size w wr) ∧ Aside0 (xs.take i = ys.take i))
    case atStart => exact ⟨0, by omega, by omega, rfl, ⟨Below.refl _ _⟩, ⟨by simp⟩⟩
    case round =>
      clear y0
      obtain ⟨i, hi, hgi, rfl, HB, HA⟩ := hrel
      by_cases hlt : i < xs.length
      · have y1 : (i : Int) < (xs.length : Int) := by omega
        have y2 : (i : Int) < (ys.length : Int) := by have := HN.out; omega
        obtain ⟨ad, x, rfl, E, x0, x1⟩ := at48 (Kd.C_below HX.out HB.out) i hlt
        obtain ⟨ad2, y, rfl, E2, x2, x3⟩ := at48 (Kd.C_below HY.out HB.out) i (by have := HN.out; omega)
        have he := fun W_ => eqA48 9998 W_ x.f0 y.f0 x.f1 y.f1
        cases hs : (x.f0 == y.f0 && (x.f1 == y.f1)) with
        | true =>
          have HS := Aside0.mk hs
          have HA2 := Aside0.mk (show xs.take (i + 1) = ys.take (i + 1) by
            simp only [Bool.and_eq_true, beq_iff_eq] at hs
            rw [List.take_add_one, List.take_add_one, HA.out, E.out, E2.out, show x = y by cases x; cases y; simp_all])
          rw [hs] at he
          clear HA hs
          go_wp2_with fail
          go_quiet (fail)
          go_wp2_with fail
          go_roundg (xs.length - (i + 1))
          case measure => omega
          case rel => exact ⟨i + 1, by omega, by omega, by go_num, ⟨pw_below_drewN HB.out nq⟩, HA2⟩
        | false =>
          have HS := Aside0.mk hs
          rw [hs] at he
          clear hs
          go_wp2_with fail
          go_quiet (fail)
          go_wp2_with fail
          go_ret
          refine ⟨ret_b ?_, pw_below_drewN HB.out nq⟩
          symm
          refine decide_eq_false fun e => ?_
          subst e
          cases E.out.symm.trans E2.out
          have := HS.out
          simp at this
      · have y1 : ¬ (i : Int) < (xs.length : Int) := by omega
        obtain rfl : i = xs.length := by omega
        go_wp2_with fail
        go_ret
        refine ⟨ret_b ?_, HB.out⟩
        have h := HA.out
        rw [List.take_length, HN.out, List.take_length] at h
        exact (decide_eq_true h).symm
  · have y0 : ¬ (xs.length : Int) = (ys.length : Int) := by omega
    go_enter Try.func65, Try.ntmps65
    go_wp2
    go_ret
    exact ⟨ret_b (decide_eq_false (fun e => hn (by rw [e]))).symm, Below.refl _ _⟩
theorem Same_calls (A1 A2 : Option Addr) (c1 c2 : Nat) (xs ys : List S48) (w : World) (hx : Kd.C k48 w A1 xs.length xs) (hy : Kd.C k48 w A2 ys.length ys) :
    Calls Try.prog 46 #[.slice A1 xs.length c1, .slice A2 ys.length c2] w fun e w' => e = .returned (.bool (decide (xs = ys))) ∧ Below w.heap.size w w' := by
  go_enter Try.func46, Try.ntmps46
  go_wp2_with (go_at_call 65; refine (SameBox_calls A1 A2 c1 c2 xs ys w hx hy).mono ?_; rintro e w' ⟨rfl, hb⟩)
  go_ret
  exact ⟨rfl, hb⟩
end Go.Proofs.Ytppdckjgdamlnaa

namespace Go.Proofs.Ytppdckjgdamlnaa
open Go.RowKit Go.Proofs.YtppdckjgdamlnaaW.PrintWords Go.Proofs.YtppdckjgdamlnaaW.PrintLast Go.Proofs.YtppdckjgdamlnaaW.PrintMore Q Go.Shelf

/-- the index of a key; none if it is not there -/
def findK (ks : List (Int × List S48)) (k : Int × List S48) : Option Nat := ks.findIdx? fun q => decide (q.1 = k.1) && decide (q.2 = k.2)
def idxI : Option Nat → Int
  | none => -1
  | some i => i

theorem findIdx_take {α : Type} (p : α → Bool) (xs : List α) (i : Nat) (x : α) (h : xs[i]? = some x) (hp : p x = true) (h0 : (xs.take i).any p = false) : xs.findIdx? p = some i := by
  have hi := (List.getElem?_eq_some_iff.1 h).1
  rw [List.findIdx?_eq_some_iff_getElem]
  refine ⟨hi, by rw [(List.getElem?_eq_some_iff.1 h).2]; exact hp, fun j hj => ?_⟩
  have := List.any_eq_false.1 h0 (xs[j]'(by omega)) (by rw [List.mem_take_iff_getElem]; exact ⟨j, by omega, rfl⟩)
  simpa using this

theorem find_calls (A : Option Addr) (c : Nat) (ns : List S31) (slot : Int) (B : Option Addr) (cb : Nat) (b : List S48) (w : World) (hn : Kd.C k31 w A ns.length ns) (hb : Kd.C k48 w B b.length b) :
    Calls Try.prog 37 #[.slice A ns.length c, .int .i64 slot, .slice B b.length cb] w fun e w' => e = .returned (.int .i64 (idxI (findK (ns.map keyN) (slot, b)))) ∧ Below w.heap.size w w' := by
  have hlen := hn.2.1
  have HX := Aside0.mk hn
  have HY := Aside0.mk hb
  clear hn hb
  go_enter Try.func37, Try.ntmps37
  go_wp2
  go_loopg [7] ns.length (fun gg s7 wr => ∃ i : Nat, i ≤ ns.length ∧ ns.length - i ≤ gg ∧ s7 = .int .i64 i ∧ Aside0 (Below w.heap.size w wr) ∧ Aside0 (((ns.map keyN).take i).any (fun q => decide (q.1 = slot) && decide (q.2 = b)) = false))
  case atStart => exact ⟨0, by omega, by omega, rfl, ⟨Below.refl _ _⟩, ⟨by simp⟩⟩
  case round =>
    obtain ⟨i, hi, hgi, rfl, HB, HA⟩ := hrel
    by_cases hlt : i < ns.length
    · have y1 : (i : Int) < (ns.length : Int) := by omega
      obtain ⟨ad, x, A5, c5, rfl, E, x0, x1, x2, _, HBX⟩ := at31 (Kd.C_below HX.out HB.out) i hlt
      have hE : (ns.map keyN)[i]? = some (keyN x) := by rw [List.getElem?_map, E.out]; rfl
      have HE := Aside0.mk hE
      clear hE
      by_cases h1 : x.f0 = slot
      · have HSM := Aside0.mk (Same_calls A5 B c5 cb x.f1 b wr HBX.out (Kd.C_below HY.out HB.out))
        have H1 := Aside0.mk h1
        clear h1
        have y2 : (x.f0 == slot) = true := by rw [H1.out]; exact beq_self_eq_true _
        go_wp2_with fail
        refine HSM.out.mono ?_
        rintro e w2 ⟨rfl, hb2⟩
        have HB2 := Aside0.mk (below_step HB.out hb2)
        clear hb2 HSM
        cases hs : decide (x.f1 = b) with
        | true =>
          have HF := Aside0.mk (findIdx_take (fun q => decide (q.1 = slot) && decide (q.2 = b)) _ i _ HE.out (by have h2 : x.f1 = b := of_decide_eq_true hs; have h1 := H1.out; simp [keyN, h1, h2]) HA.out)
          clear hs
          go_wp2_with fail
          go_ret
          exact ⟨by rw [findK, HF.out]; rfl, HB2.out⟩
        | false =>
          have HA2 := Aside0.mk (show ((ns.map keyN).take (i + 1)).any (fun q => decide (q.1 = slot) && decide (q.2 = b)) = false by have h2 : ¬ x.f1 = b := of_decide_eq_false hs; rw [take_any HE.out, HA.out]; simp [keyN, h2])
          clear HA hs
          go_wp2_with fail
          go_roundg (ns.length - (i + 1))
          case measure => omega
          case rel => exact ⟨i + 1, by omega, by omega, by go_num, HB2, HA2⟩
      · have HA2 := Aside0.mk (show ((ns.map keyN).take (i + 1)).any (fun q => decide (q.1 = slot) && decide (q.2 = b)) = false by rw [take_any HE.out, HA.out]; simp [keyN, h1])
        have y2 : (x.f0 == slot) = false := by simp [h1]
        clear HA
        go_wp2_with fail
        go_roundg (ns.length - (i + 1))
        case measure => omega
        case rel => exact ⟨i + 1, by omega, by omega, by go_num, HB, HA2⟩
    · have y1 : ¬ (i : Int) < (ns.length : Int) := by omega
      obtain rfl : i = ns.length := by omega
      go_wp2_with fail
      go_ret
      refine ⟨?_, HB.out⟩
      have h := HA.out
      rw [List.take_of_length_le (by simp)] at h
      have : findK (ns.map keyN) (slot, b) = none := by
        unfold findK
        rw [List.findIdx?_eq_none_iff]
        intro q hq
        have := List.any_eq_false.1 h q hq
        simpa using this
      rw [this]; rfl

/-- a span inside of another one -/
def okSp (q : S48 × S48) : Bool := decide (q.1.f0 ≤ q.1.f1) && decide (q.2.f0 ≤ q.1.f0) && decide (q.1.f1 ≤ q.2.f1)
def insideR (lim b : List S48) : Bool := decide (b.length = lim.length) && (b.zip lim).all okSp
theorem zip_at {α β : Type} {xs : List α} {ys : List β} {i : Nat} {x : α} {y : β} (h1 : xs[i]? = some x) (h2 : ys[i]? = some y) : (xs.zip ys)[i]? = some (x, y) := by
  rw [List.getElem?_zip_eq_some]; exact ⟨h1, h2⟩

set_option maxHeartbeats 1000000 in
theorem InsideR_calls (s : Sys) (A0 A1 A2 A3 : Option Addr) (c0 c1 c2 c3 : Nat) (B : Option Addr) (cb : Nat) (b : List S48) (w : World) (hs : SysAt w s A0 A1 A2 A3 c0 c1 c2 c3) (hr : Kd.C k48 w B b.length b) :
    Calls Try.prog 38 #[sysV s A0 A1 A2 A3 c0 c1 c2 c3, .slice B b.length cb] w fun e w' => e = .returned (.bool (insideR s.lim b)) ∧ Below w.heap.size w w' := by
  have hlen := hr.2.1
  have HL := Aside0.mk hs.r0
  have HR := Aside0.mk hr
  simp only [sysV]
  clear hs hr
  by_cases hn : b.length = s.lim.length
  · have y0 : (b.length : Int) = (s.lim.length : Int) := by omega
    have HN := Aside0.mk hn
    clear hn
    go_enter Try.func38, Try.ntmps38
    go_wp2
    obtain ⟨W, hW⟩ : ∃ W, W = w.alloc (.cells #[.slice A0 s.lim.length c0, .slice A1 s.start.length c1, .slice A2 s.modes.length c2, .slice A3 s.loads.length c3] 26) := ⟨_, rfl⟩
    have hb : Below w.heap.size w W := by rw [hW]; exact below_alloc (Below.refl _ _) _
    have k0 : W.heap[w.heap.size]? = some (.cells #[.slice A0 s.lim.length c0, .slice A1 s.start.length c1, .slice A2 s.modes.length c2, .slice A3 s.loads.length c3] 26 (0, 0)) := by rw [hW]; exact heap_alloc_new _ _
    rw [← hW]
    have HB0 := Aside0.mk hb
    have K0 := Aside0.mk k0
    clear hW hb k0 y0
    go_loopg [5] b.length (fun gg s5 wr => ∃ i : Nat, i ≤ b.length ∧ b.length - i ≤ gg ∧ s5 = .int .i64 i ∧ Aside0 (Below W.heap.size W wr) ∧ Aside0 (((b.zip s.lim).take i).all okSp = true))
    case atStart => exact ⟨0, by omega, by omega, rfl, ⟨Below.refl _ _⟩, ⟨by simp⟩⟩
    case round =>
      obtain ⟨i, hi, hgi, rfl, HB, HA⟩ := hrel
      by_cases hlt : i < b.length
      · have y1 : (i : Int) < (b.length : Int) := by omega
        have y2 : (i : Int) < (s.lim.length : Int) := by have := HN.out; omega
        obtain ⟨ad, x, rfl, E, x0, x1⟩ := at48 (Kd.C_below HR.out (below_step HB0.out HB.out)) i hlt
        obtain ⟨ad2, y, rfl, E2, x2, x3⟩ := at48 (Kd.C_below HL.out (below_step HB0.out HB.out)) i (by have := HN.out; omega)
        have x4 := blk_cell (pw_blk_below HB.out K0.out) 0
        simp at x4
        by_cases hok : okSp (x, y) = true
        · have hh := hok
          simp only [okSp, Bool.and_eq_true, decide_eq_true_eq] at hh
          have q0 : decide (x.f1 < x.f0) = false := decide_eq_false (by omega)
          have q1 : decide (x.f0 < y.f0) = false := decide_eq_false (by omega)
          have q2 : decide (y.f1 < x.f1) = false := decide_eq_false (by omega)
          have HA2 := Aside0.mk (show ((b.zip s.lim).take (i + 1)).all okSp = true by rw [List.take_add_one, zip_at E.out E2.out, List.all_append, HA.out]; simp [hok])
          clear HA hok hh
          go_wp2_with fail
          go_big_quiet (fail)
          go_wp2_with fail
          go_roundg (b.length - (i + 1))
          case measure => omega
          case rel => exact ⟨i + 1, by omega, by omega, by go_num, ⟨pw_below_drewN HB.out nq⟩, HA2⟩
        · have hf : insideR s.lim b = false := by
            have : (b.zip s.lim).all okSp = false := List.all_eq_false.2 ⟨(x, y), List.mem_of_getElem? (zip_at E.out E2.out), hok⟩
            rw [insideR, this, Bool.and_false]
          have HF := Aside0.mk hf
          have hc : x.f1 < x.f0 ∨ (¬ x.f1 < x.f0 ∧ x.f0 < y.f0) ∨ (¬ x.f1 < x.f0 ∧ ¬ x.f0 < y.f0 ∧ y.f1 < x.f1) := by
            simp only [okSp, Bool.and_eq_true, decide_eq_true_eq] at hok
            omega
          clear hok hf HA
          have hd : decide (x.f1 < x.f0) = true ∨ (decide (x.f1 < x.f0) = false ∧ decide (x.f0 < y.f0) = true) ∨ (decide (x.f1 < x.f0) = false ∧ decide (x.f0 < y.f0) = false ∧ decide (y.f1 < x.f1) = true) := by
            simp only [decide_eq_true_eq, decide_eq_false_iff_not]; exact hc
          clear hc
          rcases hd with q0 | ⟨q0, q1⟩ | ⟨q0, q1, q2⟩
          all_goals
            go_wp2_with fail
            go_big_quiet (fail)
            go_wp2_with fail
            go_ret
            exact ⟨ret_b HF.out.symm, below_step HB0.out (pw_below_drewN HB.out nq)⟩
      · have y1 : ¬ (i : Int) < (b.length : Int) := by omega
        obtain rfl : i = b.length := by omega
        go_wp2_with fail
        go_ret
        refine ⟨ret_b ?_, below_step HB0.out HB.out⟩
        have h := HA.out
        rw [List.take_of_length_le (by simp [HN.out])] at h
        rw [insideR, h, decide_eq_true HN.out]; rfl
  · have y0 : ¬ (b.length : Int) = (s.lim.length : Int) := by omega
    go_enter Try.func38, Try.ntmps38
    go_wp2
    go_ret
    exact ⟨ret_b (by simp [insideR, hn]), below_alloc (Below.refl _ _) _⟩
end Go.Proofs.Ytppdckjgdamlnaa

namespace Go.Proofs.Ytppdckjgdamlnaa
open Go.RowKit Go.Proofs.YtppdckjgdamlnaaW.PrintWords Go.Proofs.YtppdckjgdamlnaaW.PrintLast Go.Proofs.YtppdckjgdamlnaaW.PrintMore Q Go.Shelf

theorem wrap_id {x : Int} (h0 : -9223372036854775808 ≤ x) (h1 : x ≤ 9223372036854775807) : wrap64 x = x := by unfold wrap64; omega
theorem l1_stop {x n d q r i : Int} {res : Int × Int} {k : Nat} (h0 : r < d) (h1 : q ≤ 144115188075855872) (h : coulombref01_whole.l0 k x n d q r (wrap64 (i - 1)) = some res) : coulombref01_whole.l1 (k + 1) x n d q r i = some res := by
  simp only [coulombref01_whole.l1]
  rw [if_neg (by omega), if_neg (by omega)]
  exact h
theorem l1_go {x n d q r i : Int} {res : Int × Int} {k : Nat} (h0 : d ≤ r) (hd : 0 < d) (hr : r ≤ 4611686018427387904) (hq : 0 ≤ q) (h1 : q ≤ 144115188075855872) (h : coulombref01_whole.l1 k x n d (q + 1) (r - d) i = some res) : coulombref01_whole.l1 (k + 1) x n d q r i = some res := by
  simp only [coulombref01_whole.l1]
  rw [if_pos (by omega), wrap_id (by omega) (by omega), wrap_id (by omega) (by omega)]
  exact h
theorem l1_law {x n d q r i : Int} {res : Int × Int} (hd : 0 < d) (hd' : d ≤ 4398046511104) (hr0 : 0 ≤ r) (hr : r < 3 * d) (hq : 0 ≤ q) (hQ : ∀ t : Int, 0 ≤ t → t * d ≤ r → q + t ≤ 144115188075855872)
    (h : ∀ q' r', q' * d + r' = q * d + r → 0 ≤ q' → 0 ≤ r' → r' < d → ∃ k, coulombref01_whole.l0 k x n d q' r' (wrap64 (i - 1)) = some res) : ∃ k, coulombref01_whole.l1 k x n d q r i = some res := by
  by_cases h1 : r < d
  · obtain ⟨k, hk⟩ := h q r rfl hq hr0 h1
    have := hQ 0 (by omega) (by omega)
    exact ⟨k + 1, l1_stop h1 (by omega) hk⟩
  · have q1 := hQ 1 (by omega) (by omega)
    by_cases h2 : r - d < d
    · obtain ⟨k, hk⟩ := h (q + 1) (r - d) (by rw [Int.add_mul]; omega) (by omega) (by omega) h2
      exact ⟨k + 1 + 1, l1_go (by omega) hd (by omega) hq (by omega) (l1_stop h2 (by omega) hk)⟩
    · have q2 := hQ 2 (by omega) (by omega)
      obtain ⟨k, hk⟩ := h (q + 1 + 1) (r - d - d) (by rw [Int.add_mul, Int.add_mul]; omega) (by omega) (by omega) (by omega)
      exact ⟨k + 1 + 1 + 1, l1_go (by omega) hd (by omega) hq (by omega) (l1_go (by omega) hd (by omega) (by omega) (by omega) (l1_stop (by omega) (by omega) hk))⟩

theorem whole_l0 (x n d : Int) (hx : 0 ≤ x) (hX : x ≤ 4398046511104) (hn : 0 ≤ n) (hd : 0 < d) (hd' : d ≤ 4398046511104) (hB : x * n ≤ 144115188075855872) : ∀ (j : Nat), j ≤ 44 → ∀ q r : Int, 0 ≤ q → 0 ≤ r → r < d → q * d + r = x * (n / 2 ^ j) →
    ∃ k, coulombref01_whole.l0 k x n d q r ((j : Int) - 1) = some (x * n / d, x * n % d) := by
  intro j
  induction j with
  | zero =>
    intro _ q r hq hr hrd he
    refine ⟨1, ?_⟩
    rw [Int.pow_zero, Int.ediv_one] at he
    simp only [coulombref01_whole.l0]
    rw [if_neg (by omega)]
    have hdiv : x * n / d = q := by
      rw [← he, Int.add_comm, Int.add_mul_ediv_right _ _ (by omega), Int.ediv_eq_zero_of_lt hr hrd, Int.zero_add]
    have hmod : x * n % d = r := by
      rw [← he, Int.add_comm, Int.add_mul_emod_self_right, Int.emod_eq_of_lt hr hrd]
    rw [hdiv, hmod]
  | succ j ih =>
    intro hj q r hq hr hrd he
    obtain ⟨m, hm⟩ : ∃ m, m = n / 2 ^ j := ⟨_, rfl⟩
    have hpow : (0 : Int) < 2 ^ j := Int.pow_pos (by omega)
    have hm0 : 0 ≤ m := by rw [hm]; exact Int.ediv_nonneg hn (Int.le_of_lt hpow)
    have hmn : m ≤ n := by rw [hm]; exact Int.ediv_le_self _ hn
    have hm2 : n / 2 ^ (j + 1) = m / 2 := by rw [hm, Int.pow_succ, Int.ediv_ediv_of_nonneg (Int.le_of_lt hpow)]
    rw [hm2] at he
    have hxm : x * m ≤ 144115188075855872 := Int.le_trans (Int.mul_le_mul_of_nonneg_left hmn hx) hB
    have e1 : (((j + 1 : Nat) : Int) - 1) = (j : Int) := by omega
    rw [e1]
    have hsh : shr .i64 n (IntKind.u64.wrap (j : Int)) = m := by
      have : IntKind.u64.wrap (j : Int) = (j : Int) := by show (j : Int) % 18446744073709551616 = j; omega
      rw [this, shr, hm]
      show n / 2 ^ min (j : Int).toNat 64 = _
      rw [Int.toNat_natCast, Nat.min_eq_left (by omega)]
    have hwr : (0 : Int) ≤ IntKind.u64.wrap (j : Int) := by show 0 ≤ (j : Int) % 18446744073709551616; omega
    have hstep : ∀ q' r' : Int, 0 ≤ q' → 0 ≤ r' → r' < 3 * d → q' * d + r' = x * m → ∃ k, coulombref01_whole.l1 k x n d q' r' (j : Int) = some (x * n / d, x * n % d) := by
      intro q' r' h1 h2 h3 h4
      refine l1_law hd hd' h2 h3 h1 (fun t ht htd => ?_) (fun q2 r2 h5 h6 h7 h8 => ?_)
      · have h9 : (q' + t) * d ≤ x * m := by rw [Int.add_mul]; omega
        have h10 : (q' + t) ≤ (q' + t) * d := by
          have := Int.mul_le_mul_of_nonneg_left (show (1 : Int) ≤ d by omega) (show 0 ≤ q' + t by omega)
          omega
        omega
      · rw [wrap_id (by omega) (by omega)]
        exact ih (by omega) q2 r2 h6 h7 h8 (by rw [h5, h4, hm])
    have hqd : 2 * q * d = 2 * (q * d) := Int.mul_assoc _ _ _
    have hdm := Int.mul_ediv_add_emod x d
    have hxq : 0 ≤ x / d := Int.ediv_nonneg hx (by omega)
    have hxr := Int.emod_nonneg x (show d ≠ 0 by omega)
    have hxr2 := Int.emod_lt_of_pos x hd
    have hm22 : x * m = x * (2 * (m / 2)) + x * (m % 2) := by rw [← Int.mul_add, Int.mul_ediv_add_emod]
    have hm23 : x * (2 * (m / 2)) = 2 * (x * (m / 2)) := by rw [← Int.mul_assoc, Int.mul_comm x 2, Int.mul_assoc]
    have hq1 : 2 * q ≤ 144115188075855872 := by
      have h10 : (2 * q) ≤ (2 * q) * d := by
        have := Int.mul_le_mul_of_nonneg_left (show (1 : Int) ≤ d by omega) (show 0 ≤ 2 * q by omega)
        omega
      have : 0 ≤ x * (m % 2) := Int.mul_nonneg hx (Int.emod_nonneg _ (by omega))
      omega
    have hxdx : x / d ≤ x := Int.ediv_le_self _ hx
    by_cases hbit : m % 2 = 1
    · have hk := hstep (2 * q + x / d) (2 * r + x % d) (by omega) (by omega) (by omega) (by
        rw [Int.add_mul, hm22, hm23, hbit, Int.mul_one, hqd, Int.mul_comm (x / d) d]; omega)
      obtain ⟨k, hk⟩ := hk
      refine ⟨k + 1 + 1, ?_⟩
      simp only [coulombref01_whole.l0, coulombref01_whole.j1]
      rw [if_pos (by omega), if_pos hwr, hsh, if_pos (by rw [Int.tmod_eq_emod_of_nonneg hm0]; exact hbit), if_neg (by omega), Int.tdiv_eq_ediv_of_nonneg hx, Int.tmod_eq_emod_of_nonneg hx, wrap_id (x := 2 * q) (by omega) (by omega), wrap_id (x := x / d) (by omega) (by omega), wrap_id (x := 2 * r) (by omega) (by omega), wrap_id (x := 2 * q + x / d) (by omega) (by omega), wrap_id (x := 2 * r + x % d) (by omega) (by omega)]
      exact hk
    · have hbit0 : m % 2 = 0 := by omega
      have hk := hstep (2 * q) (2 * r) (by omega) (by omega) (by omega) (by
        rw [hm22, hm23, hbit0, Int.mul_zero, hqd]; omega)
      obtain ⟨k, hk⟩ := hk
      refine ⟨k + 1 + 1, ?_⟩
      simp only [coulombref01_whole.l0, coulombref01_whole.j1]
      rw [if_pos (by omega), if_pos hwr, hsh, if_neg (by rw [Int.tmod_eq_emod_of_nonneg hm0]; exact hbit), wrap_id (x := 2 * q) (by omega) (by omega), wrap_id (x := 2 * r) (by omega) (by omega)]
      exact hk

theorem whole_calls (x n d : Int) (hx : 0 ≤ x) (hX : x ≤ 4398046511104) (hn : 0 ≤ n) (hN : n ≤ 4398046511104) (hd : 0 < d) (hd' : d ≤ 4398046511104) (hB : x * n ≤ 144115188075855872) (w : World) :
    Calls Try.prog 80 #[.int .i64 x, .int .i64 n, .int .i64 d] w fun e w' => e = .returned (.tuple #[.int .i64 (x * n / d), .int .i64 (x * n % d)]) ∧ Below w.heap.size w w' := by
  obtain ⟨k, hk⟩ := whole_l0 x n d hx hX hn hd hd' hB 44 (by omega) 0 0 (by omega) (by omega) hd (by
    rw [Int.ediv_eq_zero_of_lt hn (by omega)]; omega)
  exact (coulombref01_whole.calls k x n d _ _ w hk).mono fun e w' ⟨he, hb⟩ => ⟨he, hb.below⟩
theorem abs_calls (x : Int) (h0 : -4611686018427387904 ≤ x) (w : World) : Calls Try.prog 81 #[.int .i64 x] w fun e w' => e = .returned (.int .i64 x.natAbs) ∧ Below w.heap.size w w' := by
  refine (coulombref01_abs.calls x x.natAbs w ?_).mono fun e w' ⟨he, hb⟩ => ⟨he, hb.below⟩
  unfold coulombref01_abs.f
  split
  · rw [wrap64]; congr 1; omega
  · congr 1; omega

theorem floor_neg (y d : Int) (hd : 0 < d) : -y / d = if 0 < y % d then -(y / d + 1) else -(y / d) := by
  have h1 := Int.mul_ediv_add_emod y d
  have h2 := Int.emod_nonneg y (show d ≠ 0 by omega)
  have h3 := Int.emod_lt_of_pos y hd
  split
  · have e : -y = d * -(y / d + 1) + (d - y % d) := by rw [Int.mul_neg, Int.mul_add]; omega
    rw [e, Int.add_comm, Int.add_mul_ediv_left _ _ (by omega), Int.ediv_eq_zero_of_lt (by omega) (by omega)]; omega
  · have e : -y = d * -(y / d) := by rw [Int.mul_neg]; omega
    rw [e, Int.mul_ediv_cancel_left _ (by omega)]

theorem Down_calls (x n d : Int) (hX : -4398046511104 ≤ x ∧ x ≤ 4398046511104) (hn : 0 ≤ n) (hN : n ≤ 4398046511104) (hd : 0 < d) (hd' : d ≤ 4398046511104) (hB : x.natAbs * n ≤ 144115188075855872) (w : World) :
    Calls Try.prog 74 #[.int .i64 x, .int .i64 n, .int .i64 d] w fun e w' => e = .returned (.int .i64 (x * n / d)) ∧ Below w.heap.size w w' := by
  have hdn : ((d.natAbs : Nat) : Int) = d := by omega
  have hnn : ((n.natAbs : Nat) : Int) = n := by omega
  have H1 := Aside0.mk (fun W => abs_calls x (by omega) W)
  have h2 := fun W => abs_calls n (by omega) W
  have h3 := fun W => abs_calls d (by omega) W
  rw [hnn] at h2
  rw [hdn] at h3
  have H2 := Aside0.mk h2
  have H3 := Aside0.mk h3
  have HW := Aside0.mk (fun W => whole_calls x.natAbs n d (by omega) (by omega) hn hN hd hd' hB W)
  have q0 : 0 ≤ (x.natAbs : Int) * n / d := Int.ediv_nonneg (Int.mul_nonneg (by omega) hn) (by omega)
  have q1 : (x.natAbs : Int) * n / d ≤ 144115188075855872 := Int.le_trans (Int.ediv_le_self _ (Int.mul_nonneg (by omega) hn)) hB
  have hres : x * n / d = if x < 0 then (if 0 < (x.natAbs : Int) * n % d then -((x.natAbs : Int) * n / d + 1) else -((x.natAbs : Int) * n / d)) else (x.natAbs : Int) * n / d := by
    split
    · rw [← floor_neg _ _ hd, ← Int.neg_mul]; congr 2; omega
    · congr 2; omega
  have HRES := Aside0.mk hres
  clear hdn hnn h2 h3 hres hB
  generalize (x.natAbs : Int) * n / d = q at *
  generalize (x.natAbs : Int) * n % d = r at *
  have hc : (decide (x < 0) = true ∧ 0 < r) ∨ (decide (x < 0) = true ∧ ¬ 0 < r) ∨ (decide (x < 0) = false) := by simp only [decide_eq_true_eq, decide_eq_false_iff_not]; omega
  have n1 : decide (n < 0) = false := decide_eq_false (by omega)
  have n2 : decide (d < 0) = false := decide_eq_false (by omega)
  rcases hc with ⟨hx, hr⟩ | ⟨hx, hr⟩ | hx
  all_goals
    go_enter Try.func74, Try.ntmps74
    go_wp2_with fail
    refine (H1.out _).mono ?_
    rintro e w1 ⟨rfl, hb1⟩
    have B1 := Aside0.mk hb1
    clear hb1
    go_wp2_with fail
    refine (H2.out _).mono ?_
    rintro e w2 ⟨rfl, hb2⟩
    have B2 := Aside0.mk (below_step B1.out hb2)
    clear hb2
    go_wp2_with fail
    refine (H3.out _).mono ?_
    rintro e w3 ⟨rfl, hb3⟩
    have B3 := Aside0.mk (below_step B2.out hb3)
    clear hb3
    go_wp2_with fail
    refine (HW.out _).mono ?_
    rintro e w4 ⟨rfl, hb4⟩
    have B4 := Aside0.mk (below_step B3.out hb4)
    clear hb4
    go_wp2_with fail
    go_ret
    refine ⟨ret_i ?_, B4.out⟩
    rw [HRES.out]
    simp only [decide_eq_true_eq, decide_eq_false_iff_not] at hx
    (repeat' split) <;> first | omega | (unfold wrap64; omega)
end Go.Proofs.Ytppdckjgdamlnaa

namespace Go.Proofs.Ytppdckjgdamlnaa
open Go.RowKit Go.Sort Go.Proofs.YtppdckjgdamlnaaW.PrintWords Go.Proofs.YtppdckjgdamlnaaW.PrintLast Go.Proofs.YtppdckjgdamlnaaW.PrintMore Q Go.Shelf

theorem low_law (xs : List S48) (hl : xs.length < 17592186044416) : ∀ (m i : Nat), i + m = xs.length → coulombref11_low.l0 (m + 1) xs ((xs.take i).map (·.f0)) i = some (xs.map (·.f0)) := by
  intro m
  induction m with
  | zero =>
    intro i hi
    simp only [coulombref11_low.l0]
    rw [if_neg (by omega), List.take_of_length_le (by omega)]
  | succ m ih =>
    intro i hi
    have h := ih (i + 1) (by omega)
    rw [coulombref11_low.l0, if_pos (by omega), if_pos (by omega), if_pos (by simp; omega)]
    rw [List.take_add_one, List.getElem?_eq_getElem (by omega), List.map_append] at h
    have e1 : wrap64 ((i : Int) + 1) = ((i + 1 : Nat) : Int) := by unfold wrap64; omega
    have e2 : rd_T48 xs (i : Int) = xs[i]'(by omega) := by
      show xs.getD (i : Int).toNat z48 = _
      rw [Int.toNat_natCast, List.getD_eq_getElem?_getD, List.getElem?_eq_getElem (by omega)]; rfl
    rw [e1, e2]
    exact h
theorem high_law (xs : List S48) (hl : xs.length < 17592186044416) : ∀ (m i : Nat), i + m = xs.length → coulombref11_high.l0 (m + 1) xs ((xs.take i).map (·.f1)) i = some (xs.map (·.f1)) := by
  intro m
  induction m with
  | zero =>
    intro i hi
    simp only [coulombref11_high.l0]
    rw [if_neg (by omega), List.take_of_length_le (by omega)]
  | succ m ih =>
    intro i hi
    have h := ih (i + 1) (by omega)
    rw [coulombref11_high.l0, if_pos (by omega), if_pos (by omega), if_pos (by simp; omega)]
    rw [List.take_add_one, List.getElem?_eq_getElem (by omega), List.map_append] at h
    have e1 : wrap64 ((i : Int) + 1) = ((i + 1 : Nat) : Int) := by unfold wrap64; omega
    have e2 : rd_T48 xs (i : Int) = xs[i]'(by omega) := by
      show xs.getD (i : Int).toNat z48 = _
      rw [Int.toNat_natCast, List.getD_eq_getElem?_getD, List.getElem?_eq_getElem (by omega)]; rfl
    rw [e1, e2]
    exact h
theorem low_calls (A : Option Addr) (c : Nat) (xs : List S48) (w : World) (hr : Kd.C k48 w A xs.length xs) (hc : xs.length ≤ c) (hl : xs.length < 17592186044416) :
    Calls Try.prog 58 #[.slice A xs.length c] w fun e w' => ∃ At ct, e = .returned (.slice At xs.length ct) ∧ Kd.C (Kd.int .i64) w' At xs.length (xs.map (·.f0)) ∧ Below w.heap.size w w' := by
  refine (coulombref11_low.calls (xs.length + 1) A c xs (xs.map fun x : S48 => x.f0) w hr hc (show coulombref11_low.l0 (xs.length + 1) xs (([] : List S48).map fun x : S48 => x.f0) ((0 : Nat) : Int) = _ from low_law xs hl xs.length 0 (by omega))).mono ?_
  rintro e w' ⟨v, rfl, hv, hb⟩
  obtain ⟨At, ct, rfl, _, hcc⟩ := Kd.R_reads hv
  rw [List.length_map] at hcc ⊢
  exact ⟨At, ct, rfl, hcc, hb⟩
theorem high_calls (A : Option Addr) (c : Nat) (xs : List S48) (w : World) (hr : Kd.C k48 w A xs.length xs) (hc : xs.length ≤ c) (hl : xs.length < 17592186044416) :
    Calls Try.prog 59 #[.slice A xs.length c] w fun e w' => ∃ At ct, e = .returned (.slice At xs.length ct) ∧ Kd.C (Kd.int .i64) w' At xs.length (xs.map (·.f1)) ∧ Below w.heap.size w w' := by
  refine (coulombref11_high.calls (xs.length + 1) A c xs (xs.map fun x : S48 => x.f1) w hr hc (show coulombref11_high.l0 (xs.length + 1) xs (([] : List S48).map fun x : S48 => x.f1) ((0 : Nat) : Int) = _ from high_law xs hl xs.length 0 (by omega))).mono ?_
  rintro e w' ⟨v, rfl, hv, hb⟩
  obtain ⟨At, ct, rfl, _, hcc⟩ := Kd.R_reads hv
  rw [List.length_map] at hcc ⊢
  exact ⟨At, ct, rfl, hcc, hb⟩

set_option maxRecDepth 100000 in
set_option maxHeartbeats 4000000 in
theorem nextR_calls (m : S53) (A1 A2 : Option Addr) (c1 c2 : Nat) (At Aw : Option Addr) (ct cw : Nat) (t ws : List Int) (n : Nat) (w : World)
    (h1 : Kd.C (Kd.int .i64) w A1 m.f1.length m.f1) (h2 : Kd.C k99 w A2 m.f2.length m.f2) (ht : Kd.C (Kd.int .i64) w At n t) (hw : Kd.C (Kd.int .i64) w Aw n ws)
    (hl : n ≤ 3) (hl1 : m.f1.length = n) (hf : flowsIn n m.f2) (hp : ∀ f ∈ m.f2, 0 ≤ f.f2 ∧ f.f2 ≤ 65536) (hr : ∀ x ∈ t, -1073741824 ≤ x ∧ x ≤ 1073741824) :
    Calls Try.prog 57 #[.agg #[.int .i64 m.f0, .slice A1 m.f1.length c1, .slice A2 m.f2.length c2], .slice At n ct, .slice Aw n cw] w fun e w' =>
      ∃ v, e = .returned v ∧ w'.ownsRow w.heap.size 2 1 v n (nums .i64 (nextL m t ws)) ∧ Below w.heap.size w w' := by
  have ht0 := ht.1
  have hw0 := hw.1
  have hm2 := h2.2.1
  have H1 := Aside0.mk h1
  have H2 := Aside0.mk h2
  have HT := Aside0.mk ht
  have HW := Aside0.mk hw
  have HT0 := Aside0.mk ht0
  have HW0 := Aside0.mk hw0
  have HL1 := Aside0.mk hl1
  have HF := Aside0.mk hf
  have HP := Aside0.mk hp
  have HR := Aside0.mk hr
  clear h1 h2 ht hw ht0 hw0 hl1 hf hp hr
  go_enter Try.func57, Try.ntmps57
  go_wp2_with fail
  obtain ⟨W, hW⟩ : ∃ W, W = w.alloc (.cells #[.int .i64 m.f0, .slice A1 m.f1.length c1, .slice A2 m.f2.length c2] 53) := ⟨_, rfl⟩
  have hb : Below w.heap.size w W := by rw [hW]; exact below_alloc (Below.refl _ _) _
  have k0 : W.heap[w.heap.size]? = some (.cells #[.int .i64 m.f0, .slice A1 m.f1.length c1, .slice A2 m.f2.length c2] 53 (0, 0)) := by rw [hW]; exact heap_alloc_new _ _
  rw [← hW]
  have HB0 := Aside0.mk hb
  have K0 := Aside0.mk k0
  have HSZ := Aside0.mk (show w.heap.size < W.heap.size from blk_lt k0)
  clear hW hb k0
  go_loopg [7, 8] n (fun gg s7 s8 wr => ∃ i : Nat, i ≤ n ∧ n - i ≤ gg ∧ s8 = .int .i64 i ∧ Aside0 (Below W.heap.size W wr) ∧ Aside0 (wr.ownsRow W.heap.size 2 1 s7 i (nums .i64 ((add3 t m.f1 ws).take i))))
  case atStart => exact ⟨0, by omega, by omega, rfl, ⟨Below.refl _ _⟩, ⟨own_nil _ _ _ _⟩⟩
  case round =>
    obtain ⟨i, hi, hgi, rfl, HB, HO⟩ := hrel
    by_cases hlt : i < n
    · have y1 : (i : Int) < (n : Int) := by omega
      have y2 : (i : Int) < (m.f1.length : Int) := by have := HL1.out; omega
      obtain ⟨ad1, a, rfl, E1, v0⟩ := at_int HT.out i hlt
      obtain ⟨ad2, b, rfl, E2, v1⟩ := at_int H1.out i (by have := HL1.out; omega)
      obtain ⟨ad3, c, rfl, E3, v2⟩ := at_int HW.out i hlt
      have hbw := below_step HB0.out HB.out
      have x0 := pw_cell_below hbw v0
      have x1 := pw_cell_below hbw v1
      have x2 := pw_cell_below hbw v2
      have x3 := blk_cell (pw_blk_below HB.out K0.out) 1
      simp at x3
      have hfar : ∀ k, k < W.heap.size → some k ≠ u7.ownBlock := fun k hk e => by have := own_base HO.out k e.symm; omega
      have N0 := Aside0.mk (hfar _ (Nat.lt_trans (World.block_lt_of_cell? w _ v0) HSZ.out))
      have N1 := Aside0.mk (hfar _ (Nat.lt_trans (World.block_lt_of_cell? w _ v1) HSZ.out))
      have N2 := Aside0.mk (hfar _ (Nat.lt_trans (World.block_lt_of_cell? w _ v2) HSZ.out))
      have N3 := Aside0.mk (hfar w.heap.size HSZ.out)
      clear v0 v1 v2 hfar hbw
      have hnx : (add3 t m.f1 ws).take (i + 1) = (add3 t m.f1 ws).take i ++ [wrap64 (wrap64 (a + b) + c)] := by
        rw [List.take_add_one, add3_at t m.f1 ws i a b c E1.out E2.out E3.out]; rfl
      have HNX := Aside0.mk hnx
      have LK1 := Aside0.mk (show i + 1 ≤ maxLen by unfold maxLen; omega)
      have LK2 := Aside0.mk (show (i + 1) * 8 ≤ 140737488355328 by omega)
      have LB := Aside0.mk HB.out.size
      obtain ⟨i0, hi0, hz0, hz1, hz2⟩ := info_parts info2
      clear hnx
      go_wp2_with fail
      go_region_held3 (fun w' => w'.cell? (ad1.add i) = some (.int .i64 a) ∧ w'.cell? ⟨w.heap.size, 1, none⟩ = some (.slice (some ad2) m.f1.length c1) ∧ w'.cell? (ad2.add i) = some (.int .i64 b) ∧ w'.cell? (ad3.add i) = some (.int .i64 c))
        ((go_split_ands; refine ⟨?_, ?_, ?_, ?_⟩) <;> first | assumption | exact growa.cell (cell_alloc (by assumption) _) N0.out | exact growa.cell (cell_alloc (by assumption) _) N1.out | exact growa.cell (cell_alloc (by assumption) _) N2.out | exact growa.cell (cell_alloc (by assumption) _) N3.out | go_keep)
        (first
        | (refine step_append_lies (o := ⟨some 35, _, _, _, _, _⟩) _ (by rfl) (.tmp 18) (.tmp 34) 50 (by rfl) W.heap.size 2 i0 (.int .i64 0) 1 8 Try.underlying50 hi0 hz0 hz1 hz2 rfl (Nat.succ_pos 0) u7 i (nums .i64 ((add3 t m.f1 ws).take i)) (by rfl) ?own _ 1 1 [.int .i64 (IntKind.i64.wrap (IntKind.i64.wrap (a + b) + c))] (by rfl) (by rfl) ?news (oc1 _) (Nat.succ_pos 0) LK1.out LK2.out ?base _ (by rfl) ?_
           (case own => exact (HO.out.alloc (.cells #[.int .i64 (IntKind.i64.wrap (IntKind.i64.wrap (a + b) + c))] 2)).drew)
           (case news => exact World.news_of_block (cs := #[.int .i64 (IntKind.i64.wrap (IntKind.i64.wrap (a + b) + c))]) (t := 2) (fr := (0, 0)) (heap_alloc_new wr (.cells #[.int .i64 (IntKind.i64.wrap (IntKind.i64.wrap (a + b) + c))] 2)))
           (case base => (have := LB.out; simp; omega))
           intro ga ca wa owna growa ata lta))
      go_wp2_with fail
      go_roundg (n - (i + 1))
      case measure => omega
      case rel =>
        refine ⟨i + 1, by omega, by omega, by go_num, ⟨pw_below_grown (below_drew1 (below_alloc HB.out _)) _ (by have := LB.out; simp; omega) growa (fun k hk => own_base HO.out k hk)⟩, ⟨?_⟩⟩
        rw [HNX.out]
        have e : nums .i64 ((add3 t m.f1 ws).take i ++ [wrap64 (wrap64 (a + b) + c)]) = nums .i64 ((add3 t m.f1 ws).take i) ++ [.int .i64 (IntKind.i64.wrap (IntKind.i64.wrap (a + b) + c))] := by simp only [nums, List.map_append, List.map_cons, List.map_nil, IntWalk.i64_left]
        rw [e]
        exact owna
    · have y1 : ¬ (i : Int) < (n : Int) := by omega
      obtain rfl : i = n := by omega
      have hal : (add3 t m.f1 ws).length = i := add3_len _ _ _ _ HT0.out HL1.out HW0.out
      rw [List.take_of_length_le (by omega)] at HO
      have HAL := Aside0.mk hal
      clear hal
      go_wp2_with fail
      obtain ⟨Av, cv, rfl⟩ := own_slice HO.out
      go_loopg [9] m.f2.length (fun gg s9 wi => ∃ (j : Nat) (xs : List Int), j ≤ m.f2.length ∧ m.f2.length - j ≤ gg ∧ s9 = .int .i64 j ∧ Aside0 (Below W.heap.size W wi) ∧ Aside0 (wi.ownsRow W.heap.size 2 1 (.slice Av i cv) i (nums .i64 xs)) ∧ Aside0 (applyFlows t (m.f2.drop j) xs = nextL m t ws))
      case atStart => exact ⟨0, _, by omega, by omega, rfl, HB, HO, ⟨by rw [List.drop_zero]; rfl⟩⟩
      case round =>
        clear HB HO
        obtain ⟨j, xs, hj, hgj, rfl, HB, HO, HA⟩ := hrel
        have x4 := blk_cell (pw_blk_below HB.out K0.out) 2
        simp at x4
        by_cases hlt2 : j < m.f2.length
        · have y2 : (j : Int) < (m.f2.length : Int) := by omega
          obtain ⟨ad, f, rfl, E, x0, x1, x2⟩ := at99 (Kd.C_below H2.out (below_step HB0.out HB.out)) j hlt2
          have hfl := HF.out f (List.mem_of_getElem? E.out)
          obtain ⟨f0, f1, f2⟩ := f
          obtain ⟨p0, p1, p2, p3⟩ := hfl
          simp only at p0 p1 p2 p3
          obtain ⟨a, rfl⟩ := Int.eq_ofNat_of_zero_le p0
          obtain ⟨b, rfl⟩ := Int.eq_ofNat_of_zero_le p2
          obtain ⟨adt, ta, hAt, ET, v0⟩ := at_int HT.out a (by omega)
          obtain ⟨adt2, tb, hAt2, ET2, v1⟩ := at_int HT.out b (by omega)
          subst hAt
          cases hAt2
          have hbw := below_step HB0.out HB.out
          go_upto_region 10 with (fail)
          obtain ⟨W3, hW3⟩ : ∃ W3, W3 = wr.alloc (.cells #[.int .i64 a, .int .i64 b, .int .i64 f2] 99) := ⟨_, rfl⟩
          have hb3 : Below wr.heap.size wr W3 := by rw [hW3]; exact below_alloc (Below.refl _ _) _
          have k3 : W3.heap[wr.heap.size]? = some (.cells #[.int .i64 a, .int .i64 b, .int .i64 f2] 99 (0, 0)) := by rw [hW3]; exact heap_alloc_new _ _
          have ho3 := pw_own_below HO.out hb3
          rw [← hW3]
          clear hW3 x0 x1 x2 x4
          have HB3 := Aside0.mk hb3
          have K3 := Aside0.mk k3
          have HO3 := Aside0.mk ho3
          have hta := HR.out ta (List.mem_of_getElem? ET.out)
          have htb := HR.out tb (List.mem_of_getElem? ET2.out)
          have hpf := HP.out _ (List.mem_of_getElem? E.out)
          simp only at hpf
          have hprod : (ta - tb).natAbs * f2 ≤ 144115188075855872 := by
            have h1 : ((ta - tb).natAbs : Int) * f2 ≤ 2147483648 * f2 := Int.mul_le_mul_of_nonneg_right (by omega) hpf.1
            omega
          have HDN := Aside0.mk (fun d os => Calls.regrown_of (Down_calls (ta - tb) f2 65536 (by omega) hpf.1 (by omega) (by omega) (by omega) hprod (grow (redrawn W3 d) os)))
          have y3 : IntKind.i64.wrap (ta - tb) = ta - tb := IntWalk.i64_in _ (by omega)
          have hflow : flowX t ⟨a, b, f2⟩ = (ta - tb) * f2 / 65536 := by
            have ga : t.getD a 0 = ta := by rw [List.getD_eq_getElem?_getD, ET.out]; rfl
            have gb : t.getD b 0 = tb := by rw [List.getD_eq_getElem?_getD, ET2.out]; rfl
            simp only [flowX, Int.toNat_natCast, ga, gb]
            rw [wrap_id (x := ta - tb) (by omega) (by omega)]
            have h2 : -(2147483648 * f2) ≤ (ta - tb) * f2 := by
              have := Int.mul_le_mul_of_nonneg_right (show -2147483648 ≤ ta - tb by omega) hpf.1
              omega
            have h3 : (ta - tb) * f2 ≤ 2147483648 * f2 := Int.mul_le_mul_of_nonneg_right (by omega) hpf.1
            rw [wrap_id (by omega) (by omega)]
          have HFL := Aside0.mk hflow
          have c1 := fun d os => cell_regrown (w := W3) (a := ⟨wr.heap.size, 0, none⟩) (v := .int .i64 a) (by have := blk_cell k3 0; simpa using this) d os
          have c2 := fun d os => cell_regrown (w := W3) (a := ⟨wr.heap.size, 1, none⟩) (v := .int .i64 b) (by have := blk_cell k3 1; simpa using this) d os
          have c3 := fun d os => cell_regrown (w := W3) (a := ⟨wr.heap.size, 2, none⟩) (v := .int .i64 f2) (by have := blk_cell k3 2; simpa using this) d os
          have c4 := fun d os => cell_regrown (pw_cell_below (below_step hbw hb3) v0) d os
          have c5 := fun d os => cell_regrown (pw_cell_below (below_step hbw hb3) v1) d os
          have y4 : (a : Int) < (i : Int) := by omega
          have y5 : (b : Int) < (i : Int) := by omega
          clear k3 ho3 hb3 hbw v0 v1 hta htb hpf hprod hflow
          refine wp_region_quiet_below (by kernel_rfl) (by kernel_rfl) ?_
          repeat (go_big_quiet_step (exact HDN.out _ _))
          refine wpQuiet_nil ?_
          rintro w4 ⟨p4, hw4⟩
          have hb4 := below_regrown W3 p4.d p4.os
          rw [← hw4] at hb4
          clear hw4 c1 c2 c3 c4 c5 y3 HDN
          have ho4 := pw_own_below HO3.out hb4
          have k4 := pw_blk_below hb4 K3.out
          obtain ⟨g, cap, he, hgb, hgl⟩ := ho4.form (by omega)
          cases he
          have d0 := blk_cell k4 0
          have d1 := blk_cell k4 1
          simp at d0 d1
          have o1 := own_at ho4 (a : Int) (by omega) (by omega)
          have o2 := own_at ho4 (b : Int) (by omega) (by omega)
          simp only [Int.toNat_natCast] at o1 o2
          obtain ⟨o1, z1⟩ := o1
          have HO4 := Aside0.mk ho4
          have K4 := Aside0.mk k4
          have HB4 := Aside0.mk (below_step HB3.out hb4)
          generalize (ta - tb) * f2 / 65536 = X at *
          clear ho4 k4 hb4 o2
          go_wp2_with fail
          go_still_tail 11, (by kernel_rfl)
          change wpList _ _ _ _ _ w4.drew
          go_upto_region 12 with (fail)
          have hst := own_store HO4.out (a : Int) (wrap64 (rd xs a - X))
          simp only [Int.toNat_natCast] at hst
          obtain ⟨W5, hW5⟩ : ∃ W5, W5 = (w4.setCell ⟨g, a, none⟩ (.int .i64 (wrap64 (rd xs a - X)))).drew := ⟨_, rfl⟩
          have hgx : wr.heap.size ≠ g := fun e => by
            obtain ⟨c, hc⟩ := own_typed HO4.out g (by simp [Value.ownBlock])
            rw [← e, K4.out] at hc; cases hc
          have ho5 : W5.ownsRow W.heap.size 2 1 (.slice (some ⟨g, 0, none⟩) i cv) i (nums .i64 (xs.set a (wrap64 (rd xs a - X)))) := by rw [hW5]; exact hst.1
          have k5 : W5.heap[wr.heap.size]? = some (.cells #[.int .i64 a, .int .i64 b, .int .i64 f2] 99 (0, 0)) := by rw [hW5]; exact (Below.heap_setCell w4 ⟨g, a, none⟩ _ _ hgx).trans K4.out
          have hb5 : Below W.heap.size W W5 := by rw [hW5]; exact below_drew1 ((HB.out.trans (HB4.out.mono HB.out.size)).setCell (p := ⟨g, a, none⟩) hgb _)
          rw [← hW5]
          clear hW5 hst d0 d1 o1 z1 HO4 K4 HB4
          have d1 := blk_cell k5 1
          simp at d1
          have o2 := own_at ho5 (b : Int) (by omega) (by omega)
          simp only [Int.toNat_natCast] at o2
          obtain ⟨o2, z2⟩ := o2
          have HO5 := Aside0.mk ho5
          have HB5 := Aside0.mk hb5
          clear ho5 hb5 k5
          go_still_tail 11, (by kernel_rfl)
          change wpList _ _ _ _ _ W5.drew
          go_wp2_with fail
          have hst := own_store HO5.out (b : Int) (wrap64 (rd (xs.set a (wrap64 (rd xs a - X))) b + X))
          simp only [Int.toNat_natCast] at hst
          go_roundg (m.f2.length - (j + 1))
          case measure => omega
          case rel =>
            refine ⟨j + 1, _, by omega, by omega, by go_num, ⟨?_⟩, ⟨hst.1⟩, ⟨?_⟩⟩
            · exact below_drew1 (HB5.out.setCell (p := ⟨g, b, none⟩) hgb _)
            · have h := HA.out
              rw [List.drop_eq_getElem_cons hlt2] at h
              have hE : m.f2[j] = ⟨a, b, f2⟩ := by have := (List.getElem?_eq_some_iff.1 E.out).2; exact this
              rw [hE] at h
              simp only [applyFlows, Int.toNat_natCast, HFL.out] at h
              exact h
        · have y2 : ¬ (j : Int) < (m.f2.length : Int) := by omega
          obtain rfl : j = m.f2.length := by omega
          have h := HA.out
          rw [List.drop_length] at h
          have HX := Aside0.mk (show xs = nextL m t ws from h)
          clear h
          go_wp2_with fail
          go_ret
          exact ⟨_, rfl, by rw [← HX.out]; exact own_less HO.out HB0.out.size, below_step HB0.out HB.out⟩
end Go.Proofs.Ytppdckjgdamlnaa

namespace Go.Proofs.Ytppdckjgdamlnaa
open Go.RowKit Go.Sort Go.Proofs.YtppdckjgdamlnaaW.PrintWords Go.Proofs.YtppdckjgdamlnaaW.PrintLast Go.Proofs.YtppdckjgdamlnaaW.PrintMore Q Go.Shelf

theorem own_C {W : World} {base n : Nat} {v : Value} {xs : List Int} (h : W.ownsRow base 2 1 v n (nums .i64 xs)) : ∃ A c, v = .slice A n c ∧ Kd.C (Kd.int .i64) W A n xs := by
  obtain ⟨A, c, e, hr⟩ := own_reads h
  refine ⟨A, c, e, hr.1, hr.2.1, fun hp => ?_⟩
  obtain ⟨ad, e2, hc⟩ := hr.2.2 hp
  refine ⟨ad, e2, fun j p hj => ⟨[.int .i64 p], rfl, rfl, fun i u hu => ?_⟩⟩
  match i, hu with
  | 0, hu =>
    cases hu
    have hlt := (List.getElem?_eq_some_iff.1 hj).1
    have h2 := hc j (by have := hr.1; omega)
    rw [List.getD_eq_getElem?_getD, hj] at h2
    simpa [show (Kd.int IntKind.i64).sz = 1 from rfl] using h2
/-- what the parts of a mode must be -/
structure ModeR (m : S53) (n : Nat) : Prop where
  len : m.f1.length = n
  inn : flowsIn n m.f2
  part : ∀ f ∈ m.f2, 0 ≤ f.f2 ∧ f.f2 ≤ 65536

set_option maxRecDepth 100000 in
set_option maxHeartbeats 4000000 in
theorem boxR_calls (s : Sys) (A0 A1 A2 A3 : Option Addr) (c0 c1 c2 c3 : Nat) (slot mode : Nat) (B : Option Addr) (cb : Nat) (b : List S48) (w : World) (hs : SysAt w s A0 A1 A2 A3 c0 c1 c2 c3) (hr : Kd.C k48 w B b.length b) (hcb : b.length ≤ cb)
    (load : List S48) (hload : s.loads[slot]? = some load) (m : S53) (hm : s.modes[mode]? = some m) (n : Nat) (hn : b.length = n) (hl : n ≤ 3) (hl2 : load.length = n) (hmr : ModeR m n)
    (h0 : ∀ x ∈ b, -1073741824 ≤ x.f0 ∧ x.f0 ≤ 1073741824) (h1 : ∀ x ∈ b, -1073741824 ≤ x.f1 ∧ x.f1 ≤ 1073741824) :
    Calls Try.prog 39 #[sysV s A0 A1 A2 A3 c0 c1 c2 c3, .int .i64 slot, .int .i64 mode, .slice B b.length cb] w fun e w' =>
      ∃ v, e = .returned v ∧ w'.ownsRow w.heap.size 48 2 v n (spans (advL m load b)) ∧ Below w.heap.size w w' := by
  have hslot := (List.getElem?_eq_some_iff.1 hload).1
  have hmode := (List.getElem?_eq_some_iff.1 hm).1
  have z1 : (slot : Int) < (s.loads.length : Int) := by omega
  have z2 : (mode : Int) < (s.modes.length : Int) := by omega
  have HLOAD := Aside0.mk hload
  have HM := Aside0.mk hm
  have HS := Aside0.mk hs
  have HR := Aside0.mk hr
  have HN := Aside0.mk hn
  have HL2 := Aside0.mk hl2
  have HMR := Aside0.mk hmr
  have HX0 := Aside0.mk (show ∀ x ∈ b.map (·.f0), -1073741824 ≤ x ∧ x ≤ 1073741824 from fun x hx => by obtain ⟨y, hy, rfl⟩ := List.mem_map.1 hx; exact h0 y hy)
  have HX1 := Aside0.mk (show ∀ x ∈ b.map (·.f1), -1073741824 ≤ x ∧ x ≤ 1073741824 from fun x hx => by obtain ⟨y, hy, rfl⟩ := List.mem_map.1 hx; exact h1 y hy)
  have HCB := Aside0.mk hcb
  have hns := hs.r2.2.1
  have hls := hs.r3.2.1
  simp only [sysV]
  clear hload hm hs hr hn hl2 hmr h0 h1 hcb
  go_enter Try.func39, Try.ntmps39
  go_wp2_with fail
  obtain ⟨W, hW⟩ : ∃ W, W = w.alloc (.cells #[.slice A0 s.lim.length c0, .slice A1 s.start.length c1, .slice A2 s.modes.length c2, .slice A3 s.loads.length c3] 26) := ⟨_, rfl⟩
  have hb : Below w.heap.size w W := by rw [hW]; exact below_alloc (Below.refl _ _) _
  have k0 : W.heap[w.heap.size]? = some (.cells #[.slice A0 s.lim.length c0, .slice A1 s.start.length c1, .slice A2 s.modes.length c2, .slice A3 s.loads.length c3] 26 (0, 0)) := by rw [hW]; exact heap_alloc_new _ _
  rw [← hW]
  have HB0 := Aside0.mk hb
  have K0 := Aside0.mk k0
  have HSZ := Aside0.mk (show w.heap.size ≤ W.heap.size from hb.size)
  clear hW hb k0
  obtain ⟨adm, m', Am, cm, Af, cf, hA2, EM, v0, v1, v2, M1, M2, M3, M4⟩ := at53 HS.out.r2 mode hmode
  cases HM.out.symm.trans EM.out
  obtain ⟨adl, ld, Al, cl, hA3, EL, v3, LL, LC⟩ := atL48 HS.out.r3 slot hslot
  cases HLOAD.out.symm.trans EL.out
  subst hA2
  subst hA3
  have hx2 := blk_cell K0.out 2
  have hx3 := blk_cell K0.out 3
  have a0 := pw_cell_below HB0.out v0
  have a1 := pw_cell_below HB0.out v1
  have a2 := pw_cell_below HB0.out v2
  have a3 := pw_cell_below HB0.out v3
  simp at hx2 hx3
  have HLBf0 := Aside0.mk (fun (W' : World) (h : Below W.heap.size W W') => low_calls B cb b W' (Kd.C_below HR.out (below_step HB0.out h)) HCB.out (by rw [HN.out]; omega))
  have HLLf0 := Aside0.mk (fun (W' : World) (h : Below W.heap.size W W') => low_calls Al cl load W' (Kd.C_below LC.out (below_step HB0.out h)) LL.out (by rw [HL2.out]; omega))
  have HNXf0 := Aside0.mk (fun (W' : World) (h : Below W.heap.size W W') (At : Option Addr) (ct : Nat) (Aw : Option Addr) (cw : Nat) (g1 : Kd.C (Kd.int .i64) W' At b.length (b.map (·.f0))) (g2 : Kd.C (Kd.int .i64) W' Aw load.length (load.map (·.f0))) =>
    show Calls Try.prog 57 #[.agg #[.int .i64 m.f0, .slice Am m.f1.length cm, .slice Af m.f2.length cf], .slice At b.length ct, .slice Aw load.length cw] W' (fun e w' => ∃ v, e = .returned v ∧ w'.ownsRow W'.heap.size 2 1 v n (nums .i64 (nextL m (b.map (·.f0)) (load.map (·.f0)))) ∧ Below W'.heap.size W' w') from by
      have hh := nextR_calls m Am Af cm cf At Aw ct cw (b.map (·.f0)) (load.map (·.f0)) n W' (Kd.C_below M2.out (below_step HB0.out h)) (Kd.C_below M4.out (below_step HB0.out h)) (by rw [← HN.out]; exact g1) (by rw [← HL2.out]; exact g2) hl HMR.out.len HMR.out.inn HMR.out.part HX0.out
      rw [HN.out, HL2.out]
      exact hh)
  go_cut [9] from 13 to 26 (fun sd wx => Aside0 (wx.ownsRow W.heap.size 2 1 sd n (nums .i64 (nextL m (b.map (·.f0)) (load.map (·.f0))))) ∧ Aside0 (Below W.heap.size W wx))
  case first =>
    go_region_held3 (fun w' => w'.cell? ⟨w.heap.size, 2, none⟩ = some (.slice (some adm) s.modes.length c2) ∧ w'.cell? ⟨w.heap.size, 3, none⟩ = some (.slice (some adl) s.loads.length c3) ∧ w'.cell? (adm.add (mode * 3)) = some (.int .i64 m.f0) ∧ w'.cell? ⟨(adm.add (mode * 3)).block, (adm.add (mode * 3)).off + 1, none⟩ = some (.slice Am m.f1.length cm) ∧ w'.cell? ⟨(adm.add (mode * 3)).block, (adm.add (mode * 3)).off + 2, none⟩ = some (.slice Af m.f2.length cf) ∧ w'.cell? (adl.add slot) = some (.slice Al load.length cl))
      ((go_split_ands; refine ⟨?_, ?_, ?_, ?_, ?_, ?_⟩) <;> first | assumption | exact pw_cell_below hb3 (by assumption) | exact pw_cell_below hb2 (by assumption) | exact pw_cell_below hb1 (by assumption) | go_keep)
      (first
      | ((with_reducible refine (HLBf0.out _ ?_).mono ?_)
         · first | exact below_drew1 (Below.refl _ _) | exact Q2.out
         rintro e w1 ⟨At, ct, rfl, g1, hb1⟩
         have Q1 := Aside0.mk (show Below W.heap.size W w1 by first | exact below_step (below_drew1 (Below.refl _ _)) hb1 | exact below_step Q2.out hb1)
         have G1 := Aside0.mk g1
         clear g1)
      | ((with_reducible refine (HLLf0.out _ ?_).mono ?_)
         · first | exact below_drew1 (Below.refl _ _) | exact Q1.out
         rintro e w2 ⟨Aw, cw, rfl, g2, hb2⟩
         have Q2 := Aside0.mk (show Below W.heap.size W w2 by first | exact below_step (below_drew1 (Below.refl _ _)) hb2 | exact below_step Q1.out hb2)
         have G2 := Aside0.mk g2
         clear g2)
      | ((with_reducible refine (HNXf0.out _ ?_ _ _ _ _ ?_ ?_).mono ?_)
         · first | exact Q2.out | exact Q1.out
         · first | exact G1.out | exact Kd.C_below G1.out hb2
         · first | exact G2.out | exact Kd.C_below G2.out hb1
         rintro e w3 ⟨v3_, rfl, ho3, hb3⟩
         have Q3 := Aside0.mk (show Below W.heap.size W w3 by first | exact below_step Q2.out hb3 | exact below_step Q1.out hb3)
         have O3 := Aside0.mk (show w3.ownsRow W.heap.size 2 1 v3_ n (nums .i64 (nextL m (b.map (·.f0)) (load.map (·.f0)))) from own_less ho3 (by first | exact Q2.out.size | exact Q1.out.size))
         clear ho3))
    all_goals
      go_wp2_with fail
      go_meet
      exact ⟨O3, Q3⟩
  case rest =>
    obtain ⟨O9, Q9⟩ := hcut
    clear HLBf0 HLLf0 HNXf0
    go_upto_region 2 with (fail)
    have hx2 := pw_cell_below Q9.out hx2
    have hx3 := pw_cell_below Q9.out hx3
    have a0 := pw_cell_below Q9.out a0
    have a1 := pw_cell_below Q9.out a1
    have a2 := pw_cell_below Q9.out a2
    have a3 := pw_cell_below Q9.out a3
    have HLBf1 := Aside0.mk (fun (W' : World) (h : Below wc.heap.size wc W') => high_calls B cb b W' (Kd.C_below HR.out (below_step HB0.out (below_then Q9.out Q9.out.size h))) HCB.out (by rw [HN.out]; omega))
    have HLLf1 := Aside0.mk (fun (W' : World) (h : Below wc.heap.size wc W') => high_calls Al cl load W' (Kd.C_below LC.out (below_step HB0.out (below_then Q9.out Q9.out.size h))) LL.out (by rw [HL2.out]; omega))
    have HNXf1 := Aside0.mk (fun (W' : World) (h : Below wc.heap.size wc W') (At : Option Addr) (ct : Nat) (Aw : Option Addr) (cw : Nat) (g1 : Kd.C (Kd.int .i64) W' At b.length (b.map (·.f1))) (g2 : Kd.C (Kd.int .i64) W' Aw load.length (load.map (·.f1))) =>
      show Calls Try.prog 57 #[.agg #[.int .i64 m.f0, .slice Am m.f1.length cm, .slice Af m.f2.length cf], .slice At b.length ct, .slice Aw load.length cw] W' (fun e w' => ∃ v, e = .returned v ∧ w'.ownsRow W'.heap.size 2 1 v n (nums .i64 (nextL m (b.map (·.f1)) (load.map (·.f1)))) ∧ Below W'.heap.size W' w') from by
        have hh := nextR_calls m Am Af cm cf At Aw ct cw (b.map (·.f1)) (load.map (·.f1)) n W' (Kd.C_below M2.out (below_step HB0.out (below_then Q9.out Q9.out.size h))) (Kd.C_below M4.out (below_step HB0.out (below_then Q9.out Q9.out.size h))) (by rw [← HN.out]; exact g1) (by rw [← HL2.out]; exact g2) hl HMR.out.len HMR.out.inn HMR.out.part HX1.out
        rw [HN.out, HL2.out]
        exact hh)
    go_cut [10] from 27 to 40 (fun sd wx => Aside0 (wx.ownsRow wc.heap.size 2 1 sd n (nums .i64 (nextL m (b.map (·.f1)) (load.map (·.f1))))) ∧ Aside0 (Below wc.heap.size wc wx))
    case first =>
      go_region_held3 (fun w' => w'.cell? ⟨w.heap.size, 2, none⟩ = some (.slice (some adm) s.modes.length c2) ∧ w'.cell? ⟨w.heap.size, 3, none⟩ = some (.slice (some adl) s.loads.length c3) ∧ w'.cell? (adm.add (mode * 3)) = some (.int .i64 m.f0) ∧ w'.cell? ⟨(adm.add (mode * 3)).block, (adm.add (mode * 3)).off + 1, none⟩ = some (.slice Am m.f1.length cm) ∧ w'.cell? ⟨(adm.add (mode * 3)).block, (adm.add (mode * 3)).off + 2, none⟩ = some (.slice Af m.f2.length cf) ∧ w'.cell? (adl.add slot) = some (.slice Al load.length cl))
        ((go_split_ands; refine ⟨?_, ?_, ?_, ?_, ?_, ?_⟩) <;> first | assumption | exact pw_cell_below hb3 (by assumption) | exact pw_cell_below hb2 (by assumption) | exact pw_cell_below hb1 (by assumption) | go_keep)
        (first
        | ((with_reducible refine (HLBf1.out _ ?_).mono ?_)
           · first | exact below_drew1 (Below.refl _ _) | exact Q2.out
           rintro e w1 ⟨At, ct, rfl, g1, hb1⟩
           have Q1 := Aside0.mk (show Below wc.heap.size wc w1 by first | exact below_step (below_drew1 (Below.refl _ _)) hb1 | exact below_step Q2.out hb1)
           have G1 := Aside0.mk g1
           clear g1)
        | ((with_reducible refine (HLLf1.out _ ?_).mono ?_)
           · first | exact below_drew1 (Below.refl _ _) | exact Q1.out
           rintro e w2 ⟨Aw, cw, rfl, g2, hb2⟩
           have Q2 := Aside0.mk (show Below wc.heap.size wc w2 by first | exact below_step (below_drew1 (Below.refl _ _)) hb2 | exact below_step Q1.out hb2)
           have G2 := Aside0.mk g2
           clear g2)
        | ((with_reducible refine (HNXf1.out _ ?_ _ _ _ _ ?_ ?_).mono ?_)
           · first | exact Q2.out | exact Q1.out
           · first | exact G1.out | exact Kd.C_below G1.out hb2
           · first | exact G2.out | exact Kd.C_below G2.out hb1
           rintro e w3 ⟨v3_, rfl, ho3, hb3⟩
           have Q3 := Aside0.mk (show Below wc.heap.size wc w3 by first | exact below_step Q2.out hb3 | exact below_step Q1.out hb3)
           have O3 := Aside0.mk (show w3.ownsRow wc.heap.size 2 1 v3_ n (nums .i64 (nextL m (b.map (·.f1)) (load.map (·.f1)))) from own_less ho3 (by first | exact Q2.out.size | exact Q1.out.size))
           clear ho3))
      all_goals
        go_wp2_with fail
        go_meet
        exact ⟨O3, Q3⟩
    case rest =>
      obtain ⟨O10, Q10⟩ := hcut
      clear HLBf1 HLLf1 HNXf1 a0 a1 a2 a3 hx2 hx3
      have o9 := pw_own_below O9.out Q10.out
      obtain ⟨P1, k1, e1, C1⟩ := own_C o9
      obtain ⟨P2, k2, e2, C2⟩ := own_C O10.out
      subst e1
      subst e2
      have HC1 := Aside0.mk C1
      have HC2 := Aside0.mk C2
      have HBW := Aside0.mk (below_then HB0.out HB0.out.size (below_then Q9.out Q9.out.size Q10.out))
      clear o9 C1 C2 O9 O10
      go_wp2_with fail
      have LLO := Aside0.mk (show (nextL m (b.map (·.f0)) (load.map (·.f0))).length = n from nextL_len _ _ _ _ (by simp [HN.out]) HMR.out.len (by simp [HL2.out]))
      have LHI := Aside0.mk (show (nextL m (b.map (·.f1)) (load.map (·.f1))).length = n from nextL_len _ _ _ _ (by simp [HN.out]) HMR.out.len (by simp [HL2.out]))
      obtain ⟨bx, hbx⟩ : ∃ bx, bx = advL m load b := ⟨_, rfl⟩
      have HBX := Aside0.mk hbx
      have HADV := Aside0.mk (show bx = zipSp (nextL m (b.map (·.f0)) (load.map (·.f0))) (nextL m (b.map (·.f1)) (load.map (·.f1))) from hbx)
      clear hbx
      generalize nextL m (b.map (·.f0)) (load.map (·.f0)) = lo at *
      generalize nextL m (b.map (·.f1)) (load.map (·.f1)) = his at *
      clear hx2 hx3 a0 a1 a2 a3 v0 v1 v2 v3
      go_loopg [11, 12] n (fun gg s11 s12 wr => ∃ i : Nat, i ≤ n ∧ n - i ≤ gg ∧ s12 = .int .i64 i ∧ Aside0 (Below wc.heap.size wc wr) ∧ Aside0 (wr.ownsRow wc.heap.size 48 2 s11 i (spans (bx.take i))))
      case atStart => exact ⟨0, by omega, by omega, rfl, ⟨Below.refl _ _⟩, ⟨own_nil _ _ _ _⟩⟩
      case round =>
        obtain ⟨i, hi, hgi, rfl, HB, HO⟩ := hrel
        by_cases hlt : i < n
        · have y1 : (i : Int) < (n : Int) := by omega
          obtain ⟨ad1, a, rfl, E1, v0⟩ := at_int HC1.out i hlt
          obtain ⟨ad2, c, rfl, E2, v1⟩ := at_int HC2.out i hlt
          have x0 := pw_cell_below HB.out v0
          have x1 := pw_cell_below HB.out v1
          have hfar : ∀ k, k < wc.heap.size → some k ≠ u11.ownBlock := fun k hk e => by have := own_base HO.out k e.symm; omega
          have N0 := Aside0.mk (hfar _ (World.block_lt_of_cell? wc _ v0))
          have N1 := Aside0.mk (hfar _ (World.block_lt_of_cell? wc _ v1))
          have hnx : spans (bx.take (i + 1)) = spans (bx.take i) ++ [.int .i64 a, .int .i64 c] := by
            have hz := zipSp_at lo his i (by have := LLO.out; omega) (by have := LHI.out; omega)
            have ga : lo.getD i 0 = a := by rw [List.getD_eq_getElem?_getD, E1.out]; rfl
            have gc : his.getD i 0 = c := by rw [List.getD_eq_getElem?_getD, E2.out]; rfl
            rw [ga, gc, ← HADV.out] at hz
            rw [List.take_add_one, hz]
            simp [spans]
          have HNX := Aside0.mk hnx
          have LK1 := Aside0.mk (show i + 1 ≤ maxLen by unfold maxLen; omega)
          have LK2 := Aside0.mk (show (i + 1) * 16 ≤ 140737488355328 by omega)
          have LB := Aside0.mk HB.out.size
          obtain ⟨i0, hi0, hz0, hz1, hz2⟩ := info_parts info48
          clear hnx hfar v0 v1
          go_wp2_with fail
          go_region_held3 (fun w' => w'.cell? (ad1.add i) = some (.int .i64 a) ∧ w'.cell? (ad2.add i) = some (.int .i64 c))
            ((go_split_ands; refine ⟨?_, ?_⟩) <;> first | assumption | exact growa.cell (cell_alloc (by assumption) _) N0.out | exact growa.cell (cell_alloc (by assumption) _) N1.out | go_keep)
            (first
            | (refine step_append_lies (o := ⟨some 58, _, _, _, _, _⟩) _ (by rfl) (.tmp 47) (.tmp 57) 22 (by rfl) wc.heap.size 48 i0 _ 2 16 Try.underlying22 hi0 hz0 hz1 hz2 (by rfl) (Nat.succ_pos 1) u11 i (spans (bx.take i)) (by rfl) ?own _ 1 1 [.int .i64 a, .int .i64 c] (by rfl) (by rfl) ?news (by simp [Value.oneCell']) (Nat.succ_pos 0) LK1.out LK2.out ?base _ (by rfl) ?_
               (case own => exact (HO.out.alloc (.cells #[.int .i64 a, .int .i64 c] 48)).drew)
               (case news => exact World.news_of_block (cs := #[.int .i64 a, .int .i64 c]) (t := 48) (fr := (0, 0)) (heap_alloc_new wr (.cells #[.int .i64 a, .int .i64 c] 48)))
               (case base => (have := LB.out; simp; omega))
               intro ga ca wa owna growa ata lta))
          go_wp2_with fail
          go_roundg (n - (i + 1))
          case measure => omega
          case rel =>
            refine ⟨i + 1, by omega, by omega, by go_num, ⟨pw_below_grown (below_drew1 (below_alloc HB.out _)) _ (by have := LB.out; simp; omega) growa (fun k hk => own_base HO.out k hk)⟩, ⟨?_⟩⟩
            rw [HNX.out]
            exact owna
        · have y1 : ¬ (i : Int) < (n : Int) := by omega
          obtain rfl : i = n := by omega
          have h := HO.out
          rw [List.take_of_length_le (by rw [HADV.out, zipSp_len _ _ _ LLO.out LHI.out]; exact Nat.le_refl _)] at h
          have HO := Aside0.mk h
          clear h
          go_wp2_with fail
          go_ret
          exact ⟨_, rfl, by rw [← HBX.out]; exact own_less HO.out HBW.out.size, below_step HBW.out HB.out⟩
end Go.Proofs.Ytppdckjgdamlnaa

namespace Go.Proofs.Ytppdckjgdamlnaa
open Go.RowKit Go.Sort Go.Proofs.YtppdckjgdamlnaaW.PrintWords Go.Proofs.YtppdckjgdamlnaaW.PrintLast Go.Proofs.YtppdckjgdamlnaaW.PrintMore Q Go.Shelf

/-- a flow that the document refuses -/
def refBad (n : Int) (u : List Bool) (f : S99) : Bool :=
  decide (f.f0 < 0) || decide (n ≤ f.f0) || decide (f.f1 < 0) || decide (n ≤ f.f1) || (f.f0 == f.f1) || !inB f.f2 0 65536 || u.getD f.f0.toNat false || u.getD f.f1.toNat false
theorem iteF (b x : Bool) : (if b = true then false else x) = (!b && x) := by cases b <;> rfl
theorem bool_flow (a b c d e g h i j x : Bool) : (!(!a || !b || c) && (!(d || e || g) && (!(h || i || j) && x))) = (!(d || e || h || i || c || !(a && b) || g || j) && x) := by
  cases a <;> cases b <;> cases c <;> cases d <;> cases e <;> cases g <;> cases h <;> cases i <;> cases j <;> rfl
theorem flowsOk_ref (n : Int) (f : S99) (fs : List S99) (u : List Bool) : flowsOk n (f :: fs) u = if refBad n u f then false else flowsOk n fs ((u.set f.f0.toNat true).set f.f1.toNat true) := by
  rw [flowsOk, iteF, iteF, iteF, iteF]
  generalize flowsOk n fs ((u.set f.f0.toNat true).set f.f1.toNat true) = x
  have e1 : decide (f.f2 < 0) = !decide (0 ≤ f.f2) := by by_cases h : f.f2 < 0 <;> simp [h] <;> omega
  have e2 : decide (65536 < f.f2) = !decide (f.f2 ≤ 65536) := by by_cases h : 65536 < f.f2 <;> simp [h] <;> omega
  have h3 : (f.f0 < 0 ∨ f.f1 < 0 ∨ f.f0 = f.f1) ∨ (u.set f.f0.toNat true).getD f.f1.toNat false = u.getD f.f1.toNat false := by
    by_cases h : f.f0 < 0 ∨ f.f1 < 0 ∨ f.f0 = f.f1
    · exact .inl h
    · have : f.f0.toNat ≠ f.f1.toNat := by omega
      exact .inr (by simp [List.getD_eq_getElem?_getD, this])
  simp only [refBad, badAt, inB]
  rcases h3 with (h | h | h) | h
  · simp [h]
  · simp [h]
  · simp [h]
  · rw [h, e1, e2]
    exact bool_flow _ _ _ _ _ _ _ _ _ _

theorem make_bools (n : Nat) (hn : n ≤ 3) (w : World) : (Instr.makeSlice 97 (.int .i64 n) (.int .i64 n)).run Try.prog w = .ok (.slice (some ⟨w.heap.size, 0, none⟩) n n) (w.alloc (.cells (arr3 (List.replicate n false)) 4)) := by
  obtain ⟨i0, hi0, hz0, hz1, hz2⟩ := info_parts info4
  have h := run_makeSlice w 97 4 i0 _ Try.underlying97 hi0 hz0 .i64 .i64 (n : Int) (n : Int) (by omega) (by omega) (by rw [hz1]; omega) (by rw [hz2]; omega) (by omega)
  rw [h, hz1]
  have e : madeCells (Value.bool false).cells (n * 1) = arr3 (List.replicate n false) := by
    apply Array.ext
    · simp [madeCells, arr3]
    · intro i h1 h2
      simp [madeCells, arr3, Value.cells, Nat.mod_one]
  rw [Int.toNat_natCast, e]
theorem heat_in (x : Int) : heatOk x = inB x (-10000) 10000 := by
  rw [Bool.eq_iff_iff]
  simp only [heatOk, inB, Bool.not_eq_true', Bool.or_eq_false_iff, decide_eq_false_iff_not, Bool.and_eq_true, decide_eq_true_eq]
  omega

set_option maxRecDepth 100000 in
set_option maxHeartbeats 4000000 in
theorem modeR_calls (m : S53) (A1 A2 : Option Addr) (c1 c2 : Nat) (n : Nat) (hn : n ≤ 3) (w : World) (h1 : Kd.C (Kd.int .i64) w A1 m.f1.length m.f1) (h2 : Kd.C k99 w A2 m.f2.length m.f2) :
    Calls Try.prog 41 #[.agg #[.int .i64 m.f0, .slice A1 m.f1.length c1, .slice A2 m.f2.length c2], .int .i64 n] w fun e w' => e = .returned (.bool (modeOk m n)) ∧ Below w.heap.size w w' := by
  have hm2 := h2.2.1
  have hm1 := h1.2.1
  have H1 := Aside0.mk h1
  have H2 := Aside0.mk h2
  clear h1 h2
  obtain ⟨W, hW⟩ : ∃ W, W = w.alloc (.cells #[.int .i64 m.f0, .slice A1 m.f1.length c1, .slice A2 m.f2.length c2] 53) := ⟨_, rfl⟩
  have hb : Below w.heap.size w W := by rw [hW]; exact below_alloc (Below.refl _ _) _
  have k0 : W.heap[w.heap.size]? = some (.cells #[.int .i64 m.f0, .slice A1 m.f1.length c1, .slice A2 m.f2.length c2] 53 (0, 0)) := by rw [hW]; exact heap_alloc_new _ _
  have HB0 := Aside0.mk hb
  have K0 := Aside0.mk k0
  have HW := Aside0.mk hW
  clear hW hb k0
  have hcost : (decide (0 ≤ m.f0) && decide (m.f0 ≤ 1073741824)) = inB m.f0 0 1073741824 := rfl
  cases hc : inB m.f0 0 1073741824 with
  | false =>
    have HR := Aside0.mk (show modeOk m n = false by simp only [modeOk, hcost, hc, Bool.false_and])
    have HC := Aside0.mk hc
    clear hc hcost
    go_enter Try.func41, Try.ntmps41
    go_wp2_with fail
    refine (in_calls m.f0 0 1073741824 _).mono ?_
    rintro e w1 ⟨rfl, rfl⟩
    rw [HC.out]
    go_wp2_with fail
    go_ret
    exact ⟨ret_b HR.out.symm, by rw [← HW.out]; exact HB0.out⟩
  | true =>
    by_cases hlen : m.f1.length = n
    · have HC := Aside0.mk hc
      have HL := Aside0.mk hlen
      have y0 : (m.f1.length : Int) = (n : Int) := by omega
      have HMO := Aside0.mk (show modeOk m n = (m.f1.all heatOk && flowsOk n m.f2 [false, false, false]) by simp only [modeOk, hcost, hc, hlen, beq_self_eq_true, Bool.true_and])
      clear hc hcost hlen
      go_enter Try.func41, Try.ntmps41
      go_wp2_with fail
      refine (in_calls m.f0 0 1073741824 _).mono ?_
      rintro e w1 ⟨rfl, rfl⟩
      rw [HC.out]
      rw [← HW.out]
      have x1 := blk_cell K0.out 1
      have x2 := blk_cell K0.out 2
      simp at x1 x2
      clear HW
      go_wp2_with fail
      clear y0 x1 x2
      go_loopg [5] n (fun gg s5 wr => ∃ i : Nat, i ≤ n ∧ n - i ≤ gg ∧ s5 = .int .i64 i ∧ Aside0 (Below W.heap.size W wr) ∧ Aside0 ((m.f1.take i).all heatOk = true))
      case atStart => exact ⟨0, by omega, by omega, rfl, ⟨Below.refl _ _⟩, ⟨by simp⟩⟩
      case round =>
        obtain ⟨i, hi, hgi, rfl, HB, HA⟩ := hrel
        by_cases hlt : i < n
        · have y1 : (i : Int) < (n : Int) := by omega
          have y2 : (i : Int) < (m.f1.length : Int) := by have := HL.out; omega
          obtain ⟨ad, x, rfl, E, x0⟩ := at_int (Kd.C_below H1.out (below_step HB0.out HB.out)) i (by have := HL.out; omega)
          have x1 := blk_cell (pw_blk_below HB.out K0.out) 1
          simp at x1
          go_wp2_with fail
          refine (in_calls x (-10000) 10000 _).mono ?_
          rintro e w2 ⟨rfl, rfl⟩
          cases hh : heatOk x with
          | true =>
            have HA2 := Aside0.mk (show (m.f1.take (i + 1)).all heatOk = true by rw [List.take_add_one, E.out, List.all_append, HA.out]; simp [hh])
            rw [← heat_in, hh]
            clear HA hh
            go_wp2_with fail
            go_roundg (n - (i + 1))
            case measure => omega
            case rel => exact ⟨i + 1, by omega, by omega, by go_num, HB, HA2⟩
          | false =>
            have HR := Aside0.mk (show modeOk m n = false by
              rw [HMO.out, show m.f1.all heatOk = false from List.all_eq_false.2 ⟨x, List.mem_of_getElem? E.out, by rw [hh]; decide⟩, Bool.false_and])
            rw [← heat_in, hh]
            clear HA hh
            go_wp2_with fail
            go_ret
            exact ⟨ret_b HR.out.symm, below_step HB0.out HB.out⟩
        · have y1 : ¬ (i : Int) < (n : Int) := by omega
          obtain rfl : i = n := by omega
          have hall : m.f1.all heatOk = true := by have := HA.out; rw [List.take_of_length_le (by rw [HL.out]; exact Nat.le_refl _)] at this; exact this
          have HMF := Aside0.mk (show modeOk m i = flowsOk i m.f2 [false, false, false] by rw [HMO.out, hall, Bool.true_and])
          have hmk := fun W_ => make_bools i hn W_
          clear HA hall HMO
          go_wp2_with fail
          obtain ⟨W1, hW1⟩ : ∃ W1, W1 = wr.alloc (.cells (arr3 (List.replicate i false)) 4) := ⟨_, rfl⟩
          have HB1 := Aside0.mk (show Below W.heap.size W W1 by rw [hW1]; exact below_alloc HB.out _)
          have HU := Aside0.mk (show W1.heap[wr.heap.size]? = some (.cells (arr3 (([false, false, false] : List Bool).take i)) 4 (0, 0)) by
            rw [hW1, heap_alloc_new]
            obtain rfl | rfl | rfl | rfl : i = 0 ∨ i = 1 ∨ i = 2 ∨ i = 3 := by omega
            all_goals rfl)
          have HUS := Aside0.mk HB.out.size
          rw [← hW1]
          clear hW1 HB hmk
          generalize wr.heap.size = U at *
          go_loopg [7] m.f2.length (fun gg s7 wi => ∃ (j : Nat) (u : List Bool), j ≤ m.f2.length ∧ m.f2.length - j ≤ gg ∧ s7 = .int .i64 j ∧ Aside0 (u.length = 3) ∧ Aside0 (Below W.heap.size W wi) ∧ Aside0 (wi.heap[U]? = some (.cells (arr3 (u.take i)) 4 (0, 0))) ∧ Aside0 (flowsOk i (m.f2.drop j) u = flowsOk i m.f2 [false, false, false]))
          case atStart => exact ⟨0, _, by omega, by omega, rfl, ⟨rfl⟩, HB1, HU, ⟨by rw [List.drop_zero]⟩⟩
          case round =>
            clear HB1 HU
            obtain ⟨j, u, hj, hgj, rfl, HU3, HB, HU, HA⟩ := hrel
            have x2 := blk_cell (pw_blk_below HB.out K0.out) 2
            simp at x2
            by_cases hlt2 : j < m.f2.length
            · have y2 : (j : Int) < (m.f2.length : Int) := by omega
              obtain ⟨ad, f, rfl, E, e0, e1, e2⟩ := at99 (Kd.C_below H2.out (below_step HB0.out HB.out)) j hlt2
              go_upto_region 13 with (fail)
              obtain ⟨f0, f1, f2⟩ := f
              simp only at e0 e1 e2
              obtain ⟨W3, hW3⟩ : ∃ W3, W3 = wr.alloc (.cells #[.int .i64 f0, .int .i64 f1, .int .i64 f2] 99) := ⟨_, rfl⟩
              have hb3 : Below wr.heap.size wr W3 := by rw [hW3]; exact below_alloc (Below.refl _ _) _
              have k3 : W3.heap[wr.heap.size]? = some (.cells #[.int .i64 f0, .int .i64 f1, .int .i64 f2] 99 (0, 0)) := by rw [hW3]; exact heap_alloc_new _ _
              rw [← hW3]
              clear hW3 e0 e1 e2 x2
              have HB3 := Aside0.mk (below_then HB.out HB.out.size hb3)
              have HU4 := Aside0.mk (pw_blk_below hb3 HU.out)
              have K3 := Aside0.mk k3
              have b0 := blk_cell k3 0
              have b1 := blk_cell k3 1
              have b2 := blk_cell k3 2
              simp at b0 b1 b2
              have hflow : flowsOk i (m.f2.drop j) u = if refBad i u ⟨f0, f1, f2⟩ then false else flowsOk i (m.f2.drop (j + 1)) ((u.set f0.toNat true).set f1.toNat true) := by rw [drop_cons E.out, flowsOk_ref]
              have HFL := Aside0.mk hflow
              have HBADR := Aside0.mk (fun h : refBad i u ⟨f0, f1, f2⟩ = true => show modeOk m i = false by rw [HMF.out, ← HA.out, hflow, if_pos h])
              have hul : U < wr.heap.size := blk_lt HU.out
              clear hb3 k3 HU hflow
              generalize wr.heap.size = X at *
              by_cases hA : f0 < 0 ∨ (i : Int) ≤ f0 ∨ f1 < 0 ∨ (i : Int) ≤ f1 ∨ f0 = f1
              · have hbad : refBad i u ⟨f0, f1, f2⟩ = true := by
                  simp only [refBad, Bool.or_eq_true, decide_eq_true_eq, beq_iff_eq]
                  rcases hA with h | h | h | h | h <;> simp [h]
                have HR := Aside0.mk (HBADR.out hbad)
                have hd : decide (f0 < 0) = true ∨ (decide (f0 < 0) = false ∧ decide ((i : Int) ≤ f0) = true) ∨ (decide (f0 < 0) = false ∧ decide ((i : Int) ≤ f0) = false ∧ decide (f1 < 0) = true) ∨
                    (decide (f0 < 0) = false ∧ decide ((i : Int) ≤ f0) = false ∧ decide (f1 < 0) = false ∧ decide ((i : Int) ≤ f1) = true) ∨ (decide (f0 < 0) = false ∧ decide ((i : Int) ≤ f0) = false ∧ decide (f1 < 0) = false ∧ decide ((i : Int) ≤ f1) = false ∧ (f0 == f1) = true) := by
                  simp only [decide_eq_true_eq, decide_eq_false_iff_not, beq_iff_eq]; omega
                clear hA hbad HBADR
                rcases hd with q0 | ⟨q0, q1⟩ | ⟨q0, q1, q2⟩ | ⟨q0, q1, q2, q3⟩ | ⟨q0, q1, q2, q3, q4⟩
                all_goals
                  go_wp2_with fail
                  go_ret
                  exact ⟨ret_b HR.out.symm, below_step HB0.out HB3.out⟩
              · obtain ⟨a, rfl⟩ := Int.eq_ofNat_of_zero_le (show 0 ≤ f0 by omega)
                obtain ⟨b, rfl⟩ := Int.eq_ofNat_of_zero_le (show 0 ≤ f1 by omega)
                have z1 : ¬ (i : Int) ≤ (a : Int) := by omega
                have z2 : ¬ (i : Int) ≤ (b : Int) := by omega
                have z3 : ((a : Int) == (b : Int)) = false := by rw [beq_eq_false_iff_ne]; omega
                have z4 : (a : Int) < (i : Int) := by omega
                have z5 : (b : Int) < (i : Int) := by omega
                have z6 : a < i := by omega
                have z7 : b < i := by omega
                have z8 : ¬ (a : Int) < 0 := by omega
                have z9 : ¬ (b : Int) < 0 := by omega
                have HZ := Aside0.mk (show ∀ x, refBad i u ⟨a, b, f2⟩ = x ↔ (!inB f2 0 65536 || u.getD a false || u.getD b false) = x by
                  intro x
                  simp only [refBad, decide_eq_false z8, decide_eq_false z9, decide_eq_false z1, decide_eq_false z2, z3, Int.toNat_natCast, Bool.false_or])
                clear hA
                have u0 : W3.cell? ⟨U, a, none⟩ = some (.bool (u.getD a false)) := by
                  rw [blk_cell HU4.out]
                  have := arr3_at (u.take i) a (by omega) (by have := HU3.out; simp; omega)
                  rw [Int.toNat_natCast] at this
                  rw [this]; simp [List.getD_eq_getElem?_getD, List.getElem?_take, z6]
                have u1 : W3.cell? ⟨U, b, none⟩ = some (.bool (u.getD b false)) := by
                  rw [blk_cell HU4.out]
                  have := arr3_at (u.take i) b (by omega) (by have := HU3.out; simp; omega)
                  rw [Int.toNat_natCast] at this
                  rw [this]; simp [List.getD_eq_getElem?_getD, List.getElem?_take, z7]
                go_wp2_with fail
                refine (in_calls f2 0 65536 _).mono ?_
                rintro e w3 ⟨rfl, rfl⟩
                cases hp : inB f2 0 65536 with
                | false =>
                  have HR := Aside0.mk (HBADR.out ((HZ.out true).2 (by rw [hp]; rfl)))
                  clear hp
                  go_wp2_with fail
                  go_ret
                  exact ⟨ret_b HR.out.symm, below_step HB0.out HB3.out⟩
                | true =>
                have HPP := Aside0.mk hp
                clear hp
                cases hua : u.getD a false with
                | true =>
                  rw [hua] at u0
                  have HR := Aside0.mk (HBADR.out ((HZ.out true).2 (by rw [HPP.out, hua]; rfl)))
                  clear hua
                  go_wp2_with fail
                  go_ret
                  exact ⟨ret_b HR.out.symm, below_step HB0.out HB3.out⟩
                | false =>
                rw [hua] at u0
                have HUA := Aside0.mk hua
                clear hua
                cases hub : u.getD b false with
                | true =>
                  rw [hub] at u1
                  have HR := Aside0.mk (HBADR.out ((HZ.out true).2 (by rw [HPP.out, HUA.out, hub]; rfl)))
                  clear hub
                  go_wp2_with fail
                  go_ret
                  exact ⟨ret_b HR.out.symm, below_step HB0.out HB3.out⟩
                | false =>
                rw [hub] at u1
                have HUB := Aside0.mk hub
                clear hub
                have HA2 := Aside0.mk (show flowsOk i (m.f2.drop (j + 1)) ((u.set a true).set b true) = flowsOk i m.f2 [false, false, false] by
                  have h := HFL.out
                  rw [if_neg (by rw [(HZ.out false).2 (by rw [HPP.out, HUA.out, HUB.out]; rfl)]; decide)] at h
                  exact h.symm.trans HA.out)
                have fz := blk_frozen HU4.out a
                clear HA HFL HBADR HZ
                go_upto_region 16 with (fail)
                obtain ⟨W4, hW4⟩ : ∃ W4, W4 = W3.setCell ⟨U, a, none⟩ (.bool true) := ⟨_, rfl⟩
                have K4 := Aside0.mk (show W4.heap[X]? = some (.cells #[.int .i64 a, .int .i64 b, .int .i64 f2] 99 (0, 0)) by rw [hW4]; exact (Below.heap_setCell W3 _ _ X (by simp; omega)).trans K3.out)
                have HU5 := Aside0.mk (show W4.heap[U]? = some (.cells (arr3 ((u.set a true).take i)) 4 (0, 0)) by rw [hW4, List.take_set, ← arr3_set]; exact blk_set HU4.out a _)
                have HB5 := Aside0.mk (show Below W.heap.size W W4 by rw [hW4]; exact HB3.out.setCell (p := ⟨U, a, none⟩) HUS.out _)
                rw [← hW4]
                clear hW4 u0 u1 fz b0 b1 b2
                have b1 := blk_cell K4.out 1
                simp at b1
                have fz := blk_frozen HU5.out b
                have u2 : W4.cell? ⟨U, b, none⟩ = some (.bool ((u.set a true).getD b false)) := by
                  rw [blk_cell HU5.out]
                  have := arr3_at ((u.set a true).take i) b (by omega) (by have := HU3.out; simp; omega)
                  rw [Int.toNat_natCast] at this
                  rw [this]; simp only [List.getD_eq_getElem?_getD, List.getElem?_take, z7, if_true]
                generalize (u.set a true).getD b false = ub at u2
                go_wp2_with fail
                clear b1 fz u2
                have HU6 := Aside0.mk (show (W4.setCell ⟨U, b, none⟩ (.bool true)).heap[U]? = some (.cells (arr3 (((u.set a true).set b true).take i)) 4 (0, 0)) by rw [List.take_set, ← arr3_set]; exact blk_set HU5.out b _)
                have HB6 := Aside0.mk (show Below W.heap.size W (W4.setCell ⟨U, b, none⟩ (.bool true)) from HB5.out.setCell (p := ⟨U, b, none⟩) HUS.out _)
                go_roundg (m.f2.length - (j + 1))
                case measure => omega
                case rel => exact ⟨j + 1, (u.set a true).set b true, by omega, by omega, by go_num, ⟨by simp [HU3.out]⟩, HB6, HU6, HA2⟩
            · have y2 : ¬ (j : Int) < (m.f2.length : Int) := by omega
              obtain rfl : j = m.f2.length := by omega
              have h := HA.out
              rw [List.drop_length] at h
              have HR := Aside0.mk (show modeOk m i = true from HMF.out.trans h.symm)
              clear h
              go_wp2_with fail
              go_ret
              exact ⟨ret_b HR.out.symm, below_step HB0.out HB.out⟩
    · have HR := Aside0.mk (show modeOk m n = false by simp only [modeOk, beq_eq_false_iff_ne.2 hlen, Bool.and_false, Bool.false_and])
      have HC := Aside0.mk hc
      have y0 : ¬ (m.f1.length : Int) = (n : Int) := by omega
      clear hc hcost
      go_enter Try.func41, Try.ntmps41
      go_wp2_with fail
      refine (in_calls m.f0 0 1073741824 _).mono ?_
      rintro e w1 ⟨rfl, rfl⟩
      rw [HC.out]
      go_wp2_with fail
      go_ret
      exact ⟨ret_b HR.out.symm, by rw [← HW.out]; exact HB0.out⟩
end Go.Proofs.Ytppdckjgdamlnaa

namespace Go.Proofs.Ytppdckjgdamlnaa
open Go.RowKit Go.Sort Go.Proofs.YtppdckjgdamlnaaW.PrintWords Go.Proofs.YtppdckjgdamlnaaW.PrintLast Go.Proofs.YtppdckjgdamlnaaW.PrintMore Q Go.Shelf

theorem spansB_eq (xs : List S48) (n : Nat) : spansB xs n 10000 = boxOk n xs := by
  unfold spansB boxOk withinB
  congr 1
  · rw [Bool.eq_iff_iff]; simp; omega
  · congr 1; funext x; exact spanB_eq x 10000 (by omega)
theorem insideR_eq : ∀ (lim b : List S48), (∀ x ∈ lim, -10000 ≤ x.f0 ∧ x.f0 ≤ x.f1 ∧ x.f1 ≤ 10000) → b.length = lim.length → insideR lim b = insideB lim b := by
  intro lim b hx hl
  unfold insideR
  rw [decide_eq_true hl, Bool.true_and]
  induction lim generalizing b with
  | nil =>
    obtain rfl : b = [] := List.length_eq_zero_iff.1 (by simpa using hl)
    rfl
  | cons l ls ih =>
    match b, hl with
    | x :: bs, hl =>
      rw [List.zip_cons_cons, List.all_cons, insideB, ih bs (fun y hy => hx y (List.mem_cons_of_mem _ hy)) (by simpa using hl)]
      congr 1
      have := hx l List.mem_cons_self
      rw [Bool.eq_iff_iff]
      simp only [okSp, insideS, validS, validSp, isQ, Bool.and_eq_true, decide_eq_true_eq, Bool.not_eq_true', decide_eq_false_iff_not]
      omega
def checkR (s : Sys) : Bool := lensOk s && spansB s.lim s.lim.length 10000 && spansB s.start s.lim.length 10000 && insideR s.lim s.start && s.loads.all (spansB · s.lim.length 10000) && s.modes.all (modeOk · s.lim.length)
theorem checkR_eq (s : Sys) : checkR s = checkB s := by
  unfold checkR checkB
  simp only [spansB_eq]
  by_cases h : boxOk s.lim.length s.lim = true ∧ boxOk s.lim.length s.start = true
  · rw [insideR_eq _ _ (boxOk_spec h.1).2 (boxOk_spec h.2).1]
  · simp only [not_and, Bool.not_eq_true] at h
    cases h1 : boxOk s.lim.length s.lim with
    | false => simp
    | true => rw [h h1]; simp

theorem CheckR_lens (s : Sys) (A0 A1 A2 A3 : Option Addr) (c0 c1 c2 c3 : Nat) (w : World) (h : lensOk s = false) :
    Calls Try.prog 15 #[sysV s A0 A1 A2 A3 c0 c1 c2 c3] w fun e w' => e = .returned (.int .i64 2) ∧ Below w.heap.size w w' := by
  have h5 : s.lim.length < 1 ∨ 3 < s.lim.length ∨ s.modes.length < 1 ∨ 8 < s.modes.length ∨ 48 < s.loads.length := by
    simp only [lensOk, Bool.and_eq_false_iff, decide_eq_false_iff_not] at h
    omega
  have hd : (s.lim.length : Int) < 1 ∨ (¬ (s.lim.length : Int) < 1 ∧ (3 : Int) < s.lim.length) ∨ (¬ (s.lim.length : Int) < 1 ∧ ¬ (3 : Int) < s.lim.length ∧ (s.modes.length : Int) < 1) ∨
    (¬ (s.lim.length : Int) < 1 ∧ ¬ (3 : Int) < s.lim.length ∧ ¬ (s.modes.length : Int) < 1 ∧ (8 : Int) < s.modes.length) ∨ (¬ (s.lim.length : Int) < 1 ∧ ¬ (3 : Int) < s.lim.length ∧ ¬ (s.modes.length : Int) < 1 ∧ ¬ (8 : Int) < s.modes.length ∧ (48 : Int) < s.loads.length) := by omega
  clear h h5
  simp only [sysV]
  rcases hd with q0 | ⟨q0, q1⟩ | ⟨q0, q1, q2⟩ | ⟨q0, q1, q2, q3⟩ | ⟨q0, q1, q2, q3, q4⟩
  all_goals
    go_enter Try.func15, Try.ntmps15
    go_wp2_with fail
    go_ret
    exact ⟨rfl, below_alloc (Below.refl _ _) _⟩

set_option maxRecDepth 100000 in
set_option maxHeartbeats 4000000 in
theorem CheckR_calls (s : Sys) (A0 A1 A2 A3 : Option Addr) (c0 c1 c2 c3 : Nat) (w : World) (hs : SysAt w s A0 A1 A2 A3 c0 c1 c2 c3) :
    Calls Try.prog 15 #[sysV s A0 A1 A2 A3 c0 c1 c2 c3] w fun e w' => e = .returned (.int .i64 (checkE s)) ∧ Below w.heap.size w w' := by
  by_cases h : lensOk s = false
  · have := CheckR_lens s A0 A1 A2 A3 c0 c1 c2 c3 w h
    have e : checkE s = 2 := by simp [checkE, checkB, h]
    rw [e]; exact this
  rw [Bool.not_eq_false] at h
  have HCE := Aside0.mk (show checkE s = if checkR s then 0 else 2 by rw [checkR_eq]; rfl)
  have HLO := Aside0.mk h
  simp only [lensOk, Bool.and_eq_true, decide_eq_true_eq] at h
  obtain ⟨⟨⟨⟨p0, p1⟩, p2⟩, p3⟩, p4⟩ := h
  have q0 : ¬ (s.lim.length : Int) < 1 := by omega
  have q1 : ¬ (3 : Int) < (s.lim.length : Int) := by omega
  have q2 : ¬ (s.modes.length : Int) < 1 := by omega
  have q3 : ¬ (8 : Int) < (s.modes.length : Int) := by omega
  have q4 : ¬ (48 : Int) < (s.loads.length : Int) := by omega
  have HS := Aside0.mk hs
  have HP1 := Aside0.mk p1
  clear hs p0 p1 p2 p3 p4
  simp only [sysV]
  go_enter Try.func15, Try.ntmps15
  go_wp2_with fail
  obtain ⟨W, hW⟩ : ∃ W, W = w.alloc (.cells #[.slice A0 s.lim.length c0, .slice A1 s.start.length c1, .slice A2 s.modes.length c2, .slice A3 s.loads.length c3] 26) := ⟨_, rfl⟩
  have HB := Aside0.mk (show Below w.heap.size w W by rw [hW]; exact below_alloc (Below.refl _ _) _)
  have K0 := Aside0.mk (show W.heap[w.heap.size]? = some (.cells #[.slice A0 s.lim.length c0, .slice A1 s.start.length c1, .slice A2 s.modes.length c2, .slice A3 s.loads.length c3] 26 (0, 0)) by rw [hW]; exact heap_alloc_new _ _)
  rw [← hW]
  clear hW
  refine (spans_calls A0 c0 s.lim s.lim.length 10000 (by omega) (by omega) W (HS.out.below HB.out).r0).mono ?_
  rintro e w1 ⟨rfl, hb⟩
  replace HB := Aside0.mk (below_step HB.out hb)
  replace K0 := Aside0.mk (pw_blk_below hb K0.out)
  clear hb
  have x0 := blk_cell K0.out 0
  have x1 := blk_cell K0.out 1
  have x2 := blk_cell K0.out 2
  have x3 := blk_cell K0.out 3
  simp at x0 x1 x2 x3
  cases hx : spansB s.lim s.lim.length 10000 with
  | false =>
    have HX := Aside0.mk hx
    clear hx
    go_wp2_with fail
    go_ret
    exact ⟨ret_i (by rw [HCE.out]; simp [checkR, HX.out]), HB.out⟩
  | true =>
  have X1 := Aside0.mk hx
  clear hx
  go_wp2_with fail
  refine (spans_calls A1 c1 s.start s.lim.length 10000 (by omega) (by omega) _ (HS.out.below HB.out).r1).mono ?_
  clear x0 x1 x2 x3
  rintro e w2 ⟨rfl, hb⟩
  replace HB := Aside0.mk (below_step HB.out hb)
  replace K0 := Aside0.mk (pw_blk_below hb K0.out)
  clear hb
  have x0 := blk_cell K0.out 0
  have x1 := blk_cell K0.out 1
  have x2 := blk_cell K0.out 2
  have x3 := blk_cell K0.out 3
  simp at x0 x1 x2 x3
  cases hx : spansB s.start s.lim.length 10000 with
  | false =>
    have HX := Aside0.mk hx
    clear hx
    go_wp2_with fail
    go_ret
    exact ⟨ret_i (by rw [HCE.out]; simp [checkR, HX.out]), HB.out⟩
  | true =>
  have X2 := Aside0.mk hx
  clear hx
  go_wp2_with fail
  refine (InsideR_calls s A0 A1 A2 A3 c0 c1 c2 c3 A1 c1 s.start _ (HS.out.below HB.out) (HS.out.below HB.out).r1).mono ?_
  clear x0 x1 x2 x3
  rintro e w3 ⟨rfl, hb⟩
  replace HB := Aside0.mk (below_step HB.out hb)
  replace K0 := Aside0.mk (pw_blk_below hb K0.out)
  clear hb
  have x0 := blk_cell K0.out 0
  have x1 := blk_cell K0.out 1
  have x2 := blk_cell K0.out 2
  have x3 := blk_cell K0.out 3
  simp at x0 x1 x2 x3
  cases hx : insideR s.lim s.start with
  | false =>
    have HX := Aside0.mk hx
    clear hx
    go_wp2_with fail
    go_ret
    exact ⟨ret_i (by rw [HCE.out]; simp [checkR, HX.out]), HB.out⟩
  | true =>
  have X3 := Aside0.mk hx
  clear hx
  go_wp2_with fail
  clear x0 x1 x2 x3
  go_loopg [4] s.loads.length (fun gg s4 wr => ∃ i : Nat, i ≤ s.loads.length ∧ s.loads.length - i ≤ gg ∧ s4 = .int .i64 i ∧ Aside0 (Below w.heap.size w wr) ∧ Aside0 (wr.heap[w.heap.size]? = some (.cells #[.slice A0 s.lim.length c0, .slice A1 s.start.length c1, .slice A2 s.modes.length c2, .slice A3 s.loads.length c3] 26 (0, 0))) ∧ Aside0 ((s.loads.take i).all (spansB · s.lim.length 10000) = true))
  case atStart => exact ⟨0, by omega, by omega, rfl, HB, K0, ⟨by simp⟩⟩
  case round =>
    clear HB K0
    obtain ⟨i, hi, hgi, rfl, HB, K0, HA⟩ := hrel
    have x2 := blk_cell K0.out 2
    have x3 := blk_cell K0.out 3
    simp at x2 x3
    have hl48 := (HS.out.below HB.out).r3.2.1
    by_cases hlt : i < s.loads.length
    · have y1 : (i : Int) < (s.loads.length : Int) := by omega
      obtain ⟨ad, ld, Al, cl, rfl, E, v0, LL, LC⟩ := atL48 (HS.out.below HB.out).r3 i hlt
      go_wp2_with fail
      refine (spans_calls Al cl ld s.lim.length 10000 (by omega) (by omega) _ LC.out).mono ?_
      clear x2 x3 v0
      rintro e w4 ⟨rfl, hb⟩
      replace HB := Aside0.mk (below_step HB.out hb)
      replace K0 := Aside0.mk (pw_blk_below hb K0.out)
      clear hb LC
      cases hx : spansB ld s.lim.length 10000 with
      | false =>
        have HR := Aside0.mk (show checkR s = false by
          have : s.loads.all (spansB · s.lim.length 10000) = false := List.all_eq_false.2 ⟨ld, List.mem_of_getElem? E.out, by rw [hx]; decide⟩
          simp [checkR, this])
        clear hx
        go_wp2_with fail
        go_ret
        exact ⟨ret_i (by rw [HCE.out, HR.out]; rfl), HB.out⟩
      | true =>
        have HA2 := Aside0.mk (show (s.loads.take (i + 1)).all (spansB · s.lim.length 10000) = true by rw [List.take_add_one, E.out, List.all_append, HA.out]; simp [hx])
        clear HA hx
        go_wp2_with fail
        go_roundg (s.loads.length - (i + 1))
        case measure => omega
        case rel => exact ⟨i + 1, by omega, by omega, by go_num, HB, K0, HA2⟩
    · have y1 : ¬ (i : Int) < (s.loads.length : Int) := by omega
      obtain rfl : i = s.loads.length := by omega
      have XL := Aside0.mk (show s.loads.all (spansB · s.lim.length 10000) = true by have := HA.out; rwa [List.take_length] at this)
      clear HA
      go_wp2_with fail
      clear x2 x3 y1 hl48
      go_loopg [5] s.modes.length (fun gg s5 wr2 => ∃ j : Nat, j ≤ s.modes.length ∧ s.modes.length - j ≤ gg ∧ s5 = .int .i64 j ∧ Aside0 (Below w.heap.size w wr2) ∧ Aside0 (wr2.heap[w.heap.size]? = some (.cells #[.slice A0 s.lim.length c0, .slice A1 s.start.length c1, .slice A2 s.modes.length c2, .slice A3 s.loads.length c3] 26 (0, 0))) ∧ Aside0 ((s.modes.take j).all (modeOk · s.lim.length) = true))
      case atStart => exact ⟨0, by omega, by omega, rfl, HB, K0, ⟨by simp⟩⟩
      case round =>
        clear HB K0
        obtain ⟨j, hj, hgj, rfl, HB, K0, HA⟩ := hrel
        have x2 := blk_cell K0.out 2
        simp at x2
        have hl53 := (HS.out.below HB.out).r2.2.1
        by_cases hlt2 : j < s.modes.length
        · have y2 : (j : Int) < (s.modes.length : Int) := by omega
          obtain ⟨ad, m, Am, cm, Af, cf, rfl, E, v0, v1, v2, M1, M2, M3, M4⟩ := at53 (HS.out.below HB.out).r2 j hlt2
          go_wp2_with fail
          refine (modeR_calls m Am Af cm cf s.lim.length HP1.out _ M2.out M4.out).mono ?_
          clear x2 v0 v1 v2
          rintro e w5 ⟨rfl, hb⟩
          replace HB := Aside0.mk (below_step HB.out hb)
          replace K0 := Aside0.mk (pw_blk_below hb K0.out)
          clear hb M2 M4
          cases hx : modeOk m s.lim.length with
          | false =>
            have HR := Aside0.mk (show checkR s = false by
              have : s.modes.all (modeOk · s.lim.length) = false := List.all_eq_false.2 ⟨m, List.mem_of_getElem? E.out, by rw [hx]; decide⟩
              simp [checkR, this])
            clear hx
            go_wp2_with fail
            go_ret
            exact ⟨ret_i (by rw [HCE.out, HR.out]; rfl), HB.out⟩
          | true =>
            have HA2 := Aside0.mk (show (s.modes.take (j + 1)).all (modeOk · s.lim.length) = true by rw [List.take_add_one, E.out, List.all_append, HA.out]; simp [hx])
            clear HA hx
            go_wp2_with fail
            go_roundg (s.modes.length - (j + 1))
            case measure => omega
            case rel => exact ⟨j + 1, by omega, by omega, by go_num, HB, K0, HA2⟩
        · have y2 : ¬ (j : Int) < (s.modes.length : Int) := by omega
          obtain rfl : j = s.modes.length := by omega
          have HR := Aside0.mk (show checkR s = true by
            have h := HA.out
            rw [List.take_length] at h
            simp only [checkR, HLO.out, X1.out, X2.out, X3.out, XL.out, h, Bool.and_self])
          clear HA
          go_wp2_with fail
          go_ret
          exact ⟨ret_i (by rw [HCE.out, HR.out]; rfl), HB.out⟩
end Go.Proofs.Ytppdckjgdamlnaa

namespace Go.Proofs.Ytppdckjgdamlnaa
open Go.RowKit Go.Sort Go.Proofs.YtppdckjgdamlnaaW.PrintWords Go.Proofs.YtppdckjgdamlnaaW.PrintLast Go.Proofs.YtppdckjgdamlnaaW.PrintMore Q Go.Shelf

theorem own_C48 {W : World} {base n : Nat} {v : Value} {xs : List S48} (h : W.ownsRow base 48 2 v n (spans xs)) (hl : xs.length = n) (hm : n ≤ 9223372036854775807) : ∃ A c, v = .slice A n c ∧ n ≤ c ∧ Kd.C k48 W A n xs := by
  obtain ⟨hlen, ⟨rfl, rfl⟩ | ⟨g, cap, cur, rfl, hb, hk, hc, hmx, hs, ht⟩⟩ := h
  · exact ⟨none, 0, rfl, Nat.le_refl _, hl, by omega, fun hp => absurd hp (by omega)⟩
  · refine ⟨_, cap, rfl, hc, hl, hm, fun _ => ⟨_, rfl, fun j p hp => ⟨[.int .i64 p.f0, .int .i64 p.f1], rfl, k48_mk _ p, fun i u hu => ?_⟩⟩⟩
    have hget : ∀ (q : Nat) (x : Value), (spans xs)[q]? = some x → cur[q]? = some x := by
      intro q x hx
      rw [← ht, List.getElem?_take] at hx
      split at hx
      · simpa using hx
      · cases hx
    rw [add_plain, blk_cell hk]
    obtain ⟨h0, h1⟩ := spans_at xs j p hp
    match i, hu with
    | 0, hu => cases hu; exact hget _ _ h0
    | 1, hu => cases hu; exact hget _ _ h1
theorem find_calls2 (A : Option Addr) (c : Nat) (ns : List S31) (slot : Int) (B : Option Addr) (cb : Nat) (b : List S48) (n nb : Nat) (w : World) (hn : Kd.C k31 w A n ns) (hb : Kd.C k48 w B nb b) :
    Calls Try.prog 37 #[.slice A n c, .int .i64 slot, .slice B nb cb] w fun e w' => e = .returned (.int .i64 (idxI (findK (ns.map keyN) (slot, b)))) ∧ Below w.heap.size w w' := by
  obtain rfl := hn.1
  obtain rfl := hb.1
  exact find_calls A c ns slot B cb b w hn hb
theorem InsideR_calls2 (s : Sys) (A0 A1 A2 A3 : Option Addr) (c0 c1 c2 c3 : Nat) (B : Option Addr) (cb : Nat) (b : List S48) (n : Nat) (w : World) (hs : SysAt w s A0 A1 A2 A3 c0 c1 c2 c3) (hr : Kd.C k48 w B n b) :
    Calls Try.prog 38 #[sysV s A0 A1 A2 A3 c0 c1 c2 c3, .slice B n cb] w fun e w' => e = .returned (.bool (insideR s.lim b)) ∧ Below w.heap.size w w' := by
  obtain rfl := hr.1
  exact InsideR_calls s A0 A1 A2 A3 c0 c1 c2 c3 B cb b w hs hr
theorem C31_take {w : World} {A : Option Addr} {n : Nat} {xs : List S31} (h : Kd.C k31 w A n xs) (i : Nat) (hi : i ≤ n) : Kd.C k31 w A i (xs.take i) := by
  refine ⟨by have := h.1; simp; omega, by have := h.2.1; omega, fun hp => ?_⟩
  obtain ⟨ad, e, hc⟩ := h.2.2 (by omega)
  refine ⟨ad, e, fun j p hj => hc j p ?_⟩
  rw [List.getElem?_take] at hj
  split at hj
  · exact hj
  · cases hj

theorem flowsOk_part (n : Int) : ∀ (fs : List S99) (u : List Bool), flowsOk n fs u = true → ∀ f ∈ fs, 0 ≤ f.f2 ∧ f.f2 ≤ 65536 := by
  intro fs
  induction fs with
  | nil => intro u _ f hf; cases hf
  | cons f fs ih =>
    intro u h g hg
    rw [flowsOk_ref] at h
    split at h
    · cases h
    · rename_i hb
      rcases List.mem_cons.1 hg with rfl | hg
      · simp only [refBad, inB, Bool.or_eq_true, decide_eq_true_eq, not_or, Bool.not_eq_true', Bool.and_eq_false_iff, decide_eq_false_iff_not] at hb
        omega
      · exact ih _ h g hg
theorem Ok.modeR {s : Sys} (h : Ok s) {k : Nat} {m : S53} (hm : s.modes[k]? = some m) : ModeR m s.lim.length :=
  ⟨(h.mode hm).len, (h.mode hm).inn, flowsOk_part _ _ _ (h.mode hm).flows⟩
theorem insideR_spec {lim b : List S48} (h : insideR lim b = true) (hl : ∀ x ∈ lim, -10000 ≤ x.f0 ∧ x.f0 ≤ x.f1 ∧ x.f1 ≤ 10000) : b.length = lim.length ∧ ∀ x ∈ b, -10000 ≤ x.f0 ∧ x.f0 ≤ x.f1 ∧ x.f1 ≤ 10000 := by
  simp only [insideR, Bool.and_eq_true, decide_eq_true_eq, List.all_eq_true] at h
  refine ⟨h.1, fun x hx => ?_⟩
  obtain ⟨i, hi, rfl⟩ := List.mem_iff_getElem.1 hx
  have hi2 : i < lim.length := by omega
  have hz : (b[i], lim[i]) ∈ b.zip lim := List.mem_of_getElem? (zip_at (List.getElem?_eq_getElem hi) (List.getElem?_eq_getElem hi2))
  have h1 := h.2 _ hz
  have h2 := hl lim[i] (List.getElem_mem hi2)
  simp only [okSp, Bool.and_eq_true, decide_eq_true_eq] at h1
  omega

def boxL (s : Sys) (x : S31) (k : Nat) : List S48 := advL (s.modes.getD k z53) (s.loads.getD x.f0.toNat []) x.f1
def wayBadR (s : Sys) (ns : List S31) (x : S31) (k : Nat) : Bool :=
  insideR s.lim (boxL s x k) && match findK (ns.map keyN) (x.f0 + 1, boxL s x k) with
  | none => true
  | some j => decide ((ns.getD j z31).f2 < x.f2 - costOf s k)
def nodeBadR (s : Sys) (ns : List S31) (x : S31) : Bool :=
  if x.f0 = s.loads.length then !decide (x.f2 = 0) else insideR s.lim x.f1 && (List.range s.modes.length).any (wayBadR s ns x)
def badAtR (s : Sys) (ns : List S31) (i : Nat) : Bool := match ns[i]? with
  | none => false
  | some x => !formB s x || (findK ((ns.take i).map keyN) (keyN x)).isSome
/-- what the document's Prove returns -/
def proveR (s : Sys) (cost : Int) (ns : List S31) : Int :=
  if checkB s = false then 2
  else if 5000 < ns.length then 6
  else if (List.range ns.length).any (badAtR s ns) then 8
  else match findK (ns.map keyN) (0, s.start) with
    | none => 19
    | some i => if (ns.getD i z31).f2 < cost then 19 else if ns.any (nodeBadR s ns) then 19 else 0

set_option maxRecDepth 1000000 in
set_option maxHeartbeats 8000000 in
theorem ProveR_calls (s : Sys) (A0 A1 A2 A3 : Option Addr) (c0 c1 c2 c3 : Nat) (cost : Int) (N : Option Addr) (cn : Nat) (ns : List S31) (w : World) (hs : SysAt w s A0 A1 A2 A3 c0 c1 c2 c3) (hn : Kd.C k31 w N ns.length ns) (hcn : ns.length ≤ cn) :
    Calls Try.prog 13 #[sysV s A0 A1 A2 A3 c0 c1 c2 c3, .int .i64 cost, .slice N ns.length cn] w fun e w' => e = .returned (.int .i64 (proveR s cost ns)) ∧ Below w.heap.size w w' := by
  simp only [sysV]
  have HS := Aside0.mk hs
  have HN := Aside0.mk hn
  have hln := hn.2.1
  clear hs hn
  go_enter Try.func13, Try.ntmps13
  go_wp2_with fail
  obtain ⟨W, hW⟩ : ∃ W, W = w.alloc (.cells #[.slice A0 s.lim.length c0, .slice A1 s.start.length c1, .slice A2 s.modes.length c2, .slice A3 s.loads.length c3] 26) := ⟨_, rfl⟩
  have HB := Aside0.mk (show Below w.heap.size w W by rw [hW]; exact below_alloc (Below.refl _ _) _)
  have K0 := Aside0.mk (show W.heap[w.heap.size]? = some (.cells #[.slice A0 s.lim.length c0, .slice A1 s.start.length c1, .slice A2 s.modes.length c2, .slice A3 s.loads.length c3] 26 (0, 0)) by rw [hW]; exact heap_alloc_new _ _)
  rw [← hW]
  clear hW
  refine (CheckR_calls s A0 A1 A2 A3 c0 c1 c2 c3 W (HS.out.below HB.out)).mono ?_
  rintro e w1 ⟨rfl, hb⟩
  replace HB := Aside0.mk (below_step HB.out hb)
  replace K0 := Aside0.mk (pw_blk_below hb K0.out)
  clear hb
  have x3 := blk_cell K0.out 3
  simp at x3
  cases hck : checkB s with
  | false =>
    have hc2 : checkE s = 2 := by simp only [checkE, hck]; rfl
    rw [hc2]
    have HCK := Aside0.mk hck
    clear hck hc2
    go_wp2_with fail
    go_ret
    exact ⟨ret_i (by simp only [proveR, HCK.out]; rfl), HB.out⟩
  | true =>
  have hc2 : checkE s = 0 := by simp only [checkE, hck]; rfl
  rw [hc2]
  have HCK := Aside0.mk hck
  have HOK := Aside0.mk (Ok.of_check hck)
  clear hck hc2
  by_cases h5 : 5000 < ns.length
  · have y1 : (5000 : Int) < (ns.length : Int) := by omega
    go_wp2_with fail
    go_ret
    exact ⟨ret_i (by simp only [proveR, HCK.out, if_pos h5]; rfl), HB.out⟩
  have y1 : ¬ (5000 : Int) < (ns.length : Int) := by omega
  have H5 := Aside0.mk h5
  go_wp2_with fail
  clear x3 y1 h5
  go_loopg [8] ns.length (fun gg s8 wr => ∃ i : Nat, i ≤ ns.length ∧ ns.length - i ≤ gg ∧ s8 = .int .i64 i ∧ Aside0 (Below w1.heap.size w1 wr) ∧ Aside0 (∀ j, j < i → badAtR s ns j = false))
  case atStart => exact ⟨0, by omega, by omega, rfl, ⟨Below.refl _ _⟩, ⟨fun j hj => by omega⟩⟩
  case round =>
    obtain ⟨i, hi, hgi, rfl, HB1, HA⟩ := hrel
    have HBW := Aside0.mk (below_step HB.out HB1.out)
    have KW := Aside0.mk (pw_blk_below HB1.out K0.out)
    by_cases hlt : i < ns.length
    · have y2 : (i : Int) < (ns.length : Int) := by omega
      have y3 : i ≤ cn := by omega
      obtain ⟨ad, x, A5, c5, rfl, E, x0, x1, x2, LC, BX⟩ := at31 (Kd.C_below HN.out HBW.out) i hlt
      obtain ⟨f0, bx, vx⟩ := x
      simp only at x0 x1 x2 LC BX
      go_upto_region 9 with (fail)
      have x3 := blk_cell KW.out 0
      simp at x3
      have e0 := fun d os => cell_regrown (w := wr) x0 d os
      have e1 := fun d os => cell_regrown (w := wr) x1 d os
      have e2 := fun d os => cell_regrown (w := wr) x2 d os
      have e3 := fun d os => cell_regrown (w := wr) x3 d os
      clear x0 x1 x2 x3
      have HIN := Aside0.mk (fun d os => Calls.regrown_of ((in_calls vx 0 1125899906842624 (grow (redrawn wr d) os)).mono fun e w' h => ⟨h.1, h.2 ▸ Below.refl _ _⟩))
      have HFD := Aside0.mk (fun d os => Calls.regrown_of (find_calls2 (some ad) cn (ns.take i) f0 A5 c5 bx i bx.length (grow (redrawn wr d) os) (C31_take (Kd.C_below (Kd.C_below HN.out HBW.out) (below_regrown wr d os)) i (by omega)) (Kd.C_below BX.out (below_regrown wr d os))))
      have HFORM := Aside0.mk (show formB s ⟨f0, bx, vx⟩ = (decide (0 ≤ f0) && decide (f0 ≤ s.loads.length) && decide (bx.length = s.lim.length) && inB vx 0 1125899906842624) by simp only [formB, inB, Bool.and_assoc])
      have HBADR := Aside0.mk (fun h : badAtR s ns i = true => show proveR s cost ns = 8 by
        have : (List.range ns.length).any (badAtR s ns) = true := List.any_eq_true.2 ⟨i, List.mem_range.2 hlt, h⟩
        simp only [proveR, HCK.out, if_neg H5.out, this]; rfl)
      have HBAT := Aside0.mk (show badAtR s ns i = (!formB s ⟨f0, bx, vx⟩ || (findK ((ns.take i).map keyN) (f0, bx)).isSome) by simp only [badAtR, E.out]; rfl)
      by_cases hgood : formB s ⟨f0, bx, vx⟩ = true
      · have hg := hgood
        rw [HFORM.out] at hg
        simp only [Bool.and_eq_true, decide_eq_true_eq] at hg
        obtain ⟨⟨⟨p0, p1⟩, p2⟩, p3⟩ := hg
        have q0 : decide (f0 < 0) = false := decide_eq_false (by omega)
        have q1 : decide ((s.loads.length : Int) < f0) = false := decide_eq_false (by omega)
        have q2 : ((bx.length : Int) != (s.lim.length : Int)) = false := by rw [p2]; simp
        have HG := Aside0.mk hgood
        clear hgood p0 p1 p2
        cases hfk : findK ((ns.take i).map keyN) (f0, bx) with
        | some j =>
          have HR := Aside0.mk (HBADR.out (by rw [HBAT.out, hfk]; simp))
          have HFJ := Aside0.mk (show ∀ d os, Calls Try.prog 37 #[.slice (some ad) i cn, .int .i64 f0, .slice A5 bx.length c5] (grow (redrawn wr d) os) (fun e w'' => e = .returned (.int .i64 (j : Int)) ∧ ∃ p : Regrown, w'' = grow (redrawn wr p.d) p.os) from fun d os => by have h := HFD.out d os; rw [hfk] at h; exact h)
          clear hfk HFD HBADR HBAT HFORM
          refine wp_region_quiet_below (by kernel_rfl) (by kernel_rfl) ?_
          repeat (go_big_quiet_step (first | exact HIN.out _ _ | exact HFJ.out _ _))
          refine wpQuiet_nil ?_
          rintro w5 ⟨p5, hw5⟩
          have hb5 := below_regrown wr p5.d p5.os
          rw [← hw5] at hb5
          have HB5 := Aside0.mk (below_step HBW.out hb5)
          clear hw5 hb5
          go_wp2_with fail
          go_ret
          exact ⟨ret_i HR.out.symm, HB5.out⟩
        | none =>
          have HFJ := Aside0.mk (show ∀ d os, Calls Try.prog 37 #[.slice (some ad) i cn, .int .i64 f0, .slice A5 bx.length c5] (grow (redrawn wr d) os) (fun e w'' => e = .returned (.int .i64 (-1)) ∧ ∃ p : Regrown, w'' = grow (redrawn wr p.d) p.os) from fun d os => by have h := HFD.out d os; rw [hfk] at h; exact h)
          have HA2 := Aside0.mk (show ∀ j, j < i + 1 → badAtR s ns j = false from fun j hj => by
            rcases Nat.lt_or_ge j i with h | h
            · exact HA.out j h
            · obtain rfl : j = i := by omega
              rw [HBAT.out, hfk, HG.out]; rfl)
          clear hfk HFD HBADR HBAT HFORM HA
          refine wp_region_quiet_below (by kernel_rfl) (by kernel_rfl) ?_
          repeat (go_big_quiet_step (first | exact HIN.out _ _ | exact HFJ.out _ _))
          refine wpQuiet_nil ?_
          rintro w5 ⟨p5, hw5⟩
          have hb5 := below_regrown wr p5.d p5.os
          rw [← hw5] at hb5
          have HB5 := Aside0.mk (below_step HB1.out hb5)
          clear hw5 hb5 e0 e1 e2 e3 q0 q1 q2 p3
          go_wp2_with fail
          go_roundg (ns.length - (i + 1))
          case measure => omega
          case rel => exact ⟨i + 1, by omega, by omega, by go_num, HB5, HA2⟩
      · have HR := Aside0.mk (HBADR.out (by rw [HBAT.out]; simp [hgood]))
        have hd : decide (f0 < 0) = true ∨ (decide (f0 < 0) = false ∧ decide ((s.loads.length : Int) < f0) = true) ∨ (decide (f0 < 0) = false ∧ decide ((s.loads.length : Int) < f0) = false ∧ ((bx.length : Int) != (s.lim.length : Int)) = true) ∨
            (decide (f0 < 0) = false ∧ decide ((s.loads.length : Int) < f0) = false ∧ ((bx.length : Int) != (s.lim.length : Int)) = false ∧ inB vx 0 1125899906842624 = false) := by
          rw [HFORM.out] at hgood
          cases hv : inB vx 0 1125899906842624 with
          | false =>
            simp only [decide_eq_true_eq, decide_eq_false_iff_not, bne_iff_ne, bne_eq_false_iff_eq, Bool.true_eq_false, and_false, or_false, and_true]; omega
          | true =>
            have hgood : ¬ (0 ≤ f0 ∧ f0 ≤ (s.loads.length : Int) ∧ bx.length = s.lim.length) := fun ⟨a, b, c⟩ => hgood (by rw [hv, decide_eq_true a, decide_eq_true b, decide_eq_true c]; rfl)
            simp only [decide_eq_true_eq, decide_eq_false_iff_not, bne_iff_ne, bne_eq_false_iff_eq, Bool.true_eq_false, and_false, or_false, and_true]; omega
        clear hgood HBADR HBAT HFORM
        rcases hd with q0 | ⟨q0, q1⟩ | ⟨q0, q1, q2⟩ | ⟨q0, q1, q2, q3⟩
        all_goals
          refine wp_region_quiet_below (by kernel_rfl) (by kernel_rfl) ?_
          repeat (go_big_quiet_step (exact HIN.out _ _))
          refine wpQuiet_nil ?_
          rintro w5 ⟨p5, hw5⟩
          have hb5 := below_regrown wr p5.d p5.os
          rw [← hw5] at hb5
          have HB5 := Aside0.mk (below_step HBW.out hb5)
          clear hw5 hb5
          go_wp2_with fail
          go_ret
          exact ⟨ret_i HR.out.symm, HB5.out⟩
    · have y2 : ¬ (i : Int) < (ns.length : Int) := by omega
      obtain rfl : i = ns.length := by omega
      have HALL := Aside0.mk (show (List.range ns.length).any (badAtR s ns) = false from List.any_eq_false.2 fun j hj => by rw [HA.out j (List.mem_range.1 hj)]; decide)
      have HFALL := Aside0.mk (show ∀ x ∈ ns, formB s x = true from fun x hx => by
        obtain ⟨j, hj, rfl⟩ := List.mem_iff_getElem.1 hx
        have h := HA.out j hj
        simp only [badAtR, List.getElem?_eq_getElem hj, Bool.or_eq_false_iff, Bool.not_eq_false'] at h
        exact h.1)
      have x1 := blk_cell KW.out 1
      simp at x1
      clear HA
      go_wp2_with fail
      refine (find_calls2 N cn ns 0 A1 c1 s.start ns.length s.start.length _ (Kd.C_below HN.out HBW.out) (HS.out.below HBW.out).r1).mono ?_
      rintro e w6 ⟨rfl, hb6⟩
      have HB6 := Aside0.mk (below_step HBW.out hb6)
      have K6 := Aside0.mk (pw_blk_below hb6 KW.out)
      clear hb6 x1 y2
      have HPV := Aside0.mk (show proveR s cost ns = match findK (ns.map keyN) (0, s.start) with
          | none => 19
          | some i => if (ns.getD i z31).f2 < cost then 19 else if ns.any (nodeBadR s ns) then 19 else 0 by simp only [proveR, HCK.out, if_neg H5.out, HALL.out]; rfl)
      cases hfk : findK (ns.map keyN) (0, s.start) with
      | none =>
        have HR := Aside0.mk (show proveR s cost ns = 19 by rw [HPV.out, hfk])
        clear hfk HPV
        rw [show idxI none = -1 from rfl]
        go_wp2_with fail
        go_ret
        exact ⟨ret_i HR.out.symm, HB6.out⟩
      | some j =>
      rw [show idxI (some j) = (j : Int) from rfl]
      have hj : j < ns.length := by
        have := (List.findIdx?_eq_some_iff_getElem.1 (show List.findIdx? _ _ = some j from hfk)).1
        simpa using this
      rw [hfk] at HPV
      obtain ⟨ad, nd, A5, c5, rfl, E5, _, _, u2, _, _⟩ := at31 (Kd.C_below HN.out HB6.out) j hj
      have HPV2 := Aside0.mk (show proveR s cost ns = if nd.f2 < cost then 19 else if ns.any (nodeBadR s ns) then 19 else 0 by
        have hgd : ns.getD j z31 = nd := by rw [List.getD_eq_getElem?_getD, E5.out]; rfl
        rw [HPV.out]; simp only [hgd])
      have y4 : (j : Int) < (ns.length : Int) := by omega
      clear hfk HPV hj
      by_cases hco : nd.f2 < cost
      · have HR := Aside0.mk (show proveR s cost ns = 19 by rw [HPV2.out, if_pos hco])
        go_wp2_with fail
        go_ret
        exact ⟨ret_i HR.out.symm, HB6.out⟩
      have HPV3 := Aside0.mk (show proveR s cost ns = if ns.any (nodeBadR s ns) then 19 else 0 by rw [HPV2.out, if_neg hco])
      go_wp2_with fail
      clear hco u2 y4 HPV2
      go_loopg [10] ns.length (fun gg s10 wo => ∃ i : Nat, i ≤ ns.length ∧ ns.length - i ≤ gg ∧ s10 = .int .i64 i ∧ Aside0 (Below w6.heap.size w6 wo) ∧ Aside0 (∀ y ∈ ns.take i, nodeBadR s ns y = false))
      case atStart => exact ⟨0, by omega, by omega, rfl, ⟨Below.refl _ _⟩, ⟨fun y hy => by simp at hy⟩⟩
      case round =>
        obtain ⟨i, hi, hgi, rfl, HBo, HA⟩ := hrel
        by_cases hlt2 : i < ns.length
        · have y2 : (i : Int) < (ns.length : Int) := by omega
          obtain ⟨ad_, x, Ax, cx, hadd, E, x0, x1, x2, LC, BX⟩ := at31 (Kd.C_below HN.out (below_step HB6.out HBo.out)) i hlt2
          cases hadd
          obtain ⟨f0, bx, vx⟩ := x
          simp only at x0 x1 x2 LC BX
          go_upto_region 18 with (fail)
          obtain ⟨W3, hW3⟩ : ∃ W3, W3 = wr.alloc (.cells #[.int .i64 f0, .slice Ax bx.length cx, .int .i64 vx] 31) := ⟨_, rfl⟩
          have hb3 : Below wr.heap.size wr W3 := by rw [hW3]; exact below_alloc (Below.refl _ _) _
          have K31 := Aside0.mk (show W3.heap[wr.heap.size]? = some (.cells #[.int .i64 f0, .slice Ax bx.length cx, .int .i64 vx] 31 (0, 0)) by rw [hW3]; exact heap_alloc_new _ _)
          have HBX := Aside0.mk (show Kd.C k48 W3 Ax bx.length bx by rw [hW3]; exact Kd.C_alloc BX.out _)
          rw [← hW3]
          clear hW3 x0 x1 x2 BX y2
          have HB3 := Aside0.mk (below_step (below_step HB6.out HBo.out) hb3)
          have HBO3 := Aside0.mk (below_step HBo.out hb3)
          have K3 := Aside0.mk (pw_blk_below hb3 (pw_blk_below HBo.out K6.out))
          clear hb3
          generalize wr.heap.size = X at *
          have hform := HFALL.out _ (List.mem_of_getElem? E.out)
          have HVB := Aside0.mk (show inB vx 0 1125899906842624 = true by
            simp only [formB, Bool.and_eq_true] at hform; simp only [inB, Bool.and_eq_true]; exact ⟨hform.1.2, hform.2⟩)
          simp only [formB, Bool.and_eq_true, decide_eq_true_eq] at hform
          obtain ⟨⟨⟨⟨p0, p1⟩, p2⟩, p3⟩, p4⟩ := hform
          have P2 := Aside0.mk p2
          clear p2
          have t0 := blk_cell K31.out 0
          have t2 := blk_cell K31.out 2
          simp at t0 t2
          have HNXT := Aside0.mk (fun h : nodeBadR s ns ⟨f0, bx, vx⟩ = false => show ∀ y ∈ ns.take (i + 1), nodeBadR s ns y = false by
            intro y hy
            rw [List.take_add_one, E.out] at hy
            rcases List.mem_append.1 hy with hy | hy
            · exact HA.out y hy
            · simp at hy; subst hy; exact h)
          have HBAD := Aside0.mk (fun h : nodeBadR s ns ⟨f0, bx, vx⟩ = true => show proveR s cost ns = 19 by
            rw [HPV3.out, if_pos (List.any_eq_true.2 ⟨_, List.mem_of_getElem? E.out, h⟩)])
          clear HA
          by_cases hsl : f0 = s.loads.length
          · have q0 : (f0 == (s.loads.length : Int)) = true := by rw [beq_iff_eq]; exact hsl
            by_cases hvz : vx = 0
            · have q1 : (vx != 0) = false := by rw [hvz]; rfl
              have HN2 := Aside0.mk (HNXT.out (by simp only [nodeBadR, if_pos hsl, hvz]; rfl))
              clear hsl hvz HNXT HBAD
              go_wp2_with fail
              clear t0 t2 q0 q1 p0 p1 p3 p4
              go_roundg (ns.length - (i + 1))
              case measure => omega
              case rel => exact ⟨i + 1, by omega, by omega, by go_num, HBO3, HN2⟩
            · have q1 : (vx != 0) = true := by rw [bne_iff_ne]; exact hvz
              have HR := Aside0.mk (HBAD.out (by simp only [nodeBadR, if_pos hsl, decide_eq_false hvz]; rfl))
              clear hsl hvz HNXT HBAD
              go_wp2_with fail
              go_ret
              exact ⟨ret_i HR.out.symm, HB3.out⟩
          · have q0 : (f0 == (s.loads.length : Int)) = false := by rw [beq_eq_false_iff_ne]; exact hsl
            obtain ⟨slot, rfl⟩ := Int.eq_ofNat_of_zero_le p0
            have hslot : slot < s.loads.length := by omega
            have HNB := Aside0.mk (show nodeBadR s ns ⟨slot, bx, vx⟩ = (insideR s.lim bx && (List.range s.modes.length).any (wayBadR s ns ⟨slot, bx, vx⟩)) by simp only [nodeBadR, if_neg hsl])
            have hl48 := HOK.out.d48
            obtain ⟨load, hload⟩ : ∃ load, s.loads[slot]? = some load := ⟨_, List.getElem?_eq_getElem hslot⟩
            have HLD := Aside0.mk hload
            clear hsl hload
            go_wp2_with fail
            clear t0 t2 q0
            have hm8 := HOK.out.m8
            go_loopg [12] s.modes.length (fun gg s12 wi => ∃ k : Nat, k ≤ s.modes.length ∧ s.modes.length - k ≤ gg ∧ s12 = .int .i64 k ∧ Aside0 (Below W3.heap.size W3 wi) ∧ Aside0 (∀ j, j < k → wayBadR s ns ⟨slot, bx, vx⟩ j = false))
            case atStart => exact ⟨0, by omega, by omega, rfl, ⟨Below.refl _ _⟩, ⟨fun j hj => by omega⟩⟩
            case round =>
              obtain ⟨k, hk, hgk, rfl, HBi, HAk⟩ := hrel
              have HBI := Aside0.mk (below_step HB3.out HBi.out)
              have KI := Aside0.mk (pw_blk_below HBi.out K3.out)
              have KXI := Aside0.mk (pw_blk_below HBi.out K31.out)
              have x0 := blk_cell KI.out 0
              have x1 := blk_cell KI.out 1
              have x2 := blk_cell KI.out 2
              have x3 := blk_cell KI.out 3
              have t1 := blk_cell KXI.out 1
              simp at x0 x1 x2 x3 t1
              by_cases hlt3 : k < s.modes.length
              · have y3 : (k : Int) < (s.modes.length : Int) := by omega
                go_wp2_with fail
                refine (InsideR_calls s A0 A1 A2 A3 c0 c1 c2 c3 Ax cx bx _ (HS.out.below HBI.out) (Kd.C_below HBX.out HBi.out)).mono ?_
                clear x0 x1 x2 x3 t1
                rintro e w7 ⟨rfl, hb7⟩
                have HB7 := Aside0.mk (below_step HBi.out hb7)
                clear hb7
                cases hin : insideR s.lim bx with
                | false =>
                  have HN2 := Aside0.mk (HNXT.out (by rw [HNB.out, hin]; rfl))
                  have HBE := Aside0.mk (below_then HBO3.out HBO3.out.size HB7.out)
                  clear hin
                  go_wp2_with fail
                  go_roundg (ns.length - (i + 1))
                  case measure => omega
                  case rel => exact ⟨i + 1, by omega, by omega, by go_num, HBE, HN2⟩
                | true =>
                have HBN := Aside0.mk (insideR_spec hin HOK.out.lim).2
                have HIN1 := Aside0.mk hin
                clear hin
                obtain ⟨m, hm⟩ : ∃ m, s.modes[k]? = some m := ⟨_, List.getElem?_eq_getElem hlt3⟩
                have HM := Aside0.mk hm
                clear hm
                have K7 := Aside0.mk (pw_blk_below HB7.out K3.out)
                have KX7 := Aside0.mk (pw_blk_below HB7.out K31.out)
                have x0 := blk_cell K7.out 0
                have x1 := blk_cell K7.out 1
                have x2 := blk_cell K7.out 2
                have x3 := blk_cell K7.out 3
                have t0 := blk_cell KX7.out 0
                have t1 := blk_cell KX7.out 1
                simp at x0 x1 x2 x3 t0 t1
                go_wp2_with fail
                refine (boxR_calls s A0 A1 A2 A3 c0 c1 c2 c3 slot k Ax cx bx _ (HS.out.below (below_step HB3.out HB7.out)) (Kd.C_below HBX.out HB7.out) LC.out load HLD.out m HM.out s.lim.length P2.out HOK.out.n3 (HOK.out.load HLD.out) (HOK.out.modeR HM.out) (fun x hx => by have := HBN.out x hx; omega) (fun x hx => by have := HBN.out x hx; omega)).mono ?_
                clear x0 x1 x2 x3 t0 t1
                rintro e w8 ⟨v, rfl, hown, hb8⟩
                have HB8 := Aside0.mk (below_step HB7.out hb8)
                have hbl : boxL s ⟨slot, bx, vx⟩ k = advL m load bx := by simp only [boxL, List.getD_eq_getElem?_getD, HM.out, Int.toNat_natCast, HLD.out, Option.getD_some]
                have hal : (advL m load bx).length = s.lim.length := (advL_len _ _ _ (by rw [(HOK.out.mode HM.out).len, P2.out]) (by rw [HOK.out.load HLD.out, P2.out])).trans P2.out
                have hn3 := HOK.out.n3
                obtain ⟨A9, c9, rfl, hc9, hC9⟩ := own_C48 hown hal (by omega)
                have hcost : costOf s k = m.f0 := by simp only [costOf, Int.toNat_natCast, List.getD_eq_getElem?_getD, HM.out, Option.getD_some]
                have HWB := Aside0.mk (show wayBadR s ns ⟨slot, bx, vx⟩ k = (insideR s.lim (advL m load bx) && match findK (ns.map keyN) ((slot : Int) + 1, advL m load bx) with
                  | none => true
                  | some j => decide ((ns.getD j z31).f2 < vx - m.f0)) by simp only [wayBadR, hbl, hcost])
                have HC9 := Aside0.mk hC9
                clear hown hbl hal hn3 hC9 hb8 hcost hc9
                generalize advL m load bx = b2 at *
                have K8 := Aside0.mk (pw_blk_below HB8.out K3.out)
                have KX8 := Aside0.mk (pw_blk_below HB8.out K31.out)
                have t0 := blk_cell KX8.out 0
                simp at t0
                go_wp2_with fail
                refine (find_calls2 (some ad) cn ns ((slot : Int) + 1) A9 c9 b2 ns.length s.lim.length _ (Kd.C_below HN.out (below_step HB3.out HB8.out)) HC9.out).mono ?_
                clear t0
                rintro e w9 ⟨rfl, hb9⟩
                have HB9 := Aside0.mk (below_step HB8.out hb9)
                have HC10 := Aside0.mk (Kd.C_below HC9.out hb9)
                clear hb9 K8 KX8 K7 KX7 HC9
                have HBW9 := Aside0.mk (below_step HB3.out HB9.out)
                have K9 := Aside0.mk (pw_blk_below HB9.out K3.out)
                have KX9 := Aside0.mk (pw_blk_below HB9.out K31.out)
                go_upto_region 26 with (fail)
                have e0 := fun d os => cell_regrown (w := w9) (a := ⟨w.heap.size, 0, none⟩) (v := .slice A0 s.lim.length c0) (by have := blk_cell K9.out 0; simpa using this) d os
                have e1 := fun d os => cell_regrown (w := w9) (a := ⟨w.heap.size, 1, none⟩) (v := .slice A1 s.start.length c1) (by have := blk_cell K9.out 1; simpa using this) d os
                have e2 := fun d os => cell_regrown (w := w9) (a := ⟨w.heap.size, 2, none⟩) (v := .slice A2 s.modes.length c2) (by have := blk_cell K9.out 2; simpa using this) d os
                have e3 := fun d os => cell_regrown (w := w9) (a := ⟨w.heap.size, 3, none⟩) (v := .slice A3 s.loads.length c3) (by have := blk_cell K9.out 3; simpa using this) d os
                cases hin2 : insideR s.lim b2 with
                | false =>
                  have HI := Aside0.mk (show ∀ d os, Calls Try.prog 38 #[sysV s A0 A1 A2 A3 c0 c1 c2 c3, .slice A9 s.lim.length c9] (grow (redrawn w9 d) os) (fun e w'' => e = .returned (.bool false) ∧ ∃ p : Regrown, w'' = grow (redrawn w9 p.d) p.os) from
                    fun d os => Calls.regrown_of (by have h := InsideR_calls2 s A0 A1 A2 A3 c0 c1 c2 c3 A9 c9 b2 s.lim.length (grow (redrawn w9 d) os) ((HS.out.below HBW9.out).below (below_regrown w9 d os)) (Kd.C_below HC10.out (below_regrown w9 d os)); rw [hin2] at h; exact h))
                  have HA2 := Aside0.mk (show ∀ j, j < k + 1 → wayBadR s ns ⟨slot, bx, vx⟩ j = false from fun j hj => by
                    rcases Nat.lt_or_ge j k with h | h
                    · exact HAk.out j h
                    · obtain rfl : j = k := by omega
                      rw [HWB.out, hin2]; rfl)
                  clear hin2 HWB HAk
                  refine wp_region_quiet_below (by kernel_rfl) (by kernel_rfl) ?_
                  repeat (go_big_quiet_step (exact HI.out _ _))
                  refine wpQuiet_nil ?_
                  rintro w10 ⟨p10, hw10⟩
                  have hb10 := below_regrown w9 p10.d p10.os
                  rw [← hw10] at hb10
                  have HB10 := Aside0.mk (below_step HB9.out hb10)
                  clear hw10 hb10 e0 e1 e2 e3
                  go_wp2_with fail
                  go_roundg (s.modes.length - (k + 1))
                  case measure => omega
                  case rel => exact ⟨k + 1, by omega, by omega, by go_num, HB10, HA2⟩
                | true =>
                have HI := Aside0.mk (show ∀ d os, Calls Try.prog 38 #[sysV s A0 A1 A2 A3 c0 c1 c2 c3, .slice A9 s.lim.length c9] (grow (redrawn w9 d) os) (fun e w'' => e = .returned (.bool true) ∧ ∃ p : Regrown, w'' = grow (redrawn w9 p.d) p.os) from
                  fun d os => Calls.regrown_of (by have h := InsideR_calls2 s A0 A1 A2 A3 c0 c1 c2 c3 A9 c9 b2 s.lim.length (grow (redrawn w9 d) os) ((HS.out.below HBW9.out).below (below_regrown w9 d os)) (Kd.C_below HC10.out (below_regrown w9 d os)); rw [hin2] at h; exact h))
                rw [hin2, Bool.true_and] at HWB
                clear hin2
                have HBADW := Aside0.mk (fun h : wayBadR s ns ⟨slot, bx, vx⟩ k = true => show proveR s cost ns = 19 from HBAD.out (by
                  rw [HNB.out, HIN1.out, List.any_eq_true.2 ⟨k, List.mem_range.2 hlt3, h⟩]; rfl))
                cases hfk : findK (ns.map keyN) ((slot : Int) + 1, b2) with
                | none =>
                  rw [show idxI none = -1 from rfl]
                  rw [hfk] at HWB
                  have HR := Aside0.mk (HBADW.out HWB.out)
                  clear hfk HWB HBADW
                  refine wp_region_quiet_below (by kernel_rfl) (by kernel_rfl) ?_
                  repeat (go_big_quiet_step (exact HI.out _ _))
                  refine wpQuiet_nil ?_
                  rintro w10 ⟨p10, hw10⟩
                  have hb10 := below_regrown w9 p10.d p10.os
                  rw [← hw10] at hb10
                  have HB10 := Aside0.mk (below_step HBW9.out hb10)
                  clear hw10 hb10
                  go_wp2_with fail
                  go_ret
                  exact ⟨ret_i HR.out.symm, HB10.out⟩
                | some j2 =>
                  rw [show idxI (some j2) = (j2 : Int) from rfl]
                  have hj2 : j2 < ns.length := by
                    have := (List.findIdx?_eq_some_iff_getElem.1 (show List.findIdx? _ _ = some j2 from hfk)).1
                    simpa using this
                  rw [hfk] at HWB
                  obtain ⟨ad_, nd2, A6, c6, hadd, E6, _, _, u2, _, _⟩ := at31 (Kd.C_below HN.out HBW9.out) j2 hj2
                  cases hadd
                  obtain ⟨adm, m_, Am, cm, Af, cf, hA2, EM, v0, v1, v2, M1, M2, M3, M4⟩ := at53 (HS.out.below HBW9.out).r2 k hlt3
                  cases HM.out.symm.trans EM.out
                  subst hA2
                  have HWB2 := Aside0.mk (show wayBadR s ns ⟨slot, bx, vx⟩ k = decide (nd2.f2 < vx - m.f0) by
                    have hgd : ns.getD j2 z31 = nd2 := by rw [List.getD_eq_getElem?_getD, E6.out]; rfl
                    rw [HWB.out]; simp only [hgd])
                  have y5 : (j2 : Int) < (ns.length : Int) := by omega
                  have hc0 := (HOK.out.mode HM.out).c0
                  have hc1 := (HOK.out.mode HM.out).c1
                  have hsub : IntKind.i64.wrap (vx - m.f0) = vx - m.f0 := IntWalk.i64_in _ (by omega)
                  have e4 := fun d os => cell_regrown (w := w9) u2 d os
                  have e5 := fun d os => cell_regrown (w := w9) v0 d os
                  have e6 := fun d os => cell_regrown (w := w9) (a := ⟨X, 2, none⟩) (v := .int .i64 vx) (by have := blk_cell KX9.out 2; simpa using this) d os
                  clear hfk HWB u2 v0 v1 v2 hj2
                  have hd0 : decide ((j2 : Int) < 0) = false := decide_eq_false (by omega)
                  by_cases hco : nd2.f2 < vx - m.f0
                  · have hd1 : decide (nd2.f2 < vx - m.f0) = true := decide_eq_true hco
                    have HR := Aside0.mk (HBADW.out (by rw [HWB2.out, hd1]))
                    clear HWB2 HBADW hco
                    refine wp_region_quiet_below (by kernel_rfl) (by kernel_rfl) ?_
                    repeat (go_big_quiet_step (exact HI.out _ _))
                    refine wpQuiet_nil ?_
                    rintro w10 ⟨p10, hw10⟩
                    have hb10 := below_regrown w9 p10.d p10.os
                    rw [← hw10] at hb10
                    have HB10 := Aside0.mk (below_step HBW9.out hb10)
                    clear hw10 hb10
                    go_wp2_with fail
                    go_ret
                    exact ⟨ret_i HR.out.symm, HB10.out⟩
                  · have hd1 : decide (nd2.f2 < vx - m.f0) = false := decide_eq_false hco
                    have HA2 := Aside0.mk (show ∀ j, j < k + 1 → wayBadR s ns ⟨slot, bx, vx⟩ j = false from fun j hj => by
                      rcases Nat.lt_or_ge j k with h | h
                      · exact HAk.out j h
                      · obtain rfl : j = k := by omega
                        rw [HWB2.out, hd1])
                    clear HWB2 HBADW hco HAk
                    refine wp_region_quiet_below (by kernel_rfl) (by kernel_rfl) ?_
                    repeat (go_big_quiet_step (exact HI.out _ _))
                    refine wpQuiet_nil ?_
                    rintro w10 ⟨p10, hw10⟩
                    have hb10 := below_regrown w9 p10.d p10.os
                    rw [← hw10] at hb10
                    have HB10 := Aside0.mk (below_step HB9.out hb10)
                    clear hw10 hb10 e0 e1 e2 e3 e4 e5 e6 hd0 hd1 hsub hc0 hc1 y5
                    go_wp2_with fail
                    go_roundg (s.modes.length - (k + 1))
                    case measure => omega
                    case rel => exact ⟨k + 1, by omega, by omega, by go_num, HB10, HA2⟩
              · have y3 : ¬ (k : Int) < (s.modes.length : Int) := by omega
                obtain rfl : k = s.modes.length := by omega
                have HN2 := Aside0.mk (HNXT.out (by
                  rw [HNB.out, List.any_eq_false.2 fun j hj => by rw [HAk.out j (List.mem_range.1 hj)]; decide]; simp))
                have HBE := Aside0.mk (below_then HBO3.out HBO3.out.size HBi.out)
                go_wp2_with fail
                go_roundg (ns.length - (i + 1))
                case measure => omega
                case rel => exact ⟨i + 1, by omega, by omega, by go_num, HBE, HN2⟩
        · have y2 : ¬ (i : Int) < (ns.length : Int) := by omega
          obtain rfl : i = ns.length := by omega
          have HR := Aside0.mk (show proveR s cost ns = 0 by
            have h := HA.out
            rw [List.take_length] at h
            rw [HPV3.out, List.any_eq_false.2 fun y hy => by rw [h y hy]; decide]; rfl)
          clear HA
          go_wp2_with fail
          go_ret
          exact ⟨ret_i HR.out.symm, below_step HB6.out HBo.out⟩
end Go.Proofs.Ytppdckjgdamlnaa
