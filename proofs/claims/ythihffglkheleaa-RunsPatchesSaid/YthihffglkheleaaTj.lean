/- Contracts of runs: which canvases may be; Canvas and Patch. -/
import Derived.Test.YthihffglkheleaaTi
set_option linter.unusedVariables false
set_option linter.unusedSimpArgs false
namespace Go.Proofs.Ythihffglkheleaa
open Go.RowKit

@[reducible] def vCv (wd hg : Int) (A : Option Addr) (n c : Nat) : Value := .agg #[.int .i64 wd, .int .i64 hg, .slice A n c]
def sizesB (wd hg : Int) : Bool := decide (1 ≤ wd ∧ wd ≤ 4 ∧ 1 ≤ hg ∧ hg ≤ 4)
def rightB (wd hg : Int) (n : Nat) : Bool := sizesB wd hg && decide ((n : Int) = wd * hg)
theorem mul_small (wd hg : Int) (h : sizesB wd hg = true) : 1 ≤ wd * hg ∧ wd * hg ≤ 16 := by
  simp only [sizesB, decide_eq_true_eq] at h
  obtain ⟨h1, h2, h3, h4⟩ := h
  have hw : wd = 1 ∨ wd = 2 ∨ wd = 3 ∨ wd = 4 := by omega
  rcases hw with rfl | rfl | rfl | rfl <;> omega
theorem wrap_small (wd hg : Int) (h : sizesB wd hg = true) : IntKind.i64.wrap (wd * hg) = wd * hg := by
  have := mul_small wd hg h
  rw [IntKind.wrap_i64]
  omega

set_option maxHeartbeats 2000000 in
theorem cv_may (wd hg : Int) (w : World) : Calls Try.prog 57 #[.agg #[.int .i64 wd, .int .i64 hg]] w fun e w' => e = .returned (.bool (sizesB wd hg)) ∧ w' = w.alloc (.cells #[.int .i64 wd, .int .i64 hg] 93) := by
  by_cases g1 : 1 ≤ wd
  · have d1 : decide (1 ≤ wd) = true := by simpa using g1
    by_cases g2 : wd ≤ 4
    · have d2 : decide (wd ≤ 4) = true := by simpa using g2
      by_cases g3 : 1 ≤ hg
      · have d3 : decide (1 ≤ hg) = true := by simpa using g3
        by_cases g4 : hg ≤ 4
        · have d4 : decide (hg ≤ 4) = true := by simpa using g4
          rw [show sizesB wd hg = true by simp [sizesB, g1, g2, g3, g4]]
          clear g1 g2 g3 g4
          go_enter Try.func57, Try.ntmps57
          go_wp2_with fail
          go_ret
          exact ⟨rfl, rfl⟩
        · have d4 : decide (hg ≤ 4) = false := by simpa using g4
          rw [show sizesB wd hg = false by simp [sizesB, g4]]
          clear g1 g2 g3 g4
          go_enter Try.func57, Try.ntmps57
          go_wp2_with fail
          go_ret
          exact ⟨rfl, rfl⟩
      · have d3 : decide (1 ≤ hg) = false := by simpa using g3
        rw [show sizesB wd hg = false by simp [sizesB, g3]]
        clear g1 g2 g3
        go_enter Try.func57, Try.ntmps57
        go_wp2_with fail
        go_ret
        exact ⟨rfl, rfl⟩
    · have d2 : decide (wd ≤ 4) = false := by simpa using g2
      rw [show sizesB wd hg = false by simp [sizesB, g2]]
      clear g1 g2
      go_enter Try.func57, Try.ntmps57
      go_wp2_with fail
      go_ret
      exact ⟨rfl, rfl⟩
  · have d1 : decide (1 ≤ wd) = false := by simpa using g1
    rw [show sizesB wd hg = false by simp [sizesB, g1]]
    clear g1
    go_enter Try.func57, Try.ntmps57
    go_wp2_with fail
    go_ret
    exact ⟨rfl, rfl⟩
set_option maxHeartbeats 2000000 in
theorem ref_Sizes (wd hg : Int) (w : World) : Calls Try.prog 49 #[.int .i64 wd, .int .i64 hg] w fun e w' => e = .returned (.bool (sizesB wd hg)) ∧ w' = w := by
  by_cases g1 : 1 ≤ wd
  · have d1 : decide (1 ≤ wd) = true := by simpa using g1
    by_cases g2 : wd ≤ 4
    · have d2 : decide (wd ≤ 4) = true := by simpa using g2
      by_cases g3 : 1 ≤ hg
      · have d3 : decide (1 ≤ hg) = true := by simpa using g3
        by_cases g4 : hg ≤ 4
        · have d4 : decide (hg ≤ 4) = true := by simpa using g4
          rw [show sizesB wd hg = true by simp [sizesB, g1, g2, g3, g4]]
          clear g1 g2 g3 g4
          go_enter Try.func49, Try.ntmps49
          go_wp2_with fail
          go_ret
          exact ⟨rfl, rfl⟩
        · have d4 : decide (hg ≤ 4) = false := by simpa using g4
          rw [show sizesB wd hg = false by simp [sizesB, g4]]
          clear g1 g2 g3 g4
          go_enter Try.func49, Try.ntmps49
          go_wp2_with fail
          go_ret
          exact ⟨rfl, rfl⟩
      · have d3 : decide (1 ≤ hg) = false := by simpa using g3
        rw [show sizesB wd hg = false by simp [sizesB, g3]]
        clear g1 g2 g3
        go_enter Try.func49, Try.ntmps49
        go_wp2_with fail
        go_ret
        exact ⟨rfl, rfl⟩
    · have d2 : decide (wd ≤ 4) = false := by simpa using g2
      rw [show sizesB wd hg = false by simp [sizesB, g2]]
      clear g1 g2
      go_enter Try.func49, Try.ntmps49
      go_wp2_with fail
      go_ret
      exact ⟨rfl, rfl⟩
  · have d1 : decide (1 ≤ wd) = false := by simpa using g1
    rw [show sizesB wd hg = false by simp [sizesB, g1]]
    clear g1
    go_enter Try.func49, Try.ntmps49
    go_wp2_with fail
    go_ret
    exact ⟨rfl, rfl⟩

theorem rightB_no (wd hg : Int) (n : Nat) (h : sizesB wd hg = false) : rightB wd hg n = false := by simp [rightB, h]
set_option maxHeartbeats 2000000 in
theorem cv_Check (wd hg : Int) (A : Option Addr) (n c : Nat) (w : World) : Calls Try.prog 40 #[vCv wd hg A n c] w fun e w' => e = .returned (.int .i64 (if rightB wd hg n = true then 0 else 150)) ∧ New w w' := by
  have hm := fun W => cv_may wd hg W
  have hc1 : New w ((w.alloc (.cells #[.int .i64 wd, .int .i64 hg, .slice A n c] 43)).alloc (.cells #[.int .i64 wd, .int .i64 hg] 93)) := (new_alloc w _).alloc _
  have HC := Lib.hid (hc1.alloc (.cells #[.int .i64 wd, .int .i64 hg] 93))
  clear hc1
  cases hs : sizesB wd hg with
  | false =>
    rw [rightB_no wd hg n hs]
    rw [hs] at hm
    have HM := Lib.hid hm
    clear hm hs
    go_enter Try.func40, Try.ntmps40
    go_wp2_with (go_at_call 57; ((with_reducible refine (HM.out _).mono ?_); rintro e w1 ⟨rfl, rfl⟩))
    go_ret
    exact ⟨rfl, HC.out⟩
  | true =>
    have hwr := wrap_small wd hg hs
    rw [hs] at hm
    have HM := Lib.hid hm
    clear hm
    by_cases he : (n : Int) = wd * hg
    · have he2 : ((n : Int) == wd * hg) = true := by simpa using he
      rw [show rightB wd hg n = true by simp [rightB, hs, he]]
      clear hs he
      go_enter Try.func40, Try.ntmps40
      go_wp2_with (go_at_call 57; ((with_reducible refine (HM.out _).mono ?_); rintro e w1 ⟨rfl, rfl⟩))
      go_ret
      exact ⟨rfl, HC.out⟩
    · have he2 : ((n : Int) == wd * hg) = false := by simpa using he
      rw [show rightB wd hg n = false by simp [rightB, hs, he]]
      clear hs he
      go_enter Try.func40, Try.ntmps40
      go_wp2_with (go_at_call 57; ((with_reducible refine (HM.out _).mono ?_); rintro e w1 ⟨rfl, rfl⟩))
      go_ret
      exact ⟨rfl, HC.out⟩

theorem rn_ahead (A : Option Addr) (n c : Nat) (w : World) :
    Calls Try.prog 42 #[.slice A n c] w fun e w' => e = .returned (.func (.func 60) #[] #[.pointer (some ⟨w.heap.size, 0, none⟩)]) ∧ w' = w.alloc (.cells #[.slice A n c] 22) := by
  have hmf := hmf
  go_enter Try.func42, Try.ntmps42
  go_wp2_with fail
  go_ret
  exact ⟨rfl, rfl⟩
end Go.Proofs.Ythihffglkheleaa
