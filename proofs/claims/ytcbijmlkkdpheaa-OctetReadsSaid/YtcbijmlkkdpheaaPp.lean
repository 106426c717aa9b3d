/- Contracts of readers that are nil. -/
import Derived.Test.YtcbijmlkkdpheaaPo
set_option linter.unusedVariables false
set_option linter.unusedSimpArgs false
namespace Go.Proofs.Ytcbijmlkkdpheaa
open Go.RowKit

theorem nil_reads64 (f : Value) (w : World) : Calls Try.prog 63 #[.pointer none, f] w fun e w' => e = .returned (.int .u64 0) ∧ w = w' := by
  go_enter Try.func63, Try.ntmps63
  go_wp2
  go_ret
  exact ⟨rfl, rfl⟩
theorem nil_reads8 (f : Value) (w : World) : Calls Try.prog 53 #[.pointer none, f] w fun e w' => e = .returned (.slice none 0 0) ∧ w = w' := by
  go_enter Try.func53, Try.ntmps53
  go_wp2
  go_ret
  exact ⟨rfl, rfl⟩
theorem nil_Err (w : World) : Calls Try.prog 24 #[.pointer none] w fun e w' => e = .returned (.int .i64 1) ∧ w = w' := by
  go_enter Try.func24, Try.ntmps24
  go_wp2
  go_ret
  exact ⟨rfl, rfl⟩
theorem nil_Left (w : World) : Calls Try.prog 41 #[.pointer none] w fun e w' => e = .returned (.int .i64 0) ∧ w = w' := by
  go_enter Try.func41, Try.ntmps41
  go_wp2
  go_ret
  exact ⟨rfl, rfl⟩
theorem nil_End (w : World) : Calls Try.prog 23 #[.pointer none] w fun e w' => e = .returned (.int .i64 1) ∧ w = w' := by
  go_enter Try.func23, Try.ntmps23
  go_wp2_with (go_at_call 24; refine (nil_Err _).mono ?_; rintro e w' ⟨rfl, rfl⟩)
  go_ret
  exact ⟨rfl, rfl⟩
theorem nil_Number (n : Int) (w : World) : Calls Try.prog 35 #[.pointer none, .int .i64 n] w fun e w' => e = .returned (.int .u64 0) ∧ New w w' := by
  have hmf := hmf
  go_enter Try.func35, Try.ntmps35
  go_wp2_with (go_at_call 63; refine (nil_reads64 _ _).mono ?_; rintro e w' ⟨rfl, rfl⟩)
  go_ret
  exact ⟨rfl, (new_alloc _ _).alloc _⟩
theorem nil_Bytes (n : Int) (w : World) : Calls Try.prog 38 #[.pointer none, .int .i64 n] w fun e w' => e = .returned (.slice none 0 0) ∧ New w w' := by
  have hmf := hmf
  go_enter Try.func38, Try.ntmps38
  go_wp2_with (go_at_call 53; refine (nil_reads8 _ _).mono ?_; rintro e w' ⟨rfl, rfl⟩)
  go_ret
  exact ⟨rfl, (new_alloc _ _).alloc _⟩
theorem nil_Part (w : World) : Calls Try.prog 22 #[.pointer none] w fun e w' => e = .returned (.slice none 0 0) ∧ New w w' := by
  have hmf := hmf
  go_enter Try.func22, Try.ntmps22
  go_wp2_with (go_at_call 53; refine (nil_reads8 _ _).mono ?_; rintro e w' ⟨rfl, rfl⟩)
  go_ret
  exact ⟨rfl, new_alloc _ _⟩
end Go.Proofs.Ytcbijmlkkdpheaa
