/- Contracts of octet.laid, slices.Clone, slices.Equal. -/
import Derived.Test.YtcbijmlkkdpheaaOa
import Derived.LoopN
set_option linter.unusedVariables false
set_option linter.unusedSimpArgs false
namespace Go.Proofs.Ytcbijmlkkdpheaa
open Go.RowKit

theorem beI_length (k : Nat) : ∀ n : Int, (beI k n).length = k := by
  induction k with
  | zero => intro n; rfl
  | succ k ih => intro n; simp [beI, ih]

theorem slice8 (b : Nat) (l : Int) (h0 : 0 ≤ l) (h1 : l ≤ 7) (W : World) : (Instr.sliceAt 100 (.pointer (some ⟨b, 0, none⟩)) (some (.int .i64 l)) none none).run Try.prog W = .ok (.slice (some ⟨b, l.toNat, none⟩) (8 - l.toNat) (8 - l.toNat)) W := by
  have e8 : Try.prog.arrayLen 100 = 8 := by kernel_rfl
  have h2 : (sizeOf (Try.prog.elem 100)).run Try.prog W = .ok 1 W := by kernel_rfl
  rw [run_sliceAt_array_l W 100 ⟨b, 0, none⟩ (by rw [e8]; kernel_rfl) .i64 l h0 (by rw [e8]; omega), h2, e8]
  have hne : ¬ (8 = l.toNat) := by omega
  simp only [Result.andThen, slicedAt, hne, if_false, Addr.add]
  by_cases h3 : l.toNat * 1 = 0
  · have h4 : l.toNat = 0 := by omega
    simp [h4]
  · simp [h3]
    omega

theorem beI_get (k : Nat) : ∀ (n : Int) (i : Nat) (h : i < (beI k n).length), ((beI k n)[i]).1 = n / 256 ^ (k - 1 - i) % 256 := by
  induction k with
  | zero => intro n i h; simp [beI] at h
  | succ k ih =>
    intro n i h
    have hl := beI_length k (n / 256)
    simp only [beI_length] at h
    simp only [beI]
    by_cases hi : i < k
    · rw [List.getElem_append_left (by omega), ih]
      have e : k + 1 - 1 - i = (k - 1 - i) + 1 := by omega
      rw [e, Int.pow_succ, Int.mul_comm, ← Int.ediv_ediv_of_nonneg (by omega)]
    · have hik : i = k := by omega
      subst hik
      rw [List.getElem_append_right (by omega)]
      simp [hl]

theorem laid_rd (w : World) (n : Int) (width : Int) (h : 1 ≤ width) (h' : width ≤ 8) (T : TypeId) :
    Rd e8 w.heap.size (w.heap.size + 1) (w.alloc (.cells #[.int .u8 (n / 72057594037927936 % 256), .int .u8 (n / 281474976710656 % 256), .int .u8 (n / 1099511627776 % 256), .int .u8 (n / 4294967296 % 256), .int .u8 (n / 16777216 % 256), .int .u8 (n / 65536 % 256), .int .u8 (n / 256 % 256), .int .u8 (n % 256)] T))
      (.slice (some ⟨w.heap.size, (8 - width).toNat, none⟩) (8 - (8 - width).toNat) (8 - (8 - width).toNat)) (beI width.toNat n) := by
  have e : 8 - (8 - width).toNat = (beI width.toNat n).length := by rw [beI_length]; omega
  refine ⟨_, _, by rw [e], by omega, by omega, .inr ⟨w.heap.size, _, rfl, Nat.le_refl _, by omega, by simp, fun i hi => ?_⟩⟩
  have hg := beI_get width.toNat n i hi
  simp only [beI_length] at hi
  have hn := heap_alloc_new w (.cells #[.int .u8 (n / 72057594037927936 % 256), .int .u8 (n / 281474976710656 % 256), .int .u8 (n / 1099511627776 % 256), .int .u8 (n / 4294967296 % 256), .int .u8 (n / 16777216 % 256), .int .u8 (n / 65536 % 256), .int .u8 (n / 256 % 256), .int .u8 (n % 256)] T)
  simp only [World.cell?, hn, e8, hg]
  have hp : (8 - width).toNat + i = 8 - width.toNat + i := by omega
  rw [hp]
  obtain ⟨j, hj, hj'⟩ : ∃ j, j < 8 ∧ width.toNat - 1 - i = j := ⟨_, by omega, rfl⟩
  have hq : 8 - width.toNat + i = 7 - j := by omega
  rw [hq, hj']
  have : j = 0 ∨ j = 1 ∨ j = 2 ∨ j = 3 ∨ j = 4 ∨ j = 5 ∨ j = 6 ∨ j = 7 := by omega
  rcases this with rfl | rfl | rfl | rfl | rfl | rfl | rfl | rfl <;> simp

set_option maxRecDepth 100000 in
set_option maxHeartbeats 4000000 in
theorem oc_laid (width : Int) (n : Int) (w : World) (h : 1 ≤ width) (h' : width ≤ 8) (hn : 0 ≤ n) (hn' : n ≤ 18446744073709551615) (hb : width = 8 ∨ n < 256 ^ width.toNat) :
    Calls Try.prog 47 #[.int .i64 width, .int .u64 n] w fun e w' => ∃ v, e = .returned v ∧ New w w' ∧ Rd e8 w.heap.size w'.heap.size w' v (beI width.toNat n) := by
  have hd : isWB width = true := (isWB_iff _).2 (by omega)
  have hd2 : decide (width = 8 ∨ n < 256 ^ width.toNat) = true := by simpa using hb
  have hsl := slice8 w.heap.size (8 - width) (by omega) (by omega)
  have HN := Lib.hid hn'
  clear hb hn'
  go_enter Try.func47, Try.ntmps47
  go_wp2_with fail
  refine (oc_is _ _).mono ?_
  rintro e w' ⟨rfl, rfl⟩
  rw [hd]
  go_wp2_with fail
  refine (oc_need_yes _ _).mono ?_
  rintro e w' ⟨rfl, rfl⟩
  go_wp2_with fail
  all_goals (first | (rw [big_test width n h hn, hd2]) | skip)
  all_goals (refine (oc_need_yes _ _).mono ?_; rintro e w' ⟨rfl, rfl⟩)
  all_goals go_wp2
  all_goals (refine wp_loop_rounds 9 ?_; repeat any_goals (rw [rounds_succ]; go_wp2))
  · go_ret
    refine ⟨_, rfl, (Below.refl _ _).alloc (Nat.le_refl _) _, ?_⟩
    have hw : width = 8 := by assumption
    clear hd hd2 hsl
    subst hw
    have := laid_rd w n 8 (by omega) (by omega) 100
    simpa using this
  · go_ret
    refine ⟨_, rfl, (Below.refl _ _).alloc (Nat.le_refl _) _, ?_⟩
    have := laid_rd w n width h h' 100
    simpa using this
end Go.Proofs.Ytcbijmlkkdpheaa
