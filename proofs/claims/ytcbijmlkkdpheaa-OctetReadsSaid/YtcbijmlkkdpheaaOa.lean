/- Contracts of small functions of octet. -/
import Derived.Test.YtcbijmlkkdpheaaBb
import Derived.Deep.QuietTactic
import Derived.BigQuiet
import Derived.Deep.LoopGhost
set_option linter.unusedVariables false
set_option linter.unusedSimpArgs false
namespace Go.Proofs.Ytcbijmlkkdpheaa
open Go.RowKit

def isWB (n : Int) : Bool := decide (1 ≤ n ∧ n ≤ 8)
theorem isWB_iff (n : Int) : isWB n = true ↔ 1 ≤ n ∧ n ≤ 8 := by simp [isWB]
theorem isWB_not (n : Int) : isWB n = false ↔ ¬ (1 ≤ n ∧ n ≤ 8) := by simp only [isWB, decide_eq_false_iff_not]
theorem oc_is (n : Int) (w : World) : Calls Try.prog 51 #[.int .i64 n] w fun e w' => e = .returned (.bool (isWB n)) ∧ w = w' := by
  by_cases h1 : 1 ≤ n
  · go_enter Try.func51, Try.ntmps51
    go_wp2
    go_ret
    exact ⟨by simp [isWB, h1], rfl⟩
  · go_enter Try.func51, Try.ntmps51
    go_wp2
    go_ret
    exact ⟨by simp [isWB]; omega, rfl⟩

/-- The ending of a call that leaves with an error. -/
abbrev boom (x : Int) : Ending := .panicked [{ v := .iface 29 (.int .i64 x), recovered := false }]

theorem oc_need_yes (x : Int) (w : World) : Calls Try.prog 50 #[.bool true, .int .i64 x] w fun e w' => e = .returned (.tuple #[]) ∧ w = w' := by
  go_enter Try.func50, Try.ntmps50
  go_wp2
  go_end0
  exact ⟨rfl, rfl⟩
theorem oc_need_no (x : Int) (w : World) : Calls Try.prog 50 #[.bool false, .int .i64 x] w fun e w' => e = boom x ∧ w = w' := by
  go_enter Try.func50, Try.ntmps50
  go_wp2
  exact ⟨rfl, rfl, rfl⟩

/-- number -/
def numI (xs : List U8) : Int := xs.foldl (fun n x => (n * 256 + x.1) % 18446744073709551616) 0
theorem numI_snoc (xs : List U8) (x : U8) : numI (xs ++ [x]) = (numI xs * 256 + x.1) % 18446744073709551616 := by simp [numI]
theorem or_step (n : Int) (x : U8) : bits .or .u64 (IntKind.u64.wrap (n * 256)) (IntKind.u64.wrap x.1) = (n * 256 + x.1) % 18446744073709551616 := by
  obtain ⟨x, h0, h1⟩ := x
  dsimp only
  rw [IntKind.wrap_u64, IntKind.wrap_u64, u64_or _ _ (by omega) (by omega) (by omega) (by omega), nat_join 8 _ _ (by omega) (by omega)]
  omega
theorem take_snoc {α : Type} (xs : List α) (k : Nat) (h : k < xs.length) : xs.take (k + 1) = xs.take k ++ [xs[k]] := by
  rw [List.take_succ_eq_append_getElem h]

theorem oc_number (lo hi : Nat) (v : Value) (xs : List U8) (w : World) (h : Rd e8 lo hi w v xs) :
    Calls Try.prog 52 #[v] w fun e w' => e = .returned (.int .u64 (numI xs)) ∧ w = w' := by
  obtain ⟨A, c, rfl, h1, h2⟩ := h.form
  have hl := h.len
  have HR := Lib.hid h
  clear h
  go_enter Try.func52, Try.ntmps52
  go_wp2
  go_loop [3, 8, 5] (fun n i _ => ∃ k : Nat, k ≤ xs.length ∧ i = .int .i64 k ∧ n = .int .u64 (numI (xs.take k))) (fun _ i _ => xs.length - (intOf i).toNat)
  case atStart => exact ⟨0, Nat.zero_le _, rfl, rfl⟩
  case round =>
    obtain ⟨k, hk, rfl, rfl⟩ := hrel
    by_cases hlt : k < xs.length
    · obtain ⟨b, off, c', e, hb1, hb2, hb3, hc1, hc2, hc⟩ := HR.out.at_ k hlt
      injection e with e1 e2 e3
      subst e1
      have hcell := hc k hlt
      clear hc e2 e3
      go_wp2
      go_round
      case rel => exact ⟨k + 1, by omega, by go_num, by rw [take_snoc _ _ hlt, numI_snoc, or_step]⟩
      case measure => simp [intOf]; omega
    · go_wp2
      go_ret
      have hk' : k = xs.length := by omega
      subst hk'
      exact ⟨by simp, rfl⟩

/-- the bytes of a number, the highest first -/
def beI : Nat → Int → List U8
  | 0, _ => []
  | k + 1, n => beI k (n / 256) ++ [⟨n % 256, by omega⟩]

theorem big_test (width n : Int) (h : 1 ≤ width) (hn : 0 ≤ n) : (width == 8 || n / 2 ^ (8 * width).toNat == 0) = decide (width = 8 ∨ n < 256 ^ width.toNat) := by
  have e : (2 : Int) ^ (8 * width).toNat = 256 ^ width.toNat := by
    have : (8 * width).toNat = 8 * width.toNat := by omega
    rw [this, Int.pow_mul]
    rfl
  rw [e, Bool.eq_iff_iff]
  have hp : (0 : Int) < 256 ^ width.toNat := Int.pow_pos (by omega)
  simp
  constructor
  · rintro (h | h)
    · exact .inl h
    · refine .inr ?_
      have := Int.lt_ediv_add_one_mul_self n hp
      rw [h] at this
      omega
  · rintro (h | h)
    · exact .inl h
    · exact .inr (Int.ediv_eq_zero_of_lt hn h)

theorem oc_laid_width (width : Int) (n : Int) (w : World) (h : ¬ (1 ≤ width ∧ width ≤ 8)) :
    Calls Try.prog 47 #[.int .i64 width, .int .u64 n] w fun e w' => e = boom 111 ∧ w = w' := by
  have hd : isWB width = false := (isWB_not _).2 h
  go_enter Try.func47, Try.ntmps47
  go_wp2_with fail
  refine (oc_is _ _).mono ?_
  rintro e w' ⟨rfl, rfl⟩
  rw [hd]
  go_wp2_with fail
  refine (oc_need_no _ _).mono ?_
  rintro e w' ⟨rfl, rfl⟩
  exact ⟨rfl, rfl, rfl⟩

theorem oc_laid_big (width : Int) (n : Int) (w : World) (h : 1 ≤ width) (h' : width < 8) (hn : 0 ≤ n) (hb : 256 ^ width.toNat ≤ n) :
    Calls Try.prog 47 #[.int .i64 width, .int .u64 n] w fun e w' => e = boom 112 ∧ w = w' := by
  have hd : isWB width = true := (isWB_iff _).2 (by omega)
  go_enter Try.func47, Try.ntmps47
  go_wp2_with fail
  refine (oc_is _ _).mono ?_
  rintro e w' ⟨rfl, rfl⟩
  rw [hd]
  go_wp2_with fail
  refine (oc_need_yes _ _).mono ?_
  rintro e w' ⟨rfl, rfl⟩
  go_wp2_with fail
  rw [big_test width n h hn, show decide (width = 8 ∨ n < 256 ^ width.toNat) = false from by simp; omega]
  refine (oc_need_no _ _).mono ?_
  rintro e w' ⟨rfl, rfl⟩
  exact ⟨rfl, rfl, rfl⟩

theorem info_u8 : (Try.prog.info? 5).map (fun i => (i.zero, i.size, i.bytes)) = some (some (e8 ⟨0, by omega⟩), 1, 1) := by kernel_rfl
theorem size_u8 : (Try.prog.info? 5).map (·.size) = some 1 := by kernel_rfl
theorem info_u64 : (Try.prog.info? 26).map (fun i => (i.zero, i.size, i.bytes)) = some (some (e64 ⟨0, by omega⟩), 1, 8) := by kernel_rfl
theorem info_int : (Try.prog.info? 3).map (fun i => (i.zero, i.size, i.bytes)) = some (some (ei ⟨0, by omega⟩), 1, 8) := by kernel_rfl

theorem oc_behind (lo hi lo' hi' : Nat) (v u : Value) (xs ys : List U8) (w : World) (hv : Rd e8 lo hi w v xs) (hu : Rd e8 lo' hi' w u ys) (hl : xs.length + ys.length ≤ 140737488355328) :
    Calls Try.prog 46 #[v, u] w fun e w' => ∃ A c, e = .returned (.slice A (xs.length + ys.length) c) ∧ New w w' ∧ Own e8 5 w.heap.size w' (.slice A (xs.length + ys.length) c) (xs ++ ys) := by
  obtain ⟨A, c, rfl, h1, h2⟩ := hv.form
  obtain ⟨B, d, rfl, h3, h4⟩ := hu.form
  have HV := Lib.hid hv
  have HU := Lib.hid hu
  clear hv hu
  go_enter Try.func46, Try.ntmps46
  go_wp2_with (at_make; refine wpl_make (enc := e8) (z := ⟨0, by omega⟩) rfl (.tmp 7) (.tmp 12) rfl Try.underlying22 info_u8 rfl xs.length (xs.length + ys.length) .i64 .i64 rfl rfl rfl (by simp) (by omega) (by omega) (by omega) w.heap.size (Nat.le_refl _) ?_)
  intro w1 hn hs HO
  have HO1 := Lib.hid HO
  have HN := Lib.hid hn
  clear HO hn
  go_wp2_with ((with_reducible change wpList _ _ _ (⟨some 16, _, _, _, _, _⟩ :: _) _ _); refine wpl_copy (enc := e8) rfl (.tmp 14) (.tmp 15) rfl Try.underlying22 size_u8 (fun _ => rfl) rfl rfl HO1.out (HV.out.new HN.out) ?_)
  intro w2 HO hg hsz
  have HO2 := Lib.hid HO
  have HG := Lib.hid hg
  have HS := Lib.hid hsz
  clear HO hg hsz
  have hn2 : New w w2 := Below.grown HN.out HG.out (by omega) (by intro k hk; simp [Value.ownBlock] at hk; omega)
  have HN2 := Lib.hid hn2
  clear hn2
  go_wp2_with (at_builtin; refine wpl_append (enc := e8) rfl (.tmp 17) (.tmp 18) rfl Try.underlying22 info_u8 rfl (fun _ => rfl) rfl rfl HO2.out (HU.out.new HN2.out) (by omega) (by omega) HN2.out.size ?_)
  intro A' c' w3 HO hg _
  have HO5 := Lib.hid HO
  have HG3 := Lib.hid hg
  clear HO hg
  go_wp2
  go_ret
  refine ⟨A', c', rfl, Below.grown HN2.out HG3.out HN2.out.size (by intro k hk; simp [Value.ownBlock] at hk; omega), HO5.out⟩
end Go.Proofs.Ytcbijmlkkdpheaa
