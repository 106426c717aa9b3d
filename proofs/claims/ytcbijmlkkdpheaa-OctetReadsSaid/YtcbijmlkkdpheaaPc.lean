/- Contract of slices.Compare; the law OctetOrders. -/
import Derived.Test.YtcbijmlkkdpheaaPb
import Derived.Test.YtcbijmlkkdpheaaFr
set_option linter.unusedVariables false
set_option linter.unusedSimpArgs false
namespace Go.Proofs.Ytcbijmlkkdpheaa
open Go.RowKit

theorem lib_isNaN (a : U8) (w : World) : Calls Try.prog 72 #[.int .u8 a.1] w fun e w' => e = .returned (.bool false) ∧ w = w' := by
  go_enter Try.func72, Try.ntmps72
  go_wp2
  go_ret
  exact ⟨by simp, rfl⟩

def cmp1 (a b : Int) : Int := if a < b then -1 else if b < a then 1 else 0
set_option maxHeartbeats 1000000 in
theorem lib_cmp (a b : U8) (w : World) : Calls Try.prog 66 #[.int .u8 a.1, .int .u8 b.1] w fun e w' => e = .returned (.int .i64 (cmp1 a.1 b.1)) ∧ w = w' := by
  by_cases h1 : a.1 < b.1
  · go_enter Try.func66, Try.ntmps66
    go_wp2_with (go_at_call 72; ((first | (with_reducible refine (lib_isNaN a w).mono ?_) | (with_reducible refine (lib_isNaN b w).mono ?_)); rintro e w' ⟨rfl, rfl⟩))
    go_ret
    exact ⟨by rw [cmp1, if_pos h1]; rfl, rfl⟩
  · by_cases h2 : b.1 < a.1
    · go_enter Try.func66, Try.ntmps66
      go_wp2_with (go_at_call 72; ((first | (with_reducible refine (lib_isNaN a w).mono ?_) | (with_reducible refine (lib_isNaN b w).mono ?_)); rintro e w' ⟨rfl, rfl⟩))
      go_ret
      exact ⟨by rw [cmp1, if_neg (by omega), if_pos h2]; rfl, rfl⟩
    · go_enter Try.func66, Try.ntmps66
      go_wp2_with (go_at_call 72; ((first | (with_reducible refine (lib_isNaN a w).mono ?_) | (with_reducible refine (lib_isNaN b w).mono ?_)); rintro e w' ⟨rfl, rfl⟩))
      go_ret
      exact ⟨by rw [cmp1, if_neg (by omega), if_neg (by omega)]; rfl, rfl⟩

def cmpI : List U8 → List U8 → Int
  | [], [] => 0
  | [], _ :: _ => -1
  | _ :: _, [] => 1
  | x :: xs, y :: ys => if cmp1 x.1 y.1 = 0 then cmpI xs ys else cmp1 x.1 y.1
theorem cmpI_step (xs ys : List U8) (k : Nat) (h1 : k < xs.length) (h2 : k < ys.length) : cmpI (xs.drop k) (ys.drop k) = if cmp1 xs[k].1 ys[k].1 = 0 then cmpI (xs.drop (k + 1)) (ys.drop (k + 1)) else cmp1 xs[k].1 ys[k].1 := by
  rw [List.drop_eq_getElem_cons h1, List.drop_eq_getElem_cons h2, cmpI]
theorem cmpI_longer (xs ys : List U8) (k : Nat) (h1 : k < xs.length) (h2 : ys.length ≤ k) : cmpI (xs.drop k) (ys.drop k) = 1 := by
  rw [List.drop_eq_getElem_cons h1, List.drop_eq_nil_of_le h2, cmpI]
theorem cmpI_end (xs ys : List U8) : cmpI (xs.drop xs.length) (ys.drop xs.length) = if xs.length < ys.length then -1 else 0 := by
  rw [List.drop_length]
  by_cases h : xs.length < ys.length
  · rw [if_pos h, List.drop_eq_getElem_cons h, cmpI]
  · rw [if_neg h, List.drop_eq_nil_of_le (by omega), cmpI]

set_option maxHeartbeats 1000000 in
theorem lib_Compare (lo hi lo' hi' : Nat) (v u : Value) (xs ys : List U8) (w : World) (hv : Rd e8 lo hi w v xs) (hu : Rd e8 lo' hi' w u ys) :
    Calls Try.prog 42 #[v, u] w fun e w' => e = .returned (.int .i64 (cmpI xs ys)) ∧ w = w' := by
  obtain ⟨A, c, rfl, h1, h2⟩ := hv.form
  obtain ⟨B, d, rfl, h3, h4⟩ := hu.form
  have hl := hv.len
  have HV := Lib.hid hv
  have HU := Lib.hid hu
  clear hv hu
  go_enter Try.func42, Try.ntmps42
  go_wp2
  go_loop [11, 5, 6, 7, 8] (fun i _ _ _ _ => ∃ k : Nat, k ≤ xs.length ∧ i = .int .i64 k ∧ Hid (cmpI xs ys = cmpI (xs.drop k) (ys.drop k))) (fun i _ _ _ _ => xs.length - (intOf i).toNat)
  case atStart => exact ⟨0, Nat.zero_le _, rfl, Lib.hid rfl⟩
  case round =>
    obtain ⟨k, hk, rfl, HT⟩ := hrel
    by_cases hlt : k < xs.length
    · obtain ⟨b, off, c', e, _, _, _, _, _, hc⟩ := HV.out.at_ k hlt
      injection e with e1 e2' e3
      subst e1
      have hcell : w.cell? ⟨b, off + k, none⟩ = some (e8 xs[k]) := hc k hlt
      clear hc e2' e3
      by_cases hlt2 : k < ys.length
      · obtain ⟨b2, off2, c2', e2, _, _, _, _, _, hc2⟩ := HU.out.at_ k hlt2
        injection e2 with e4 e5 e6
        subst e4
        have hcell2 : w.cell? ⟨b2, off2 + k, none⟩ = some (e8 ys[k]) := hc2 k hlt2
        clear hc2 e5 e6
        have HCM := Lib.hid (lib_cmp xs[k] ys[k] w)
        have HST := Lib.hid (cmpI_step xs ys k hlt hlt2)
        generalize hz : cmp1 xs[k].1 ys[k].1 = z at *
        by_cases hz0 : z = 0
        · subst hz0
          have HT2 := Lib.hid (HT.out.trans (by rw [HST.out, if_pos rfl]))
          clear hz HST
          go_wp2_with (go_at_call 66; ((with_reducible refine HCM.out.mono ?_); rintro e w' ⟨rfl, rfl⟩))
          go_round
          case rel => exact ⟨k + 1, by omega, by go_num, HT2⟩
          case measure => simp [intOf]; omega
        · have hz1 : (z != 0) = true := by simpa using hz0
          have HT2 := Lib.hid (HT.out.trans (by rw [HST.out, if_neg hz0]))
          clear hz HST hz0
          go_wp2_with (go_at_call 66; ((with_reducible refine HCM.out.mono ?_); rintro e w' ⟨rfl, rfl⟩))
          go_ret
          exact ⟨by rw [HT2.out]; rfl, rfl⟩
      · have HT2 := Lib.hid (HT.out.trans (cmpI_longer xs ys k hlt (by omega)))
        go_wp2
        go_ret
        exact ⟨by rw [HT2.out]; rfl, rfl⟩
    · obtain rfl : k = xs.length := by omega
      have HT2 := Lib.hid (HT.out.trans (cmpI_end xs ys))
      by_cases hx : xs.length < ys.length
      · go_wp2
        go_ret
        exact ⟨by rw [HT2.out, if_pos hx]; rfl, rfl⟩
      · go_wp2
        go_ret
        exact ⟨by rw [HT2.out, if_neg hx]; rfl, rfl⟩
end Go.Proofs.Ytcbijmlkkdpheaa
