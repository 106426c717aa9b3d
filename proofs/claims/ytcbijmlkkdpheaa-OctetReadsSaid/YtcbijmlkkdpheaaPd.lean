/- The law OctetOrders: numbers of one width stand in the order of their bytes. -/
import Derived.Test.YtcbijmlkkdpheaaPc
set_option linter.unusedVariables false
set_option linter.unusedSimpArgs false
namespace Go.Proofs.Ytcbijmlkkdpheaa
open Go.RowKit

theorem cmpI_snoc : ∀ (xs ys : List U8) (x y : U8), xs.length = ys.length → cmpI (xs ++ [x]) (ys ++ [y]) = if cmpI xs ys = 0 then cmp1 x.1 y.1 else cmpI xs ys
  | [], [], x, y, _ => by
    by_cases h : cmp1 x.1 y.1 = 0 <;> simp [cmpI, h]
  | x :: xs, y :: ys, p, q, h => by
    have ih := cmpI_snoc xs ys p q (by simpa using h)
    by_cases h1 : cmp1 x.1 y.1 = 0
    · simp [cmpI, h1, ih]
    · simp [cmpI, h1]
  | [], _ :: _, _, _, h => by simp at h
  | _ :: _, [], _, _, h => by simp at h
theorem cmp1_div (a b : Int) : cmp1 a b = if cmp1 (a / 256) (b / 256) = 0 then cmp1 (a % 256) (b % 256) else cmp1 (a / 256) (b / 256) := by
  unfold cmp1
  split <;> split <;> (try split) <;> (try split) <;> (try split) <;> omega
theorem cmpI_be : ∀ (k : Nat) (a b : Int), 0 ≤ a → 0 ≤ b → a < 256 ^ k → b < 256 ^ k → cmpI (beI k a) (beI k b) = cmp1 a b
  | 0, a, b, h1, h2, h3, h4 => by
    have ha : a = 0 := by simp at h3; omega
    have hb : b = 0 := by simp at h4; omega
    subst ha hb
    rfl
  | k + 1, a, b, h1, h2, h3, h4 => by
    rw [beI, beI, cmpI_snoc _ _ _ _ (by rw [beI_length, beI_length]), cmpI_be k (a / 256) (b / 256) (by omega) (by omega) (by rw [Int.pow_succ] at h3; omega) (by rw [Int.pow_succ] at h4; omega), ← cmp1_div]
theorem laidI_fit {width n : Int} {xs : List U8} (h : laidI width n = .ok xs) (hn : 0 ≤ n) (hn' : n ≤ 18446744073709551615) : 1 ≤ width ∧ width ≤ 8 ∧ n < 256 ^ width.toNat ∧ xs = beI width.toNat n := by
  by_cases h1 : isWB width = true
  · have hw := (isWB_iff _).1 h1
    rw [laidI, if_pos h1] at h
    by_cases h2 : width = 8 ∨ n < 256 ^ width.toNat
    · rw [if_pos h2] at h
      injection h with h
      refine ⟨hw.1, hw.2, ?_, h.symm⟩
      rcases h2 with rfl | h2
      · exact Int.lt_of_le_of_lt hn' (by decide)
      · exact h2
    · rw [if_neg h2] at h
      cases h
  · rw [laidI, if_neg h1] at h
    cases h
theorem laidI_no {width n x : Int} (h : laidI width n = .no x) : (x != 0) = true := by
  rw [laidI] at h
  split at h
  · split at h
    · cases h
    · injection h with h; subst h; rfl
  · injection h with h; subst h; rfl
theorem putI_ok {width n : Int} {b xs : List U8} (h : laidI width n = .ok xs) : putI b width n = .ok (b ++ xs) := by rw [putI, h]
theorem putI_nil {width n : Int} {xs : List U8} (h : laidI width n = .ok xs) : putI [] width n = .ok xs := by rw [putI, h]; rfl
theorem putI_no {width n x : Int} {b : List U8} (h : laidI width n = .no x) : putI b width n = .no x := by rw [putI, h]

set_option maxHeartbeats 4000000 in
theorem law_Orders (width a b : Int) (ha : 0 ≤ a) (ha' : a ≤ 18446744073709551615) (hb : 0 ≤ b) (hb' : b ≤ 18446744073709551615) (w : World) :
    Calls Try.prog 8 #[.int .i64 width, .int .u64 a, .int .u64 b] w fun e w' => e = .returned (.bool true) ∧ New w w' := by
  have HA := Lib.hid ha
  have HA' := Lib.hid ha'
  have HB := Lib.hid hb
  have HB' := Lib.hid hb'
  clear ha ha' hb hb'
  go_enter Try.func8, Try.ntmps8
  go_wp2_with fail
  refine (law_wakes w).mono ?_
  rintro e w1 ⟨rfl, hN⟩
  have HN1 := Lib.hid hN
  clear hN
  go_wp2_with fail
  refine (oc_Put 0 0 _ [] width a _ (Rd.nil _ _ _ _) (by decide) HA.out HA'.out).mono ?_
  rintro e w2 ho
  cases hA : laidI width a with
  | no x =>
    obtain ⟨hN, rfl⟩ := ho.bad (putI_no hA)
    have hx := laidI_no hA
    have HN2 := Lib.hid (HN1.out.trans hN)
    clear hN ho HN1 hA
    go_wp2_with fail
    refine (oc_Put 0 0 _ [] width b _ (Rd.nil _ _ _ _) (by decide) HB.out HB'.out).mono ?_
    rintro e w3 ho
    cases hB : laidI width b with
    | no y =>
      obtain ⟨hN, rfl⟩ := ho.bad (putI_no hB)
      have hy := laidI_no hB
      have HN3 := Lib.hid (HN2.out.trans hN)
      clear hN ho HN2 hB
      go_wp2
      go_ret
      exact ⟨rfl, HN3.out⟩
    | ok ys =>
      obtain ⟨hN, v, rfl, A, c, rfl, hO⟩ := ho.ok (putI_nil hB)
      have HN3 := Lib.hid (HN2.out.trans hN)
      clear hN ho HN2 hB
      go_wp2
      go_ret
      exact ⟨rfl, HN3.out⟩
  | ok xs =>
    obtain ⟨hN, v, rfl, A, c, rfl, hO⟩ := ho.ok (putI_nil hA)
    have hxl := laidI_fit hA HA.out HA'.out
    have HN2 := Lib.hid (HN1.out.trans hN)
    have HX := Lib.hid (hO.rd (Nat.le_refl _))
    have HXF := Lib.hid hxl
    clear hN ho HN1 hA hO hxl
    go_wp2_with fail
    refine (oc_Put 0 0 _ [] width b _ (Rd.nil _ _ _ _) (by decide) HB.out HB'.out).mono ?_
    rintro e w3 ho
    cases hB : laidI width b with
    | no y =>
      obtain ⟨hN, rfl⟩ := ho.bad (putI_no hB)
      have hy := laidI_no hB
      have HN3 := Lib.hid (HN2.out.trans hN)
      clear hN ho HN2 hB
      go_wp2
      go_ret
      exact ⟨rfl, HN3.out⟩
    | ok ys =>
      obtain ⟨hN, v, rfl, A2, c2, rfl, hO⟩ := ho.ok (putI_nil hB)
      have hyl := laidI_fit hB HB.out HB'.out
      have HN3 := Lib.hid (HN2.out.trans hN)
      have HX3 := Lib.hid (HX.out.new hN)
      have HY := Lib.hid (hO.rd (Nat.le_refl _))
      have hcm : cmpI xs ys = cmp1 a b := by
        obtain ⟨_, _, h3, rfl⟩ := HXF.out
        obtain ⟨_, _, h4, rfl⟩ := hyl
        exact cmpI_be _ _ _ HA.out HB.out h3 h4
      have hl1 : ((xs.length : Nat) : Int) = width := by
        obtain ⟨_, _, _, rfl⟩ := HXF.out
        rw [beI_length]
        omega
      have hl2 : ((ys.length : Nat) : Int) = width := by
        obtain ⟨_, _, _, rfl⟩ := hyl
        rw [beI_length]
        omega
      clear hN ho HN2 hB hO hyl HX HXF
      subst hl1
      have hl3 : ((ys.length : Nat) : Int) = xs.length := hl2
      have hl4 : ((ys.length : Int) == (xs.length : Int)) = true := by simp; omega
      clear hl2 hl3
      go_wp2_with fail
      refine (lib_Compare _ _ _ _ _ _ xs ys _ HX3.out HY.out).mono ?_
      rw [hcm]
      rintro e w' ⟨rfl, rfl⟩
      clear HX3 HY hcm
      rcases Int.lt_trichotomy a b with h | h | h
      · have hne : (a == b) = false := by simp; omega
        rw [show cmp1 a b = -1 by rw [cmp1, if_pos h]]
        go_wp2
        go_ret
        exact ⟨rfl, HN3.out⟩
      · subst h
        rw [show cmp1 a a = 0 by rw [cmp1, if_neg (by omega), if_neg (by omega)]]
        go_wp2
        go_ret
        exact ⟨rfl, HN3.out⟩
      · have hne : (a == b) = false := by simp; omega
        have hlt : decide (a < b) = false := by simp; omega
        rw [show cmp1 a b = 1 by rw [cmp1, if_neg (by omega), if_pos h]]
        go_wp2
        go_ret
        exact ⟨rfl, HN3.out⟩
end Go.Proofs.Ytcbijmlkkdpheaa
