/- Contracts of the reference of runs: begins. -/
import Derived.Test.YthihffglkheleaaSa

set_option linter.unusedVariables false
set_option linter.unusedSimpArgs false
namespace Go.Proofs.Ythihffglkheleaa
open Go.RowKit

/-- do bytes begin with others? -/
def beginsB (bs ys : List U8) : Bool := decide (bs.take ys.length = ys)
theorem beginsB_of (bs ys : List U8) (h : ∀ k (h1 : k < ys.length), ∃ h2 : k < bs.length, bs[k] = ys[k]) : beginsB bs ys = true := by
  rw [beginsB, decide_eq_true_eq]
  apply List.ext_getElem?
  intro k
  by_cases hk : k < ys.length
  · obtain ⟨h2, h3⟩ := h k hk
    rw [List.getElem?_take, if_pos hk, List.getElem?_eq_getElem h2, List.getElem?_eq_getElem hk, h3]
  · rw [List.getElem?_eq_none (by rw [List.length_take]; omega), List.getElem?_eq_none (by omega)]
theorem beginsB_short (bs ys : List U8) (k : Nat) (h1 : k < ys.length) (h2 : bs.length ≤ k) : beginsB bs ys = false := by
  rw [beginsB, decide_eq_false_iff_not]
  intro h
  have := congrArg List.length h
  rw [List.length_take] at this
  omega
theorem beginsB_other (bs ys : List U8) (k : Nat) (h1 : k < ys.length) (h2 : k < bs.length) (h3 : ¬ bs[k] = ys[k]) : beginsB bs ys = false := by
  rw [beginsB, decide_eq_false_iff_not]
  intro h
  apply h3
  have e : (bs.take ys.length)[k]? = ys[k]? := by rw [h]
  rw [List.getElem?_take, if_pos h1, List.getElem?_eq_getElem h2, List.getElem?_eq_getElem h1] at e
  injection e

set_option maxRecDepth 100000 in
set_option maxHeartbeats 4000000 in
theorem ref_begins (lo hi lo' hi' : Nat) (v u : Value) (bs ys : List U8) (w : World) (hv : Rd e8 lo hi w v bs) (hu : Rd e8 lo' hi' w u ys) :
    Calls Try.prog 35 #[v, u] w fun e w' => e = .returned (.bool (beginsB bs ys)) ∧ w = w' := by
  obtain ⟨A, c, rfl, h1, h2⟩ := hv.form
  obtain ⟨B, d, rfl, h3, h4⟩ := hu.form
  have HV := Lib.hid hv
  have HU := Lib.hid hu
  clear hv hu
  obtain ⟨R, hR⟩ : ∃ R, R = beginsB bs ys := ⟨_, rfl⟩
  rw [← hR]
  have HR := Lib.hid hR
  clear hR
  go_enter Try.func35, Try.ntmps35
  go_wp2_with fail
  go_loopw [9] (fun i W => ∃ k : Nat, k ≤ ys.length ∧ i = .int .i64 k ∧ W = w ∧ Hid (∀ j (h1 : j < ys.length), j < k → ∃ h2 : j < bs.length, bs[j] = ys[j])) (fun i _ => ys.length - (intOf i).toNat)
  case atStart => exact ⟨0, by omega, rfl, rfl, Lib.hid (fun j _ h => by omega)⟩
  case round =>
    obtain ⟨k, hk, rfl, rfl, HALL⟩ := hrel
    by_cases hlt : k < ys.length
    · obtain ⟨b, off, c', e, _, _, _, _, _, hc⟩ := HU.out.at_ k hlt
      injection e with e1 e2 e3
      subst e1
      have y0 := hc k hlt
      clear hc e2 e3
      by_cases hb : k < bs.length
      · obtain ⟨b2, off2, c2, e, _, _, _, _, _, hc⟩ := HV.out.at_ k hb
        injection e with e1 e2 e3
        subst e1
        have x0 := hc k hb
        have d1 : decide ((bs.length : Int) ≤ (k : Int)) = false := by simp; omega
        clear hc e2 e3
        by_cases he : bs[k] = ys[k]
        · have HE := Lib.hid he
          rw [he] at x0
          generalize ys[k] = y at x0 y0
          clear he
          go_wp2
          go_roundw
          case rel => exact ⟨k + 1, by omega, by go_num, by first | rfl | trivial, Lib.hid (fun j h1 h2 => by
            by_cases hj : j < k
            · exact HALL.out j h1 hj
            · obtain rfl : j = k := by omega
              exact ⟨hb, HE.out⟩)⟩
          case measure => simp [intOf]; omega
        · have d2 : (bs[k].1 == ys[k].1) = false := by
            simp only [beq_eq_false_iff_ne, ne_eq]
            exact fun h => he (Subtype.ext h)
          have d3 : (bs[k].1 != ys[k].1) = true := by
            simp only [bne_iff_ne, ne_eq]
            exact fun h => he (Subtype.ext h)
          obtain rfl : R = false := HR.out.trans (beginsB_other bs ys k hlt hb he)
          clear he
          generalize ys[k] = y at *
          generalize bs[k] = x at *
          go_wp2
          go_ret
          exact ⟨rfl, rfl⟩
      · have d1 : decide ((bs.length : Int) ≤ (k : Int)) = true := by simp; omega
        obtain rfl : R = false := HR.out.trans (beginsB_short bs ys k hlt (by omega))
        generalize ys[k] = y at *
        go_wp2
        go_ret
        exact ⟨rfl, rfl⟩
    · obtain rfl : R = true := HR.out.trans (beginsB_of bs ys (fun j h1 => HALL.out j h1 (by omega)))
      go_wp2
      go_ret
      exact ⟨rfl, rfl⟩
end Go.Proofs.Ythihffglkheleaa
