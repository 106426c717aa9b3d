/- Plain laws of canvases as bytes: what is told is read. -/
import Derived.Test.YthihffglkheleaaUd
set_option linter.unusedVariables false
set_option linter.unusedSimpArgs false
namespace Go.Proofs.Ythihffglkheleaa
open Go.RowKit

theorem u8_val (n : Int) (h0 : 0 ≤ n) (h1 : n ≤ 255) : (u8 n).1 = n := by simp [u8]; omega
theorem sizes_bounds {wd hg : Int} (h : sizesB wd hg = true) : 1 ≤ wd ∧ wd ≤ 4 ∧ 1 ≤ hg ∧ hg ≤ 4 := by simpa [sizesB] using h
theorem bytesC_length_pos (Z : List (List Col) → List Col) (done l : List (List Col)) (h : ∀ t ∈ l, t.length = 64) (hl : l ≠ []) : 0 < (bytesC Z done l).length := by
  cases l with
  | nil => exact absurd rfl hl
  | cons t l =>
    rw [bytesC, List.length_append]
    split
    · simp; omega
    · have := tileB_length_pos t (h t (by simp)); omega
theorem readCv_canvB {wd hg : Int} {ts : List (List Col)} (hr : rightB wd hg ts.length = true) (ht : ∀ t ∈ ts, t.length = 64) (more : List U8) :
    readCv (canvB wd hg ZA ts ++ more) = some (wd, hg, ts, (canvB wd hg ZA ts).length) := by
  obtain ⟨_, hn, hs⟩ := right_len wd hg ts.length hr
  obtain ⟨h1, h2, h3, h4⟩ := sizes_bounds hs
  have e1 : (u8 wd).1 = wd := u8_val wd (by omega) (by omega)
  have e2 : (u8 hg).1 = hg := u8_val hg (by omega) (by omega)
  have hc : canvB wd hg ZA ts ++ more = u8 wd :: u8 hg :: (bytesC ZA [] ts ++ more) := by simp [canvB]
  have hrd := rdC_bytesC ZA more ts [] ht
  rw [List.nil_append] at hrd
  rw [hc]
  simp only [readCv, e1, e2, hs, if_true]
  rw [← hn, Int.toNat_natCast, hrd]
  simp only [Option.map_some, Option.some.injEq, Prod.mk.injEq, true_and]
  simp [canvB]
  omega
theorem ZA_len : ∀ d : List (List Col), (∀ t ∈ d, t.length = 64) → (ZA d).length = 64 := fun d h => ZA_length h
theorem readCv_some {bs : List U8} {wd hg : Int} {l : List (List Col)} {n : Nat} (h : readCv bs = some (wd, hg, l, n)) :
    rightB wd hg l.length = true ∧ (∀ t ∈ l, t.length = 64) ∧ n ≤ bs.length ∧ bs.take n = canvB wd hg ZA l ∧ n = (canvB wd hg ZA l).length := by
  match bs, h with
  | x :: y :: rest, h =>
    simp only [readCv] at h
    split at h
    · next hs =>
      obtain ⟨q, hq, he⟩ := Option.map_eq_some_iff.1 h
      obtain ⟨ql, qr⟩ := q
      simp only [Prod.mk.injEq] at he
      obtain ⟨rfl, rfl, rfl, rfl⟩ := he
      obtain ⟨l', e1, e2, e3, e4⟩ := rdC_some ZA ZA_len _ [] rest ql qr (by simp) hq
      rw [List.nil_append] at e1
      subst e1
      obtain ⟨m1, m2⟩ := mul_small _ _ hs
      have ex : u8 x.1 = x := Subtype.ext (u8_val x.1 x.2.1 x.2.2)
      have ey : u8 y.1 = y := Subtype.ext (u8_val y.1 y.2.1 y.2.2)
      have hl : (x :: y :: rest).length - qr.length = (canvB x.1 y.1 ZA ql).length := by
        simp only [canvB, List.length_append, List.length_cons, List.length_nil]
        rw [e3, List.length_append]
        omega
      refine ⟨?_, e4, by omega, ?_, hl⟩
      · simp only [rightB, hs, Bool.true_and, decide_eq_true_eq]
        omega
      · rw [hl]
        have : x :: y :: rest = canvB x.1 y.1 ZA ql ++ qr := by
          rw [canvB, ex, ey, e3]
          simp
        rw [this, List.take_left]
    · cases h
theorem readCv_cut {wd hg : Int} {ts : List (List Col)} (hr : rightB wd hg ts.length = true) (ht : ∀ t ∈ ts, t.length = 64) (k : Nat) (hk : k < (canvB wd hg ZA ts).length) : readCv ((canvB wd hg ZA ts).take k) = none := by
  cases h : readCv ((canvB wd hg ZA ts).take k) with
  | none => rfl
  | some q =>
    obtain ⟨wd', hg', l, n⟩ := q
    obtain ⟨h1, h2, h3, h4, h5⟩ := readCv_some h
    rw [List.length_take] at h3
    rw [List.take_take, Nat.min_eq_left (by omega)] at h4
    have h6 := readCv_canvB h1 h2 ((canvB wd hg ZA ts).drop n)
    rw [← h4, List.take_append_drop] at h6
    have h7 := readCv_canvB hr ht []
    rw [List.append_nil, h6] at h7
    simp only [Option.some.injEq, Prod.mk.injEq] at h7
    have := h7.2.2.2
    rw [List.length_take] at this
    omega
theorem canvB_length (wd hg : Int) (Z : List (List Col) → List Col) (ts : List (List Col)) : (canvB wd hg Z ts).length = 2 + (bytesC Z [] ts).length := by simp [canvB]; omega
theorem bytesC_le (Z : List (List Col) → List Col) : ∀ (l done : List (List Col)), (∀ t ∈ l, t.length = 64) → (bytesC Z done l).length ≤ 320 * l.length
  | [], _, _ => by simp [bytesC]
  | t :: l, done, h => by
    have ih := bytesC_le Z l (done ++ [t]) (fun u hu => h u (by simp [hu]))
    have h1 := tileB_le t
    have h2 := h t (by simp)
    rw [bytesC, List.length_append, List.length_cons]
    split
    · simp only [List.length_cons, List.length_nil]; omega
    · omega
end Go.Proofs.Ythihffglkheleaa
