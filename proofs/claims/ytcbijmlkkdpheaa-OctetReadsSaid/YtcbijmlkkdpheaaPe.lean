/- Numbers and their bytes: the plain laws behind OctetBack. -/
import Derived.Test.YtcbijmlkkdpheaaPd
set_option linter.unusedVariables false
set_option linter.unusedSimpArgs false
namespace Go.Proofs.Ytcbijmlkkdpheaa
open Go.RowKit

theorem pow_le8 : ∀ j : Nat, j ≤ 8 → (256 : Int) ^ j ≤ 18446744073709551616 := by decide
theorem numI_be : ∀ (k : Nat) (n : Int), k ≤ 8 → 0 ≤ n → n < 256 ^ k → numI (beI k n) = n
  | 0, n, _, h0, h1 => by simp at h1; have : n = 0 := by omega
                          subst this; rfl
  | k + 1, n, hk, h0, h1 => by
    have hb := pow_le8 (k + 1) hk
    rw [beI, numI_snoc, numI_be k (n / 256) (by omega) (by omega) (by rw [Int.pow_succ] at h1; omega)]
    simp only
    have h2 : n < 18446744073709551616 := by omega
    rw [Int.emod_eq_of_lt (by omega) (by omega)]
    omega
theorem be_numI (xs : List U8) : xs.length ≤ 8 → numI xs < 256 ^ xs.length ∧ beI xs.length (numI xs) = xs := by
  induction hn : xs.length generalizing xs with
  | zero => intro _; have : xs = [] := List.eq_nil_of_length_eq_zero hn
            subst this; exact ⟨by decide, rfl⟩
  | succ k ih =>
    intro hk
    rcases List.eq_nil_or_concat xs with rfl | ⟨ys, y, rfl⟩
    · simp at hn
    · simp only [List.concat_eq_append] at hn ⊢
      have hl : ys.length = k := by simpa using hn
      obtain ⟨h1, h2⟩ := ih ys hl (by omega)
      have h0 := (numI_bound ys).1
      have hy := y.2
      have hb := pow_le8 (k + 1) hk
      have hs : (256 : Int) ^ (k + 1) = 256 ^ k * 256 := Int.pow_succ _ _
      have hlt : numI ys * 256 + y.1 < 18446744073709551616 := by omega
      rw [numI_snoc, Int.emod_eq_of_lt (by omega) hlt]
      refine ⟨by omega, ?_⟩
      rw [beI, show (numI ys * 256 + y.1) / 256 = numI ys by omega, h2]
      congr 2
      exact Subtype.ext (by show (numI ys * 256 + y.1) % 256 = y.1; omega)

/-- every number has its width -/
def Fit : List I64 → List U64 → Prop
  | [], [] => True
  | w :: ws, n :: ns => (1 ≤ w.1 ∧ w.1 ≤ 8 ∧ n.1 < 256 ^ w.1.toNat) ∧ Fit ws ns
  | _, _ => False
def cat : List I64 → List U64 → List U8
  | w :: ws, n :: ns => beI w.1.toNat n.1 ++ cat ws ns
  | _, _ => []
theorem laidI_of_fit {w n : Int} (h1 : 1 ≤ w) (h2 : w ≤ 8) (h3 : n < 256 ^ w.toNat) : laidI w n = .ok (beI w.toNat n) := by
  rw [laidI, if_pos ((isWB_iff _).2 ⟨h1, h2⟩), if_pos (.inr h3)]
theorem layN_cons (w : I64) (n : U64) (ws : List I64) (ns : List U64) : ∀ k, layN (w :: ws) (n :: ns) (k + 1) = match laidI w.1 n.1 with
    | .no x => .no x
    | .ok xs => match layN ws ns k with
      | .no x => .no x
      | .ok acc => .ok (xs ++ acc) := by
  intro k
  induction k with
  | zero =>
    simp only [layN, List.getD_cons_zero]
    cases laidI w.1 n.1 <;> simp
  | succ k ih =>
    rw [layN, ih]
    cases h : laidI w.1 n.1 with
    | no x => rfl
    | ok xs =>
      simp only [layN, List.getD_cons_succ]
      cases h2 : layN ws ns k with
      | no x => rfl
      | ok acc =>
        simp only
        cases h3 : laidI (ws.getD k ⟨0, by omega⟩).1 (ns.getD k ⟨0, by omega⟩).1 <;> simp
theorem layN_fit : ∀ (ws : List I64) (ns : List U64) (acc : List U8), ns.length = ws.length → (layN ws ns ws.length = .ok acc ↔ Fit ws ns ∧ acc = cat ws ns)
  | [], [], acc, _ => by simp [layN, Fit, cat, eq_comm]
  | w :: ws, n :: ns, acc, h => by
    have ih := fun acc => layN_fit ws ns acc (by simpa using h)
    rw [List.length_cons, layN_cons]
    cases h1 : laidI w.1 n.1 with
    | no x =>
      simp only [Fit]
      constructor
      · intro h; cases h
      · rintro ⟨⟨⟨a, b, c⟩, _⟩, _⟩
        rw [laidI_of_fit a b c] at h1
        cases h1
    | ok xs =>
      obtain ⟨a, b, c, rfl⟩ := laidI_fit h1 n.2.1 n.2.2
      cases h2 : layN ws ns ws.length with
      | no x =>
        simp only [Fit]
        constructor
        · intro h; cases h
        · rintro ⟨⟨_, hf⟩, _⟩
          have := (ih (cat ws ns)).2 ⟨hf, rfl⟩
          rw [this] at h2
          cases h2
      | ok acc2 =>
        obtain ⟨hf, rfl⟩ := (ih acc2).1 h2
        simp only [Fit, cat]
        constructor
        · intro h
          injection h with h
          exact ⟨⟨⟨a, b, c⟩, hf⟩, h.symm⟩
        · rintro ⟨_, rfl⟩
          rfl
  | [], _ :: _, _, h => by simp at h
  | _ :: _, [], _, h => by simp at h
theorem Fit.length : ∀ {ws : List I64} {ns : List U64}, Fit ws ns → ns.length = ws.length
  | [], [], _ => rfl
  | _ :: _, _ :: _, h => by simp [Fit.length h.2]
theorem Fit.all : ∀ {ws : List I64} {ns : List U64}, Fit ws ns → ws.all okW = true
  | [], [], _ => rfl
  | w :: ws, _ :: _, h => by
    rw [List.all_cons, Fit.all h.2, okW, (isWB_iff _).2 ⟨h.1.1, h.1.2.1⟩]
    rfl
theorem layI_fit (ws : List I64) (ns : List U64) (acc : List U8) : layI ws ns = .ok acc ↔ Fit ws ns ∧ acc = cat ws ns := by
  rw [layI]
  constructor
  · intro h
    split at h
    · split at h
      · rename_i h2
        exact (layN_fit ws ns acc h2).1 h
      · cases h
    · cases h
  · rintro ⟨h, rfl⟩
    rw [if_pos h.all, if_pos h.length]
    exact (layN_fit ws ns _ h.length).2 ⟨h, rfl⟩
theorem cat_length : ∀ {ws : List I64} {ns : List U64}, Fit ws ns → sumW ws = (cat ws ns).length
  | [], [], _ => rfl
  | w :: ws, n :: ns, h => by
    have ih := cat_length h.2
    have h1 := h.1.1
    simp only [sumW, cat, List.length_append, beI_length, ih]
    omega
theorem nums_cat : ∀ {ws : List I64} {ns : List U64}, Fit ws ns → numsU ws (cat ws ns) = ns
  | [], [], _ => rfl
  | w :: ws, n :: ns, h => by
    have ih := nums_cat h.2
    have hl : (beI w.1.toNat n.1).length = w.1.toNat := beI_length _ _
    simp only [numsU, cat]
    rw [List.take_append_of_le_length (by omega), List.take_of_length_le (by omega), List.drop_append_of_le_length (by omega), List.drop_of_length_le (by omega), List.nil_append, ih]
    congr 1
    exact Subtype.ext (numI_be _ _ (by have := h.1.2.1; omega) n.2.1 h.1.2.2)
theorem cat_nums : ∀ (ws : List I64) (xs : List U8), ws.all okW = true → sumW ws = xs.length → Fit ws (numsU ws xs) ∧ cat ws (numsU ws xs) = xs
  | [], xs, _, h => by
    simp [sumW] at h
    have : xs = [] := List.eq_nil_of_length_eq_zero (by omega)
    subst this
    exact ⟨trivial, rfl⟩
  | w :: ws, xs, ha, h => by
    simp only [List.all_cons, Bool.and_eq_true] at ha
    have hw := (isWB_iff _).1 ha.1
    have hb := sumW_bound ws ha.2
    simp only [sumW] at h
    have hl : (xs.take w.1.toNat).length = w.1.toNat := by rw [List.length_take]; omega
    obtain ⟨h1, h2⟩ := be_numI (xs.take w.1.toNat) (by omega)
    obtain ⟨f, e⟩ := cat_nums ws (xs.drop w.1.toNat) ha.2 (by rw [List.length_drop]; omega)
    rw [hl] at h1 h2
    refine ⟨⟨⟨hw.1, hw.2, h1⟩, f⟩, ?_⟩
    simp only [numsU, cat]
    rw [e, show (numU (xs.take w.1.toNat)).1 = numI (xs.take w.1.toNat) from rfl, h2, List.take_append_drop]
theorem split_of_lay {ws : List I64} {ns : List U64} {xs : List U8} (h : layI ws ns = .ok xs) : splitI ws xs = .ok ns ∧ sizeI ws = .ok xs.length ∧ ws.all okW = true ∧ sumW ws = xs.length ∧ numsU ws xs = ns := by
  obtain ⟨f, rfl⟩ := (layI_fit _ _ _).1 h
  have hs := cat_length f
  refine ⟨?_, ?_, f.all, hs, nums_cat f⟩
  · rw [splitI, if_pos f.all, if_pos (by omega), if_pos hs, nums_cat f]
  · rw [sizeI, if_pos f.all, hs]
theorem lay_of_split {ws : List I64} {ns : List U64} {xs : List U8} (h : splitI ws xs = .ok ns) : layI ws ns = .ok xs := by
  rw [splitI] at h
  split at h
  · split at h
    · split at h
      · rename_i h1 _ h3
        injection h with h
        subst h
        obtain ⟨f, e⟩ := cat_nums ws xs h1 h3
        exact (layI_fit _ _ _).2 ⟨f, e.symm⟩
      · cases h
    · cases h
  · cases h
theorem layN_no0 {ws : List I64} {ns : List U64} : ∀ {k : Nat} {x : Int}, layN ws ns k = .no x → (x == 0) = false := by
  intro k
  induction k with
  | zero => intro x h; cases h
  | succ k ih =>
    intro x h
    rw [layN] at h
    cases h1 : layN ws ns k with
    | no y =>
      rw [h1] at h
      injection h with h
      subst h
      exact ih h1
    | ok acc =>
      rw [h1] at h
      simp only at h
      cases h2 : laidI (ws.getD k ⟨0, by omega⟩).1 (ns.getD k ⟨0, by omega⟩).1 with
      | no y =>
        rw [h2] at h
        injection h with h
        subst h
        have := laidI_no h2
        simpa using this
      | ok ys => rw [h2] at h; cases h
theorem layI_no {ws : List I64} {ns : List U64} {x : Int} (h : layI ws ns = .no x) : (x == 0) = false := by
  rw [layI] at h
  split at h
  · split at h
    · exact layN_no0 h
    · injection h with h; subst h; rfl
  · injection h with h; subst h; rfl
theorem splitI_no {ws : List I64} {xs : List U8} {x : Int} (h : splitI ws xs = .no x) : (x == 0) = false := by
  rw [splitI] at h
  split at h
  · split at h
    · split at h
      · cases h
      · injection h with h; subst h; rfl
    · injection h with h; subst h; rfl
  · injection h with h; subst h; rfl
end Go.Proofs.Ytcbijmlkkdpheaa
