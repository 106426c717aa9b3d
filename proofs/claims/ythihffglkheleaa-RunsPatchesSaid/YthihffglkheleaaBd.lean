/- Stores into a row of one's own. -/
import Derived.Test.YthihffglkheleaaBb
set_option linter.unusedVariables false
set_option linter.unusedSimpArgs false
namespace Go.Proofs.Ythihffglkheleaa
open Go.RowKit

theorem Own.store {α : Type} {enc : α → Value} {e : TypeId} {lo : Nat} {w : World} {A : Option Addr} {c n : Nat} {xs : List α} (h : Own enc e lo w (.slice A n c) xs) (hn : n = xs.length) (i : Nat) (hi : i < xs.length) :
    ∃ g, A = some ⟨g, 0, none⟩ ∧ lo ≤ g ∧ g < w.heap.size ∧ w.cell? ⟨g, i, none⟩ = some (enc xs[i]) ∧ w.frozen? ⟨g, i, none⟩ = false ∧ ∀ y : α, Own enc e lo (w.setCell ⟨g, i, none⟩ (enc y)) (.slice A n c) (xs.set i y) := by
  subst hn
  obtain ⟨h1, h2⟩ := id h
  rcases h2 with ⟨_, h2⟩ | ⟨g, cap, cur, hv, hb, hg, hc, hm, hs, ht⟩
  · omega
  · injection hv with e1 _ e3
    subst e1 e3
    have hlt := (Array.getElem?_eq_some_iff.1 hg).1
    have hsz : i < cur.size := by omega
    have hci : cur[i]? = some (enc xs[i]) := by
      have h5 : (cur.toList.take (xs.length * 1))[i]? = (xs.map enc)[i]? := by rw [ht]
      rw [List.getElem?_take, if_pos (by omega)] at h5
      simpa [hi] using h5
    refine ⟨g, rfl, hb, hlt, by simp [World.cell?, hg, hci], by simp [World.frozen?, hg], fun y => ?_⟩
    refine ⟨by simp, .inr ⟨g, c, cur.set i (enc y) hsz, by simp, hb, ?_, by simpa using hc, hm, by simpa using hs, ?_⟩⟩
    · rw [Array.getElem?_eq_getElem hlt] at hg
      injection hg with hg
      simp only [World.setCell, Array.getElem?_modify, if_true]
      rw [Array.getElem?_eq_getElem hlt]
      simp [hg, Array.setIfInBounds, hsz]
    · apply List.ext_getElem?
      intro j
      rw [List.getElem?_take]
      have h5 : (cur.toList.take (xs.length * 1))[j]? = (xs.map enc)[j]? := by rw [ht]
      rw [List.getElem?_take] at h5
      simp only [List.length_set]
      by_cases hj : j < xs.length * 1
      · rw [if_pos hj] at h5 ⊢
        by_cases hij : i = j
        · subst hij
          simp [hi, hsz]
        · have h6 : cur[j]? = (xs.map enc)[j]? := by simpa using h5
          simp [List.getElem?_set, hij, Array.getElem?_set, h6]
      · rw [if_neg hj]
        simp
        omega
end Go.Proofs.Ythihffglkheleaa
