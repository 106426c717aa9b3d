/- Plain law of the reference of runs: its ReadTile answers as ours. -/
import Derived.Test.YthihffglkheleaaSc
import Derived.Test.YthihffglkheleaaTm
set_option linter.unusedVariables false
set_option linter.unusedSimpArgs false
namespace Go.Proofs.Ythihffglkheleaa
open Go.RowKit

theorem rdR_cons (m r g u a : U8) (rest : List U8) (k : Nat) (hk : k ≠ 0) : rdR (m :: r :: g :: u :: a :: rest) k =
    if 0 < m.1 ∧ m.1.toNat ≤ k then (rdR rest (k - m.1.toNat)).map fun q => (List.replicate m.1.toNat (r, g, u, a) ++ q.1, q.2) else none := by
  rw [rdR.eq_def, if_neg hk]
theorem rdR_short (b : List U8) (k : Nat) (hk : k ≠ 0) (h : b.length < 5) : rdR b k = none := by
  rw [rdR.eq_def, if_neg hk]
  split
  · simp only [List.length_cons] at h; omega
  · rfl
theorem rdR_zero (b : List U8) : rdR b 0 = some ([], b) := by rw [rdR.eq_def, if_pos rfl]
/-- where its walk stands -/
def RefR (bs : List U8) (cur : List Col) (n p : Nat) : Prop := rdR bs 64 = (rdR (bs.drop p) (64 - n)).map fun q => (cur.take n ++ q.1, q.2)
theorem RefR.short {bs : List U8} {cur : List Col} {n p : Nat} (h : RefR bs cur n p) (hn : n < 64) (hl : bs.length < p + 5) : rdR bs 64 = none := by
  rw [h, rdR_short _ _ (by omega) (by rw [List.length_drop]; omega)]; rfl
theorem RefR.no {bs : List U8} {cur : List Col} {n p : Nat} (h : RefR bs cur n p) (hn : n < 64) {m r g u a : U8} (hb : bs.drop p = m :: r :: g :: u :: a :: bs.drop (p + 5))
    (hc : ¬ (0 < m.1 ∧ m.1.toNat ≤ 64 - n)) : rdR bs 64 = none := by
  rw [h, hb, rdR_cons _ _ _ _ _ _ _ (by omega), if_neg hc]; rfl
theorem RefR.yes {bs : List U8} {cur cur' : List Col} {n p : Nat} (h : RefR bs cur n p) (hn : n < 64) {m r g u a : U8} (hb : bs.drop p = m :: r :: g :: u :: a :: bs.drop (p + 5))
    (hc : 0 < m.1 ∧ m.1.toNat ≤ 64 - n) (hcur : cur'.take (n + m.1.toNat) = cur.take n ++ List.replicate m.1.toNat (r, g, u, a)) : RefR bs cur' (n + m.1.toNat) (p + 5) := by
  unfold RefR
  rw [h, hb, rdR_cons _ _ _ _ _ _ _ (by omega), if_pos hc, hcur, show 64 - (n + m.1.toNat) = 64 - n - m.1.toNat by omega, Option.map_map]
  congr 1
  funext q
  simp [List.append_assoc]
theorem RefR.done {bs : List U8} {cur : List Col} {p : Nat} (h : RefR bs cur 64 p) (hc : cur.length = 64) : rdR bs 64 = some (cur, bs.drop p) := by
  rw [h, Nat.sub_self, rdR_zero]
  simp [List.take_of_length_le (Nat.le_of_eq hc)]
theorem readT_of_none {bs : List U8} (h : rdR bs 64 = none) : readT bs = none := by
  cases hr : readT bs with
  | none => rfl
  | some x =>
    obtain ⟨t, n⟩ := x
    have := rdR_of_rdI _ bs 64 none _ (Nat.le_refl _) (readT_some hr).2.2.2.2
    rw [h] at this
    cases this
/-- it has these bytes -/
theorem readT_of_yes {bs : List U8} {cur : List Col} {p : Nat} (h : rdR bs 64 = some (cur, bs.drop p)) (hp : p ≤ bs.length) (hl : (tileB cur).length = p) (hb : beginsB bs (tileB cur) = true) : readT bs = some (cur, p) := by
  rw [beginsB, decide_eq_true_eq, hl] at hb
  have e : bs = tileB cur ++ bs.drop p := by rw [← hb, List.take_append_drop]
  have h1 := rdR_rdI bs cur (bs.drop p) h e
  rw [readT, h1]
  simp only [Option.map_some, List.length_drop, Option.some.injEq, Prod.mk.injEq, true_and]
  omega
/-- it has not -/
theorem readT_of_no {bs : List U8} {cur : List Col} {p : Nat} (h : rdR bs 64 = some (cur, bs.drop p)) (hp : p ≤ bs.length) (hb : ¬ ((tileB cur).length = p ∧ beginsB bs (tileB cur) = true)) : readT bs = none := by
  cases hr : readT bs with
  | none => rfl
  | some x =>
    obtain ⟨t, n⟩ := x
    obtain ⟨h1, h2, h3, h4, h5⟩ := readT_some hr
    have h6 := rdR_of_rdI _ bs 64 none _ (Nat.le_refl _) h5
    rw [h] at h6
    simp only [Option.some.injEq, Prod.mk.injEq] at h6
    obtain ⟨rfl, h7⟩ := h6
    have h8 := congrArg List.length h7
    rw [List.length_drop, List.length_drop] at h8
    have h9 : p = n := by omega
    subst h9
    exact absurd ⟨h2.symm, by rw [beginsB, decide_eq_true_eq, ← h2]; exact h4⟩ hb
end Go.Proofs.Ythihffglkheleaa
