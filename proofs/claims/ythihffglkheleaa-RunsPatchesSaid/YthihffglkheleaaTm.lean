/- Contract of the reader of runs: tile. -/
import Derived.Test.YthihffglkheleaaTl
set_option linter.unusedVariables false
set_option linter.unusedSimpArgs false
namespace Go.Proofs.Ythihffglkheleaa
open Go.RowKit

theorem rdI_cons (m r g u a : U8) (rest : List U8) (k : Nat) (p : Option Col) (hk : k ≠ 0) : rdI (m :: r :: g :: u :: a :: rest) k p =
    if 0 < m.1 ∧ m.1.toNat ≤ k ∧ p ≠ some (r, g, u, a) then (rdI rest (k - m.1.toNat) (some (r, g, u, a))).map fun q => (List.replicate m.1.toNat (r, g, u, a) ++ q.1, q.2) else none := by
  rw [rdI.eq_def, if_neg hk]
theorem rdI_short (b : List U8) (k : Nat) (p : Option Col) (hk : k ≠ 0) (h : b.length < 5) : rdI b k p = none := by
  rw [rdI.eq_def, if_neg hk]
  split
  · simp only [List.length_cons] at h; omega
  · rfl
theorem drop5 (bs : List U8) (p : Nat) (h : p + 5 ≤ bs.length) : ∃ m r g u a : U8, bs.drop p = m :: r :: g :: u :: a :: bs.drop (p + 5) ∧ (bs.drop p).take 5 = [m, r, g, u, a] := by
  refine ⟨bs[p], bs[p + 1], bs[p + 2], bs[p + 3], bs[p + 4], ?_⟩
  have e : bs.drop p = bs[p] :: bs[p + 1] :: bs[p + 2] :: bs[p + 3] :: bs[p + 4] :: bs.drop (p + 5) := by
    rw [List.drop_eq_getElem_cons (by omega), List.drop_eq_getElem_cons (i := p + 1) (by omega), List.drop_eq_getElem_cons (i := p + 2) (by omega), List.drop_eq_getElem_cons (i := p + 3) (by omega), List.drop_eq_getElem_cons (i := p + 4) (by omega)]
  exact ⟨e, by rw [e]; rfl⟩

section
variable {P : Program} {ops : Array Oper} {w : World} {Q : Act → Prop} {a : Act} {o : Oper} {rest : List Oper}
theorem wpStill_do (hw : Region.wanted o (yielded ops a.tmps) = true) (h : ∀ K : Act → Prop, (∀ a, wpStill P ops w Q rest a → K a) → o.still P a w K) : wpStill P ops w Q (o :: rest) a :=
  wpStill_step (fun K hK => by rw [if_pos hw]; exact h K hK)
theorem wpStill_skip (hw : Region.wanted o (yielded ops a.tmps) = false) (h : wpStill P ops w Q rest (a.put o.dst undef)) : wpStill P ops w Q (o :: rest) a :=
  wpStill_step (fun K hK => by rw [if_neg (by rw [hw]; simp)]; exact hK _ h)
end
/-- What 'tile' comes to. -/
def TileR (Z : Nat × Nat) (g : Nat) (wd hg : Int) (T : Value) (bs : List U8) (p : Nat) (w : World) (e : Ending) (w' : World) : Prop :=
  Chg (fun k => k = g) w w' ∧ ∃ p2, IsRd Z w' g wd hg T bs p2 ∧ ((∃ t, rdI (bs.drop p) 64 none = some (t, bs.drop p2) ∧ p2 = p + (tileB t).length ∧ t.length = 64 ∧ e = .returned (.agg (tcA t))) ∨ (rdI (bs.drop p) 64 none = none ∧ e = boomW))
/-- where its walk stands -/
def TileAt (bs : List U8) (p : Nat) (cur : List Col) (n p' : Nat) : Prop :=
  rdI (bs.drop p) 64 none = (rdI (bs.drop p') (64 - n) (cur.take n).getLast?).map fun q => (cur.take n ++ q.1, q.2)
theorem TileAt.short {bs : List U8} {p : Nat} {cur : List Col} {n p' : Nat} (h : TileAt bs p cur n p') (hn : n < 64) (hl : bs.length < p' + 5) : rdI (bs.drop p) 64 none = none := by
  rw [h, rdI_short _ _ _ (by omega) (by rw [List.length_drop]; omega)]; rfl
theorem getLast_take (cur : List Col) (n : Nat) (hn : n ≤ cur.length) (h0 : 0 < n) : (cur.take n).getLast? = some (cur[n - 1]'(by omega)) := by
  obtain ⟨j, rfl⟩ : ∃ j, n = j + 1 := ⟨n - 1, by omega⟩
  rw [take_snoc cur j (by omega), List.getLast?_append]
  simp
theorem TileAt.no {bs : List U8} {p : Nat} {cur : List Col} {n p' : Nat} (h : TileAt bs p cur n p') (hn : n < 64) {m r g u a : U8} (hb : bs.drop p' = m :: r :: g :: u :: a :: bs.drop (p' + 5))
    (hc : ¬ (0 < m.1 ∧ m.1.toNat ≤ 64 - n ∧ (cur.take n).getLast? ≠ some (r, g, u, a))) : rdI (bs.drop p) 64 none = none := by
  rw [h, hb, rdI_cons _ _ _ _ _ _ _ _ (by omega), if_neg hc]; rfl
theorem TileAt.yes {bs : List U8} {p : Nat} {cur cur' : List Col} {n p' : Nat} (h : TileAt bs p cur n p') (hn : n < 64) {m r g u a : U8} (hb : bs.drop p' = m :: r :: g :: u :: a :: bs.drop (p' + 5))
    (hc : 0 < m.1 ∧ m.1.toNat ≤ 64 - n ∧ (cur.take n).getLast? ≠ some (r, g, u, a)) (hcur : cur'.take (n + m.1.toNat) = cur.take n ++ List.replicate m.1.toNat (r, g, u, a)) : TileAt bs p cur' (n + m.1.toNat) (p' + 5) := by
  unfold TileAt
  rw [h, hb, rdI_cons _ _ _ _ _ _ _ _ (by omega), if_pos hc, hcur, show 64 - (n + m.1.toNat) = 64 - n - m.1.toNat by omega]
  obtain ⟨j, hj⟩ : ∃ j, m.1.toNat = j + 1 := ⟨m.1.toNat - 1, by omega⟩
  have hl : (cur.take n ++ List.replicate m.1.toNat (r, g, u, a)).getLast? = some (r, g, u, a) := by
    rw [hj, List.replicate_succ', ← List.append_assoc, List.getLast?_append]
    simp
  rw [hl, Option.map_map]
  congr 1
  funext q
  simp [List.append_assoc]
theorem TileAt.done {bs : List U8} {p : Nat} {cur : List Col} {p' : Nat} (h : TileAt bs p cur 64 p') (hc : cur.length = 64) (hp : p ≤ bs.length) (hp' : p' ≤ bs.length) : rdI (bs.drop p) 64 none = some (cur, bs.drop p') ∧ p' = p + (tileB cur).length := by
  have h1 : rdI (bs.drop p) 64 none = some (cur, bs.drop p') := by
    rw [h, Nat.sub_self, rdI_zero]
    simp [List.take_of_length_le (Nat.le_of_eq hc)]
  refine ⟨h1, ?_⟩
  have h2 := (rdI_back h1).2
  have h3 : (bs.drop p).length = (tileB cur ++ bs.drop p').length := by rw [← h2]
  rw [List.length_append, List.length_drop, List.length_drop] at h3
  omega
/-- a colour into a tile -/
theorem BoxA.setCol {w : World} {b : Nat} {ty : TypeId} {t : List Col} (h : BoxA w b ty (tcA t)) (i : Nat) (hi : i < t.length) (c : Col) :
    BoxA ((((w.setCell ⟨b, i * 4, none⟩ (e8 c.1)).setCell ⟨b, i * 4 + 1, none⟩ (e8 c.2.1)).setCell ⟨b, i * 4 + 2, none⟩ (e8 c.2.2.1)).setCell ⟨b, i * 4 + 3, none⟩ (e8 c.2.2.2)) b ty (tcA (t.set i c)) := by
  have h4 := (((h.set (i * 4) (e8 c.1)).set (i * 4 + 1) (e8 c.2.1)).set (i * 4 + 2) (e8 c.2.2.1)).set (i * 4 + 3) (e8 c.2.2.2)
  have e : ((((tcA t).setIfInBounds (i * 4) (e8 c.1)).setIfInBounds (i * 4 + 1) (e8 c.2.1)).setIfInBounds (i * 4 + 2) (e8 c.2.2.1)).setIfInBounds (i * 4 + 3) (e8 c.2.2.2) = tcA (t.set i c) := by
    apply Array.ext_getElem?
    intro j
    have hsz := tcA_size t
    have hsz2 := tcA_size (t.set i c)
    rw [List.length_set] at hsz2
    by_cases hj : j < 4 * t.length
    · obtain ⟨q, r, hr, rfl⟩ : ∃ q r, r < 4 ∧ j = q * 4 + r := ⟨j / 4, j % 4, by omega, by omega⟩
      have hq : q < t.length := by omega
      have g1 := tcl_get (t.set i c) q (by simpa using hq) r hr
      have g2 := tcl_get t q hq r hr
      have t1 : ∀ s : List Col, (tcA s)[q * 4 + r]? = (tcl s)[q * 4 + r]? := fun s => by simp [tcA]
      rw [t1, g1, List.getElem_set]
      simp only [Array.getElem?_setIfInBounds, Array.size_setIfInBounds, t1, g2, hsz]
      by_cases hqi : i = q
      · subst hqi
        rw [if_pos rfl]
        have : r = 0 ∨ r = 1 ∨ r = 2 ∨ r = 3 := by omega
        rcases this with rfl | rfl | rfl | rfl <;> simp [cc] <;> omega
      · rw [if_neg hqi]
        rw [if_neg (by omega), if_neg (by omega), if_neg (by omega), if_neg (by omega)]
    · rw [Array.getElem?_eq_none (by simp [hsz]; omega), Array.getElem?_eq_none (by omega)]
  rw [e] at h4
  exact h4
theorem chg_set4 (M : Nat → Prop) (w : World) (b i : Nat) (v0 v1 v2 v3 : Value) (hb : M b ∨ w.heap.size ≤ b) :
    Chg M w ((((w.setCell ⟨b, i, none⟩ v0).setCell ⟨b, i + 1, none⟩ v1).setCell ⟨b, i + 2, none⟩ v2).setCell ⟨b, i + 3, none⟩ v3) :=
  ((((Chg.refl M w).setCell (p := ⟨b, i, none⟩) hb _).setCell (p := ⟨b, i + 1, none⟩) hb _).setCell (p := ⟨b, i + 2, none⟩) hb _).setCell (p := ⟨b, i + 3, none⟩) hb _
end Go.Proofs.Ythihffglkheleaa
