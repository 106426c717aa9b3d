/- Slices of structs, each of K cells (for every seat). -/
import Derived.Test.YthihffglkheleaaFr
import Derived.Deep.Strs
set_option linter.unusedVariables false
set_option linter.unusedSimpArgs false
namespace Go.Proofs.Ythihffglkheleaa
open Go.RowKit Go.ChangeShapes Go.WideShapes

theorem addr_plain (b off i : Nat) : (⟨b, off, none⟩ : Addr).add i = ⟨b, off + i, none⟩ := by
  unfold Addr.add
  split
  · rename_i h; subst h; rfl
  · rfl
def RdC {α : Type} (K : Nat) (enc : α → List Value) (lo hi : Nat) (w : World) (v : Value) (xs : List α) : Prop :=
  ∃ A c, v = .slice A xs.length c ∧ xs.length ≤ c ∧ c ≤ 9223372036854775807 ∧ (xs = [] ∨ ∃ b off, A = some ⟨b, off, none⟩ ∧ lo ≤ b ∧ b < hi ∧ b < w.heap.size ∧ ∀ i (h : i < xs.length) j, j < K → w.cell? ⟨b, off + i * K + j, none⟩ = (enc xs[i])[j]?)
theorem RdC.new {α : Type} {K : Nat} {enc : α → List Value} {lo hi : Nat} {w w' : World} {v : Value} {xs : List α} (h : RdC K enc lo hi w v xs) (hc : New w w') : RdC K enc lo hi w' v xs := by
  obtain ⟨A, c, e, h1, h2, h3⟩ := h
  refine ⟨A, c, e, h1, h2, ?_⟩
  rcases h3 with h3 | ⟨b, off, hA, hl, hh, hs, hcell⟩
  · exact .inl h3
  · exact .inr ⟨b, off, hA, hl, hh, Nat.lt_of_lt_of_le hs hc.size, fun i hi j hj => (World.cell?_of_block (hc.block b hs)).trans (hcell i hi j hj)⟩
theorem RdC.form {α : Type} {K : Nat} {enc : α → List Value} {lo hi : Nat} {w : World} {v : Value} {xs : List α} (h : RdC K enc lo hi w v xs) : ∃ A c, v = .slice A xs.length c ∧ xs.length ≤ c ∧ c ≤ 9223372036854775807 := by
  obtain ⟨A, c, e, h1, h2, _⟩ := h
  exact ⟨A, c, e, h1, h2⟩
theorem RdC.at_ {α : Type} {K : Nat} {enc : α → List Value} {lo hi : Nat} {w : World} {A : Option Addr} {c : Nat} {xs : List α} (h : RdC K enc lo hi w (.slice A xs.length c) xs) (k : Nat) (hk : k < xs.length) :
    ∃ b off, A = some ⟨b, off, none⟩ ∧ lo ≤ b ∧ b < hi ∧ ∀ j, j < K → w.cell? ⟨b, off + k * K + j, none⟩ = (enc xs[k])[j]? := by
  obtain ⟨A', c', e, h1, h2, h3⟩ := h
  injection e with e1 e2 e3
  subst e1
  rcases h3 with h3 | ⟨b, off, hA, hl, hh, hs, hcell⟩
  · subst h3; simp at hk
  · exact ⟨b, off, hA, hl, hh, fun j hj => hcell k hk j hj⟩
theorem mapM_get {α β : Type} (f : α → Option β) : ∀ (l : List α) (cs : List β), l.mapM f = some cs → cs.length = l.length ∧ ∀ j (h : j < l.length), f l[j] = cs[j]?
  | [], cs, h => by
    simp at h
    subst h
    exact ⟨rfl, fun j h => by simp at h⟩
  | a :: l, cs, h => by
    simp only [List.mapM_cons, Option.bind_eq_bind, Option.bind_eq_some_iff, Option.pure_def, Option.some.injEq] at h
    obtain ⟨b, hb, ds, hd, rfl⟩ := h
    obtain ⟨h1, h2⟩ := mapM_get f l ds hd
    refine ⟨by simp [h1], fun j hj => ?_⟩
    cases j with
    | zero => simpa using hb
    | succ j => simpa using h2 j (by simpa using hj)
theorem cells_get {W : World} {x : Addr} (K : Nat) {cs : List Value} (h : W.cells? 0 x K = some cs) : cs.length = K ∧ ∀ j, j < K → W.cell? (x.add j) = cs[j]? := by
  unfold World.cells? at h
  simp only [Nat.zero_le, if_true] at h
  obtain ⟨h1, h2⟩ := mapM_get _ _ _ h
  rw [List.length_range] at h1
  refine ⟨h1, fun j hj => ?_⟩
  have := h2 j (by rw [List.length_range]; exact hj)
  simpa using this

section
variable {H : Type} {henc : TypeId × Value → H} {P : Program}
theorem rdc_of_trod {α : Type} {K : Nat} (hK : 0 < K) {enc : α → List Value} {t e : TypeId} (ht : P.underlying t = some (.slice e)) (hc : P.cellsOf e = K)
    {W : World} (hel : ∀ (n : Nat) (cs : List Value) (y : DataW H × List MemPlace), DataW.trod henc P W 0 (fun _ => true) true n e cs = some y → ∃ x : α, cs = enc x)
    {base : Nat} {v : Value} {d : DataW H} {p : List MemPlace} (hv : Value.okWide P W .any base t v) (h : DataW.Trod henc P W 0 (fun _ => true) true t v d p) : ∃ xs : List α, RdC K enc 0 W.heap.size W v xs := by
  obtain ⟨a0, len, cap, rfl⟩ := okWide_slice ht hv
  obtain ⟨fuel, hf⟩ := h
  rcases Deep.open_slice ht hf with ⟨hcs, _⟩ | ⟨a, len', cap', m, n, D, Pl, hcs, _, hl, hm, hmm, _, hcell⟩
  · simp [Value.cells] at hcs
    obtain ⟨rfl, rfl, rfl⟩ := hcs
    exact ⟨[], none, 0, rfl, by simp, by simp, .inl rfl⟩
  · simp [Value.cells] at hcs
    obtain ⟨rfl, rfl, rfl⟩ := hcs
    simp only [if_true] at hmm
    subst hmm
    have hx : ∀ i : Fin len, ∃ x : α, ∀ j, j < K → W.cell? ((a.add (i.1 * K)).add j) = (enc x)[j]? := fun i => by
      obtain ⟨cs', h1, h2⟩ := hcell i.1 (by omega)
      rw [hc] at h1
      obtain ⟨x, rfl⟩ := hel _ _ _ h2
      exact ⟨x, (cells_get K h1).2⟩
    have hlen : ∀ i : Fin len, 0 < (enc (Classical.choose (hx i))).length ∨ True := fun _ => .inr trivial
    have hfirst : 0 < len → ∃ u, W.cell? a = some u := fun h0 => by
      obtain ⟨cs', h1, h2⟩ := hcell 0 (by omega)
      rw [hc] at h1
      obtain ⟨hl1, hl2⟩ := cells_get K h1
      have := hl2 0 hK
      rw [List.getElem?_eq_getElem (by omega)] at this
      exact ⟨_, by simpa [Addr.add] using this⟩
    let xs : List α := List.ofFn fun i => Classical.choose (hx i)
    have hxl : xs.length = len := List.length_ofFn
    refine ⟨xs, some a, _, by rw [hxl], by rw [hxl]; exact hl, by simpa [maxLen] using hm, ?_⟩
    rcases Nat.eq_zero_or_pos len with h0 | hpos
    · exact .inl (List.eq_nil_of_length_eq_zero (by omega))
    · obtain ⟨u, hu⟩ := hfirst hpos
      obtain ⟨b, off, rfl, hb⟩ := spot_none hu
      refine .inr ⟨b, off, rfl, Nat.zero_le _, hb, hb, fun i hi j hj => ?_⟩
      have h1 := Classical.choose_spec (hx ⟨i, by omega⟩) j hj
      have h2 : xs[i] = Classical.choose (hx ⟨i, by omega⟩) := by simp [xs]
      rw [h2, ← h1, addr_plain, addr_plain]
end
end Go.Proofs.Ythihffglkheleaa
