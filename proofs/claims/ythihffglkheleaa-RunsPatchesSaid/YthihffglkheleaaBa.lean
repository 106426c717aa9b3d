/- Words of the walks: what a world keeps, and how slices read. -/
import Derived.Test.YthihffglkheleaaRows
import Derived.WalkKit
import Derived.WalkLawsBesides
import Derived.WalkSpells
import Derived.Lib.Hide
import Derived.Laws.EntriesVeiled
set_option linter.unusedVariables false
set_option linter.unusedSimpArgs false
namespace Go.Proofs.Ythihffglkheleaa
open Go.RowKit

/-- At most the blocks of M have changed. -/
structure Chg (M : Nat → Prop) (w w' : World) : Prop where
  os : w'.os = w.os
  tape : w'.tape = w.tape
  output : w'.output = w.output
  size : w.heap.size ≤ w'.heap.size
  block : ∀ k, k < w.heap.size → ¬ M k → w'.heap[k]? = w.heap[k]?

theorem Chg.refl (M : Nat → Prop) (w : World) : Chg M w w := ⟨rfl, rfl, rfl, Nat.le_refl _, fun _ _ _ => rfl⟩
theorem Chg.trans {M : Nat → Prop} {a b c : World} (h : Chg M a b) (k : Chg M b c) : Chg M a c :=
  ⟨k.os.trans h.os, k.tape.trans h.tape, k.output.trans h.output, Nat.le_trans h.size k.size,
    fun i hi hm => (k.block i (Nat.lt_of_lt_of_le hi h.size) hm).trans (h.block i hi hm)⟩
theorem Chg.mono {M M' : Nat → Prop} {w w' : World} (h : Chg M w w') (hm : ∀ k, k < w.heap.size → M k → M' k) : Chg M' w w' :=
  ⟨h.os, h.tape, h.output, h.size, fun k hk hn => h.block k hk (fun e => hn (hm k hk e))⟩
theorem Chg.drew {M : Nat → Prop} {a w : World} (h : Chg M a w) : Chg M a w.drew := ⟨h.os, h.tape, h.output, h.size, h.block⟩
theorem Chg.drewN {M : Nat → Prop} {a w : World} (h : Chg M a w) (n : Nat) : Chg M a (w.drewN n) := ⟨h.os, h.tape, h.output, h.size, h.block⟩
theorem Chg.alloc {M : Nat → Prop} {a w : World} (h : Chg M a w) (o : Obj) : Chg M a (w.alloc o) :=
  ⟨h.os, h.tape, h.output, by have := h.size; simp; omega, fun k hk hm => (Below.heap_alloc w o k (Nat.lt_of_lt_of_le hk h.size)).trans (h.block k hk hm)⟩
theorem Chg.setCell {M : Nat → Prop} {a w : World} (h : Chg M a w) {p : Addr} (hp : M p.block ∨ a.heap.size ≤ p.block) (u : Value) : Chg M a (w.setCell p u) :=
  ⟨h.os, h.tape, h.output, by have := h.size; simpa [World.setCell] using this, fun k hk hm => by
    rw [Below.heap_setCell w p u k (by rintro rfl; rcases hp with hp | hp; exact hm hp; omega)]; exact h.block k hk hm⟩
theorem Chg.below {M : Nat → Prop} {w w' : World} (h : Chg M w w') {B : Nat} (hB : B ≤ w.heap.size) (hm : ∀ k, k < B → ¬ M k) : Below B w w' :=
  ⟨h.os, h.tape, h.output, h.size, fun k hk => h.block k (by omega) (hm k hk)⟩
theorem chg_of_below {B : Nat} {M : Nat → Prop} {w w' : World} (h : Below B w w') (hm : ∀ k, k < w.heap.size → B ≤ k → M k) : Chg M w w' :=
  ⟨h.os, h.tape, h.output, h.size, fun k hk hn => h.block k (by rcases Nat.lt_or_ge k B with h1 | h1; exact h1; exact absurd (hm k hk h1) hn)⟩
theorem Chg.grown {M : Nat → Prop} {a w w' : World} {row : Option Nat} (h : Chg M a w) (hg : w.grownBy w' row) (hr : ∀ k, row = some k → M k ∨ a.heap.size ≤ k) : Chg M a w' :=
  ⟨hg.os.trans h.os, hg.tape.trans h.tape, hg.output.trans h.output, Nat.le_trans h.size hg.size, fun k hk hm =>
    (hg.block k (Nat.lt_of_lt_of_le hk h.size) (fun e => by rcases hr k e.symm with h1 | h1; exact hm h1; omega)).trans (h.block k hk hm)⟩
/-- Nothing that was there has changed. -/
abbrev New (w w' : World) : Prop := Below w.heap.size w w'
theorem New.trans {a b c : World} (h : New a b) (k : New b c) : New a c := Below.trans h (k.mono h.size)
theorem New.chg {w w' : World} (h : New w w') (M : Nat → Prop) : Chg M w w' := ⟨h.os, h.tape, h.output, h.size, fun k hk _ => h.block k hk⟩
theorem Chg.new {M : Nat → Prop} {a b c : World} (h : Chg M a b) (k : New b c) : Chg M a c := h.trans (k.chg M)

/-- A byte, a uint64, an int. -/
abbrev U8 := { x : Int // 0 ≤ x ∧ x ≤ 255 }
abbrev U64 := { x : Int // 0 ≤ x ∧ x ≤ 18446744073709551615 }
abbrev I64 := { x : Int // -9223372036854775808 ≤ x ∧ x ≤ 9223372036854775807 }
@[reducible] def e8 (x : U8) : Value := .int .u8 x.1
@[reducible] def e64 (x : U64) : Value := .int .u64 x.1
@[reducible] def ei (x : I64) : Value := .int .i64 x.1

/-- The slice v reads as xs; if it has elements they lie in a block from lo on and below hi. -/
def Rd {α : Type} (enc : α → Value) (lo hi : Nat) (w : World) (v : Value) (xs : List α) : Prop :=
  ∃ A c, v = .slice A xs.length c ∧ xs.length ≤ c ∧ c ≤ 9223372036854775807 ∧ (xs = [] ∨ ∃ b off, A = some ⟨b, off, none⟩ ∧ lo ≤ b ∧ b < hi ∧ b < w.heap.size ∧ ∀ i (h : i < xs.length), w.cell? ⟨b, off + i, none⟩ = some (enc xs[i]))

section
variable {α : Type} {enc : α → Value} {lo hi : Nat} {w w' : World} {v : Value} {xs : List α}
theorem Rd.keep (h : Rd enc lo hi w v xs) (hk : ∀ k, lo ≤ k → k < hi → k < w.heap.size → w'.heap[k]? = w.heap[k]?) (hs : w.heap.size ≤ w'.heap.size) : Rd enc lo hi w' v xs := by
  obtain ⟨A, c, rfl, h1, h2, h3⟩ := h
  refine ⟨A, c, rfl, h1, h2, ?_⟩
  rcases h3 with h3 | ⟨b, off, rfl, hl, hh, hs', hc⟩
  · exact .inl h3
  · exact .inr ⟨b, off, rfl, hl, hh, by omega, fun i hi => (World.cell?_of_block (hk b hl hh hs')).trans (hc i hi)⟩
theorem Rd.chg {M : Nat → Prop} (h : Rd enc lo hi w v xs) (hc : Chg M w w') (hm : ∀ k, lo ≤ k → k < hi → ¬ M k) : Rd enc lo hi w' v xs :=
  h.keep (fun k h1 h2 h3 => hc.block k h3 (hm k h1 h2)) hc.size
theorem Rd.new (h : Rd enc lo hi w v xs) (hc : New w w') : Rd enc lo hi w' v xs :=
  h.keep (fun k _ _ h3 => hc.block k h3) hc.size
theorem Rd.mono (h : Rd enc lo hi w v xs) {lo' hi' : Nat} (hl : lo' ≤ lo) (hh : hi ≤ hi') : Rd enc lo' hi' w v xs := by
  obtain ⟨A, c, rfl, h1, h2, h3⟩ := h
  refine ⟨A, c, rfl, h1, h2, ?_⟩
  rcases h3 with h3 | ⟨b, off, rfl, hl', hh', hs', hc⟩
  · exact .inl h3
  · exact .inr ⟨b, off, rfl, by omega, by omega, hs', hc⟩
theorem Rd.at_ (h : Rd enc lo hi w v xs) (i : Nat) (hi' : i < xs.length) : ∃ b off c, v = .slice (some ⟨b, off, none⟩) xs.length c ∧ lo ≤ b ∧ b < hi ∧ b < w.heap.size ∧ xs.length ≤ c ∧ c ≤ 9223372036854775807 ∧ ∀ i (h : i < xs.length), w.cell? ⟨b, off + i, none⟩ = some (enc xs[i]) := by
  obtain ⟨A, c, rfl, h1, h2, h3⟩ := h
  rcases h3 with h3 | ⟨b, off, rfl, hl', hh', hs', hc⟩
  · subst h3; simp at hi'
  · exact ⟨b, off, c, rfl, hl', hh', hs', h1, h2, hc⟩
theorem Rd.nil (enc : α → Value) (lo hi : Nat) (w : World) : Rd enc lo hi w (.slice none 0 0) [] := ⟨none, 0, rfl, by simp, by simp, .inl rfl⟩
theorem Rd.nil' (enc : α → Value) (lo hi : Nat) (w : World) (A : Option Addr) (c : Nat) (hc : c ≤ 9223372036854775807) : Rd enc lo hi w (.slice A 0 c) [] := ⟨A, c, rfl, by simp, hc, .inl rfl⟩
theorem Rd.len (h : Rd enc lo hi w v xs) : xs.length ≤ 9223372036854775807 := by
  obtain ⟨A, c, rfl, h1, h2, h3⟩ := h; omega
theorem Rd.form (h : Rd enc lo hi w v xs) : ∃ A c, v = .slice A xs.length c ∧ xs.length ≤ c ∧ c ≤ 9223372036854775807 := by
  obtain ⟨A, c, rfl, h1, h2, h3⟩ := h; exact ⟨A, c, rfl, h1, h2⟩
/-- a row of the call's own, read -/
theorem Rd.of_own {base n : Nat} {e : TypeId} {ys : List Value} (h : w.ownsRow base e 1 v n ys) (hx : ys = xs.map enc) (hn : n = xs.length) (hl : lo ≤ base) (hh : w.heap.size ≤ hi) : Rd enc lo hi w v xs := by
  subst hn
  obtain ⟨h1, h2⟩ := id h
  rcases h2 with ⟨rfl, h2⟩ | ⟨g, cap, cur, rfl, hb, hg, hc, hm, hs, ht⟩
  · have hx0 : xs = [] := List.eq_nil_of_length_eq_zero h2
    subst hx0
    exact Rd.nil _ _ _ _
  · have hlt := (Array.getElem?_eq_some_iff.1 hg).1
    refine ⟨_, cap, rfl, hc, by simpa [maxLen] using hm, .inr ⟨g, 0, rfl, by omega, by omega, hlt, fun i hi => ?_⟩⟩
    have := h.cells (g := g) rfl i (enc xs[i]) (by subst hx; simp [hi])
    rw [← this]
    congr 1
    unfold Addr.add
    split <;> simp_all
end
/-- A variable in memory. -/
def Box (w : World) (b : Nat) (t : TypeId) (v : Value) : Prop := w.heap[b]? = some (.cells #[v] t (0, 0))
theorem Box.new (w : World) (t : TypeId) (v : Value) : Box (w.alloc (.cells #[v] t)) w.heap.size t v := heap_alloc_new w _
theorem Box.lt {w : World} {b : Nat} {t : TypeId} {v : Value} (h : Box w b t v) : b < w.heap.size := (Array.getElem?_eq_some_iff.1 h).1
theorem Box.cell {w : World} {b : Nat} {t : TypeId} {v : Value} (h : Box w b t v) : w.cell? ⟨b, 0, none⟩ = some v := by simp [World.cell?, show w.heap[b]? = _ from h]
theorem Box.free {w : World} {b : Nat} {t : TypeId} {v : Value} (h : Box w b t v) : w.frozen? ⟨b, 0, none⟩ = false := by simp [World.frozen?, show w.heap[b]? = _ from h]
theorem Box.chg {w w' : World} {b : Nat} {t : TypeId} {v : Value} {M : Nat → Prop} (h : Box w b t v) (hc : Chg M w w') (hm : ¬ M b) : Box w' b t v := (hc.block b h.lt hm).trans h
theorem Box.later {w w' : World} {b : Nat} {t : TypeId} {v : Value} (h : Box w b t v) (hc : New w w') : Box w' b t v := (hc.block b h.lt).trans h
theorem Box.alloc {w : World} {b : Nat} {t : TypeId} {v : Value} (h : Box w b t v) (o : Obj) : Box (w.alloc o) b t v := h.later ((Below.refl _ _).alloc (Nat.le_refl _) _)
theorem Box.set {w : World} {b : Nat} {t : TypeId} {v : Value} (h : Box w b t v) (u : Value) : Box (w.setCell ⟨b, 0, none⟩ u) b t u := by
  have hl := h.lt
  unfold Box at h ⊢
  rw [Array.getElem?_eq_getElem hl] at h
  simp only [World.setCell, Array.getElem?_modify, if_true]
  rw [Array.getElem?_eq_getElem hl]
  injection h with h
  simp [h]
theorem new_alloc (w : World) (o : Obj) : New w (w.alloc o) := (Below.refl _ w).alloc (Nat.le_refl _) _
theorem new_refl (w : World) : New w w := Below.refl _ w
theorem New.alloc {w w' : World} (h : New w w') (o : Obj) : New w (w'.alloc o) := Below.alloc h h.size o
end Go.Proofs.Ythihffglkheleaa
