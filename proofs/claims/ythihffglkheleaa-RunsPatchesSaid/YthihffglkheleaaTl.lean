/- Contracts of the reader of runs: need, next. -/
import Derived.Test.YthihffglkheleaaTk
import Derived.Recover
import Derived.Defers
import Derived.StillTailTactics
set_option linter.unusedVariables false
set_option linter.unusedSimpArgs false
namespace Go.Proofs.Ythihffglkheleaa
open Go.RowKit

abbrev boomW : Ending := .panicked [{ v := .iface 90 (.agg #[]), recovered := false }]
theorem rn_need_yes (w : World) : Calls Try.prog 45 #[.bool true] w fun e w' => e = .returned (.tuple #[]) ∧ w = w' := by
  go_enter Try.func45, Try.ntmps45
  go_wp2
  go_end0
  exact ⟨rfl, rfl⟩
theorem rn_need_no (w : World) : Calls Try.prog 45 #[.bool false] w fun e w' => e = boomW ∧ w = w' := by
  go_enter Try.func45, Try.ntmps45
  go_wp2
  exact ⟨rfl, rfl, rfl⟩

section
variable {α : Type} {enc : α → Value} {P : Program} {t e : TypeId}
theorem slice_lhm (ht : P.underlying t = some (.slice e)) (hinfo : (P.info? e).map (·.size) = some 1) {lo hi : Nat} {w : World} {A : Option Addr} {c : Nat} {xs : List α} (h : Rd enc lo hi w (.slice A xs.length c) xs) (kl kh km : IntKind) (l hh : Int) (h0 : 0 ≤ l) (h1 : l ≤ hh) (h2 : hh ≤ xs.length) :
    ∃ A', (∀ W, (Instr.slice t (.slice A xs.length c) (some (.int kl l)) (some (.int kh hh)) (some (.int km hh))).run P W = .ok (.slice A' (hh.toNat - l.toNat) (hh.toNat - l.toNat)) W) ∧ Rd enc lo hi w (.slice A' (hh.toNat - l.toNat) (hh.toNat - l.toNat)) ((xs.drop l.toNat).take (hh.toNat - l.toNat)) := by
  have hc : xs.length ≤ c := by
    obtain ⟨A', c', e', g1, g2, g3⟩ := h
    injection e' with e1 e2 e3
    omega
  refine ⟨_, fun W => ?_, slice_run ht hinfo h l.toNat hh.toNat hh.toNat (by omega) (by omega) (Nat.le_refl _) (by omega)⟩
  have hs := size_run hinfo W
  have b1 : (hh.toNat : Int) = hh := by omega
  simp [Instr.slice, run_underlying ht, Instr.sliceBounds, run_sliceBound, h0, h1, b1, (by omega : 0 ≤ hh), (by omega : hh ≤ (c : Int)), hs]
end

/-- A reader at block g: its bytes lie in the blocks of Z. -/
def IsRd (Z : Nat × Nat) (w : World) (g : Nat) (wd hg : Int) (T : Value) (bs : List U8) (p : Nat) : Prop :=
  Z.2 ≤ g ∧ p ≤ bs.length ∧ ∃ A c, BoxA w g 68 #[.int .i64 wd, .int .i64 hg, T, .slice A bs.length c, .int .i64 p] ∧ Rd e8 Z.1 Z.2 w (.slice A bs.length c) bs
section
variable {Z : Nat × Nat} {w w' : World} {g : Nat} {wd hg : Int} {T : Value} {bs : List U8} {p : Nat}
theorem IsRd.chg {M : Nat → Prop} (h : IsRd Z w g wd hg T bs p) (hc : Chg M w w') (hm : ∀ k, (Z.1 ≤ k ∧ k < Z.2) ∨ k = g → ¬ M k) : IsRd Z w' g wd hg T bs p := by
  obtain ⟨h1, hp, A, c, h2, h3⟩ := h
  exact ⟨h1, hp, A, c, h2.chg hc (hm g (.inr rfl)), h3.chg hc (fun k h4 h5 => hm k (.inl ⟨h4, h5⟩))⟩
theorem IsRd.new (h : IsRd Z w g wd hg T bs p) (hc : New w w') : IsRd Z w' g wd hg T bs p := h.chg (hc.chg (fun _ => False)) (fun _ _ h => h)
theorem IsRd.lt (h : IsRd Z w g wd hg T bs p) : g < w.heap.size := by
  obtain ⟨_, _, A, c, h2, _⟩ := h
  exact h2.lt
end

/-- What 'next' comes to. -/
def NextR (Z : Nat × Nat) (g : Nat) (wd hg : Int) (T : Value) (bs : List U8) (p n : Nat) (w : World) (e : Ending) (w' : World) : Prop :=
  Chg (fun k => k = g) w w' ∧ ((p + n ≤ bs.length ∧ (∃ A, e = .returned (.slice A n n) ∧ Rd e8 Z.1 Z.2 w' (.slice A n n) ((bs.drop p).take n)) ∧ IsRd Z w' g wd hg T bs (p + n)) ∨ (bs.length < p + n ∧ e = boomW ∧ IsRd Z w' g wd hg T bs p))

set_option maxRecDepth 100000 in
set_option maxHeartbeats 4000000 in
theorem rn_next (Z : Nat × Nat) (g : Nat) (wd hg : Int) (T : Value) (bs : List U8) (p n : Nat) (w : World) (hr : IsRd Z w g wd hg T bs p) (hl : bs.length ≤ 1099511627776) (hn : n ≤ 1000) :
    Calls Try.prog 44 #[.pointer (some ⟨g, 0, none⟩), .int .i64 n] w (NextR Z g wd hg T bs p n w) := by
  obtain ⟨hz, hp, A, c, hb, hR⟩ := hr
  have hdr : New w w.drew := Below.drew (new_refl _)
  have k3 := (hb.later hdr).cell 3
  have k4 := (hb.later hdr).cell 4
  simp only [List.getElem?_toArray, List.getElem?_cons_zero, List.getElem?_cons_succ] at k3 k4
  have f4 := (hb.later hdr).free 4
  have hw1 : IntKind.i64.wrap ((bs.length : Int) - (p : Int)) = (bs.length : Int) - (p : Int) := by rw [IntKind.wrap_i64]; omega
  have hw2 : IntKind.i64.wrap ((p : Int) + (n : Int)) = (p : Int) + (n : Int) := by rw [IntKind.wrap_i64]; omega
  have HB := Lib.hid hb
  have HR := Lib.hid hR
  by_cases hlt : p + n ≤ bs.length
  · have hd : decide ((n : Int) ≤ (bs.length : Int) - (p : Int)) = true := by simp; omega
    obtain ⟨A', hs, hR'⟩ := slice_lhm Try.underlying23 size_u8 hR .i64 .i64 .i64 (p : Int) ((p : Int) + n) (by omega) (by omega) (by omega)
    have hz1 : ((p : Int) + n).toNat - (p : Int).toNat = n := by omega
    have hz2 : ((p : Int) + n).toNat = p + n := by omega
    have hz3 : (p : Int).toNat = p := by omega
    rw [hz1] at hs hR'
    rw [hz3] at hR'
    have HR' := Lib.hid hR'
    have HLT := Lib.hid hlt
    have h2 : New w w.drew.drew := Below.drew hdr
    have k3' := (hb.later h2).cell 3
    have k4' := (hb.later h2).cell 4
    simp only [List.getElem?_toArray, List.getElem?_cons_zero, List.getElem?_cons_succ] at k3' k4'
    have f4' := (hb.later h2).free 4
    clear hb hR hdr hR' hz1 hz2 hz3
    go_enter Try.func44, Try.ntmps44
    go_wp2_with fail
    go_region_held3 (fun w' => w'.cell? ⟨g, 3, none⟩ = some (.slice A bs.length c) ∧ w'.cell? ⟨g, 4, none⟩ = some (.int .i64 p))
      (first | exact ⟨k3, k4⟩ | assumption | go_keep)
      ((go_at_call 45; (with_reducible refine (rn_need_yes _).mono ?_); rintro e w1 ⟨rfl, rfl⟩))
    go_wp2_with fail
    go_region_held3 (fun w' => w'.cell? ⟨g, 3, none⟩ = some (.slice A bs.length c) ∧ w'.cell? ⟨g, 4, none⟩ = some (.int .i64 p))
      (first | exact ⟨k3', k4'⟩ | assumption | go_keep)
      (fail)
    go_wp2
    go_ret
    have hc : Chg (fun k => k = g) w (w.drew.drew.setCell ⟨g, 4, none⟩ (.int .i64 ((p : Int) + n))) := ((Chg.refl (fun k => k = g) w).drew.drew).setCell (p := ⟨g, 4, none⟩) (.inl rfl) _
    refine ⟨hc, .inl ⟨HLT.out, ⟨A', rfl, HR'.out.chg hc (fun k h1 h3 => by omega)⟩, hz, HLT.out, A, c, ?_, HR.out.chg hc (fun k h1 h3 => by omega)⟩⟩
    have := HB.out.set 4 (.int .i64 ((p : Int) + n))
    simp only [List.setIfInBounds_toArray, List.set_cons_succ, List.set_cons_zero] at this
    rw [Int.natCast_add]
    exact this
  · have hd : decide ((n : Int) ≤ (bs.length : Int) - (p : Int)) = false := by simp; omega
    have HLT := Lib.hid hlt
    have HI : Hid (IsRd Z w.drew g wd hg T bs p) := Lib.hid ⟨hz, hp, A, c, hb.later hdr, hR.new hdr⟩
    have HCD : Hid (Chg (fun k => k = g) w w.drew) := Lib.hid (hdr.chg _)
    have hb0 := hb
    clear hb hR hdr hlt k3 k4 f4
    go_enter Try.func44, Try.ntmps44
    go_wp2_with fail
    have k3 := hb0.cell 3
    have k4 := hb0.cell 4
    simp only [List.getElem?_toArray, List.getElem?_cons_zero, List.getElem?_cons_succ] at k3 k4
    go_still_tail 12, (by kernel_rfl)
    change wpList _ _ _ _ _ w.drew
    go_wp2_with (go_at_call 45; (with_reducible refine (rn_need_no _).mono ?_); rintro e w1 ⟨rfl, rfl⟩)
    exact ⟨rfl, HCD.out, .inr ⟨Nat.lt_of_not_le HLT.out, rfl, HI.out⟩⟩
end Go.Proofs.Ythihffglkheleaa
