/- Contracts of the reference of readers: Number, Part; of readers that are nil. -/
import Derived.Test.YtcbijmlkkdpheaaPn
set_option linter.unusedVariables false
set_option linter.unusedSimpArgs false
namespace Go.Proofs.Ytcbijmlkkdpheaa
open Go.RowKit

/-- A variable of two cells. -/
def Box2 (w : World) (b : Nat) (t : TypeId) (x y : Value) : Prop := w.heap[b]? = some (.cells #[x, y] t (0, 0))
theorem Box2.new (w : World) (t : TypeId) (x y : Value) : Box2 (w.alloc (.cells #[x, y] t)) w.heap.size t x y := heap_alloc_new w _
theorem Box2.lt {w : World} {b : Nat} {t : TypeId} {x y : Value} (h : Box2 w b t x y) : b < w.heap.size := (Array.getElem?_eq_some_iff.1 h).1
theorem Box2.chg {M : Nat → Prop} {w w' : World} {b : Nat} {t : TypeId} {x y : Value} (h : Box2 w b t x y) (hc : Chg M w w') (hm : ¬ M b) : Box2 w' b t x y := (hc.block b h.lt hm).trans h
theorem Box2.later {w w' : World} {b : Nat} {t : TypeId} {x y : Value} (h : Box2 w b t x y) (hc : New w w') : Box2 w' b t x y := (hc.block b h.lt).trans h
theorem Box2.cells {w : World} {b : Nat} {t : TypeId} {x y : Value} (h : Box2 w b t x y) : w.cell? ⟨b, 0, none⟩ = some x ∧ w.cell? ⟨b, 1, none⟩ = some y ∧ w.frozen? ⟨b, 0, none⟩ = false ∧ w.frozen? ⟨b, 1, none⟩ = false := by
  simp [World.cell?, World.frozen?, show w.heap[b]? = _ from h]

def RestN (lo hi : Nat) (p : Int × List U8 × Int) (w : World) (e : Ending) (w' : World) : Prop :=
  New w w' ∧ ∃ A1 c1, e = .returned (.tuple #[.agg #[.slice A1 p.2.1.length c1, .int .i64 p.2.2], .int .u64 p.1]) ∧ Rd e8 lo hi w' (.slice A1 p.2.1.length c1) p.2.1

theorem num_of_bytes (xs : List U8) (fl width : Int) (h : ¬ (fl = 0 ∧ ¬ isWB width = true)) :
    readI 0 (numR width xs) xs fl = (numI (readI [] (bytesR width xs) xs fl).1, (readI [] (bytesR width xs) xs fl).2.1, (readI [] (bytesR width xs) xs fl).2.2) := by
  by_cases hf : fl = 0
  · subst hf
    have hw : isWB width = true := by
      by_cases hw : isWB width = true
      · exact hw
      · exact absurd ⟨rfl, hw⟩ h
    have hwb := (isWB_iff _).1 hw
    by_cases hl : width ≤ xs.length
    · simp only [readI, if_true, numR, if_pos hw, bytesR, if_pos (show 0 ≤ width by omega), if_pos hl]
    · simp only [readI, if_true, numR, if_pos hw, bytesR, if_pos (show 0 ≤ width by omega), if_neg hl]
      rfl
  · simp only [readI, if_neg hf]
    rfl

set_option maxHeartbeats 4000000 in
theorem ref_RestNumber (lo hi : Nat) (A : Option Addr) (c : Nat) (xs : List U8) (fl width : Int) (w : World) (hv : Rd e8 lo hi w (.slice A xs.length c) xs) (hh : hi ≤ w.heap.size) :
    Calls Try.prog 37 #[.agg #[.slice A xs.length c, .int .i64 fl], .int .i64 width] w (RestN lo hi (readI 0 (numR width xs) xs fl) w) := by
  have HV := Lib.hid hv
  have HH := Lib.hid hh
  have hl := hv.len
  by_cases h : fl = 0 ∧ ¬ isWB width = true
  · obtain ⟨rfl, hw⟩ := h
    have hre : readI 0 (numR width xs) xs 0 = (0, xs, 111) := by simp only [readI, if_true, numR, if_neg hw]
    rw [hre]
    have HW := Lib.hid (show isWB width = false by simpa using hw)
    clear hre hw hv
    go_enter Try.func37, Try.ntmps37
    go_wp2_with (go_at_call 12; refine (ref_Width _ _).mono ?_; rw [HW.out]; rintro e w' ⟨rfl, rfl⟩)
    refine bodyPost_ret (v := .tuple #[.agg #[.slice A xs.length c, .int .i64 111], .int .u64 0]) ?_ rfl ?_
    · simp [results, Try.results37, go_sem]
    · exact ⟨(new_alloc _ _).alloc _, _, _, rfl, HV.out.new ((new_alloc _ _).alloc _)⟩
  · rw [num_of_bytes xs fl width h]
    have htk := fun W (hn : New w W) => ref_Take lo hi A c xs fl width W (hv.new hn)
    generalize readI [] (bytesR width xs) xs fl = p at *
    have HT := Lib.hid htk
    have hW0 : New w ((w.alloc (.cells #[.slice A xs.length c, .int .i64 fl] 68)).alloc (.cells #[.slice none 0 0, .int .i64 0] 68)) := (new_alloc _ _).alloc _
    have hb4 := Box2.new (w.alloc (.cells #[.slice A xs.length c, .int .i64 fl] 68)) 68 (.slice none 0 0) (.int .i64 0)
    rw [World.size_alloc] at hb4
    have HW0 := Lib.hid hW0
    have HB4 := Lib.hid hb4
    clear hv htk hW0 hb4
    by_cases hf : fl = 0
    · have hw : isWB width = true := by
        by_cases hw : isWB width = true
        · exact hw
        · exact absurd ⟨hf, hw⟩ h
      subst hf
      have HW := Lib.hid hw
      clear hw h
      go_enter Try.func37, Try.ntmps37
      go_wp2_with (go_at_call 12; refine (ref_Width _ _).mono ?_; rw [HW.out]; rintro e w' ⟨rfl, rfl⟩)
      refine (HT.out _ HW0.out).mono ?_
      rintro e w1 ⟨hN, A1, c1, A2, c2, rfl, hR1, hR2⟩
      have HN1 := Lib.hid (HW0.out.trans hN)
      have hb4 := (HB4.out.later hN).later (new_alloc w1 (.cells #[.slice A1 p.2.1.length c1, .int .i64 p.2.2] 68))
      have hb6 := Box2.new w1 68 (.slice A1 p.2.1.length c1) (.int .i64 p.2.2)
      have HW2 := Lib.hid (HN1.out.trans (new_alloc w1 (.cells #[.slice A1 p.2.1.length c1, .int .i64 p.2.2] 68)))
      have HS1 := Lib.hid (show w.heap.size + 2 ≤ w1.heap.size by have := hN.size; simp at this; omega)
      have hR3 := hR2.new (new_alloc w1 (.cells #[.slice A1 p.2.1.length c1, .int .i64 p.2.2] 68))
      have HR1 := Lib.hid (hR1.new (new_alloc w1 (.cells #[.slice A1 p.2.1.length c1, .int .i64 p.2.2] 68)))
      have HR2 := Lib.hid hR3
      clear hN hR1 hR2 hR3
      go_wp2_with fail
      generalize (w1.alloc (.cells #[.slice A1 p.2.1.length c1, .int .i64 p.2.2] 68)) = W2 at *
      obtain ⟨q, hq⟩ : ∃ q, q = w1.heap.size := ⟨_, rfl⟩
      obtain ⟨r, hr⟩ : ∃ r, r = w.heap.size + 1 := ⟨_, rfl⟩
      rw [← hq] at hb6 ⊢
      rw [← hr] at hb4 ⊢
      obtain ⟨d0, d1, z0, z1⟩ := hb4.cells
      obtain ⟨k0, k1, _, _⟩ := hb6.cells
      have hn1 : ¬ q = r := by have := HS1.out; omega
      have hn2 : ¬ r = q := by omega
      have HRR := Lib.hid (show w.heap.size ≤ r by omega)
      clear hb4 hb6 hq hr
      obtain ⟨pb, pl, pe⟩ := p
      simp only at *
      go_region_held3 (fun w' => w'.cell? ⟨q, 0, none⟩ = some (.slice A1 pl.length c1) ∧ w'.cell? ⟨q, 1, none⟩ = some (.int .i64 pe))
        (first | exact ⟨k0, k1⟩ | assumption | go_keep)
        ((go_at_call 17; refine (ref_Number _ _ _ pb _ (HR2.out.new (Below.drew (new_refl _)))).mono ?_; rintro e w' ⟨rfl, rfl⟩))
      all_goals
        go_wp2_with fail
        refine bodyPost_ret (v := .tuple #[.agg #[.slice A1 pl.length c1, .int .i64 pe], .int .u64 (numI pb)]) ?_ rfl ?_
        · simp [results, Try.results37, go_sem, d0, d1]
        · have hc1 : Chg (fun k => k = r) W2 ((W2.setCell ⟨r, 0, none⟩ (.slice A1 pl.length c1)).setCell ⟨r, 1, none⟩ (.int .i64 pe)).drew := (((Chg.refl (fun k => k = r) W2).setCell (p := ⟨r, 0, none⟩) (.inl rfl) _).setCell (p := ⟨r, 1, none⟩) (.inl rfl) _).drew
          have hc2 : Chg (fun k => k = r) W2 ((W2.drew.setCell ⟨r, 0, none⟩ (.slice A1 pl.length c1)).setCell ⟨r, 1, none⟩ (.int .i64 pe)) := ((Chg.refl (fun k => k = r) W2).drew.setCell (p := ⟨r, 0, none⟩) (.inl rfl) _).setCell (p := ⟨r, 1, none⟩) (.inl rfl) _
          have hm : ∀ k, k < w.heap.size → ¬ (k = r) := fun k hk => by have := HRR.out; omega
          have hm2 : ∀ k, lo ≤ k → k < hi → ¬ (k = r) := fun k _ hk => hm k (by have := HH.out; omega)
          first
            | exact ⟨HW2.out.trans' hc1 hm, _, _, rfl, HR1.out.chg hc1 hm2⟩
            | exact ⟨HW2.out.trans' hc2 hm, _, _, rfl, HR1.out.chg hc2 hm2⟩
    · have hf2 : (fl == 0) = false := by simpa using hf
      clear h hf
      go_enter Try.func37, Try.ntmps37
      go_wp2_with fail
      refine (HT.out _ HW0.out).mono ?_
      rintro e w1 ⟨hN, A1, c1, A2, c2, rfl, hR1, hR2⟩
      have HN1 := Lib.hid (HW0.out.trans hN)
      have hb4 := (HB4.out.later hN).later (new_alloc w1 (.cells #[.slice A1 p.2.1.length c1, .int .i64 p.2.2] 68))
      have hb6 := Box2.new w1 68 (.slice A1 p.2.1.length c1) (.int .i64 p.2.2)
      have HW2 := Lib.hid (HN1.out.trans (new_alloc w1 (.cells #[.slice A1 p.2.1.length c1, .int .i64 p.2.2] 68)))
      have HS1 := Lib.hid (show w.heap.size + 2 ≤ w1.heap.size by have := hN.size; simp at this; omega)
      have hR3 := hR2.new (new_alloc w1 (.cells #[.slice A1 p.2.1.length c1, .int .i64 p.2.2] 68))
      have HR1 := Lib.hid (hR1.new (new_alloc w1 (.cells #[.slice A1 p.2.1.length c1, .int .i64 p.2.2] 68)))
      have HR2 := Lib.hid hR3
      clear hN hR1 hR2 hR3
      go_wp2_with fail
      generalize (w1.alloc (.cells #[.slice A1 p.2.1.length c1, .int .i64 p.2.2] 68)) = W2 at *
      obtain ⟨q, hq⟩ : ∃ q, q = w1.heap.size := ⟨_, rfl⟩
      obtain ⟨r, hr⟩ : ∃ r, r = w.heap.size + 1 := ⟨_, rfl⟩
      rw [← hq] at hb6 ⊢
      rw [← hr] at hb4 ⊢
      obtain ⟨d0, d1, z0, z1⟩ := hb4.cells
      obtain ⟨k0, k1, _, _⟩ := hb6.cells
      have hn1 : ¬ q = r := by have := HS1.out; omega
      have hn2 : ¬ r = q := by omega
      have HRR := Lib.hid (show w.heap.size ≤ r by omega)
      clear hb4 hb6 hq hr
      obtain ⟨pb, pl, pe⟩ := p
      simp only at *
      go_region_held3 (fun w' => w'.cell? ⟨q, 0, none⟩ = some (.slice A1 pl.length c1) ∧ w'.cell? ⟨q, 1, none⟩ = some (.int .i64 pe))
        (first | exact ⟨k0, k1⟩ | assumption | go_keep)
        ((go_at_call 17; refine (ref_Number _ _ _ pb _ (HR2.out.new (Below.drew (new_refl _)))).mono ?_; rintro e w' ⟨rfl, rfl⟩))
      all_goals
        go_wp2_with fail
        refine bodyPost_ret (v := .tuple #[.agg #[.slice A1 pl.length c1, .int .i64 pe], .int .u64 (numI pb)]) ?_ rfl ?_
        · simp [results, Try.results37, go_sem, d0, d1]
        · have hc1 : Chg (fun k => k = r) W2 ((W2.setCell ⟨r, 0, none⟩ (.slice A1 pl.length c1)).setCell ⟨r, 1, none⟩ (.int .i64 pe)).drew := (((Chg.refl (fun k => k = r) W2).setCell (p := ⟨r, 0, none⟩) (.inl rfl) _).setCell (p := ⟨r, 1, none⟩) (.inl rfl) _).drew
          have hc2 : Chg (fun k => k = r) W2 ((W2.drew.setCell ⟨r, 0, none⟩ (.slice A1 pl.length c1)).setCell ⟨r, 1, none⟩ (.int .i64 pe)) := ((Chg.refl (fun k => k = r) W2).drew.setCell (p := ⟨r, 0, none⟩) (.inl rfl) _).setCell (p := ⟨r, 1, none⟩) (.inl rfl) _
          have hm : ∀ k, k < w.heap.size → ¬ (k = r) := fun k hk => by have := HRR.out; omega
          have hm2 : ∀ k, lo ≤ k → k < hi → ¬ (k = r) := fun k _ hk => hm k (by have := HH.out; omega)
          first
            | exact ⟨HW2.out.trans' hc1 hm, _, _, rfl, HR1.out.chg hc1 hm2⟩
            | exact ⟨HW2.out.trans' hc2 hm, _, _, rfl, HR1.out.chg hc2 hm2⟩
end Go.Proofs.Ytcbijmlkkdpheaa
