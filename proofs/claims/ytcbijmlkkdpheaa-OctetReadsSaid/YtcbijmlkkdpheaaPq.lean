/- Contract of the reference of readers: Part. -/
import Derived.Test.YtcbijmlkkdpheaaPp
set_option linter.unusedVariables false
set_option linter.unusedSimpArgs false
namespace Go.Proofs.Ytcbijmlkkdpheaa
open Go.RowKit

theorem part_first (xs : List U8) (fl : Int) : ((readI [] (bytesR 2 xs) xs fl).2.2 ≠ 0 ∧ readI [] (partR xs) xs fl = ([], (readI [] (bytesR 2 xs) xs fl).2.1, (readI [] (bytesR 2 xs) xs fl).2.2)) ∨
    (fl = 0 ∧ 2 ≤ xs.length ∧ readI [] (bytesR 2 xs) xs fl = (xs.take 2, xs.drop 2, 0)) := by
  by_cases hf : fl = 0
  · subst hf
    by_cases h2 : 2 ≤ xs.length
    · right
      refine ⟨rfl, h2, ?_⟩
      simp only [readI, if_true, bytesR, if_pos (show (0 : Int) ≤ 2 by omega), if_pos (show (2 : Int) ≤ xs.length by omega)]
      rfl
    · left
      simp only [readI, if_true, bytesR, partR, if_pos (show (0 : Int) ≤ 2 by omega), if_neg (show ¬ (2 : Int) ≤ xs.length by omega), if_neg h2]
      exact ⟨by decide, trivial⟩
  · left
    simp only [readI, if_neg hf]
    exact ⟨hf, trivial⟩
theorem numI_two_le (xs : List U8) : 0 ≤ numI (xs.take 2) ∧ numI (xs.take 2) ≤ 65535 := by
  have h1 := (be_numI (xs.take 2) (by rw [List.length_take]; omega)).1
  have h2 : (256 : Int) ^ (xs.take 2).length ≤ 65536 := by
    have h3 : ∀ j : Nat, j ≤ 2 → (256 : Int) ^ j ≤ 65536 := by decide
    exact h3 _ (by rw [List.length_take]; omega)
  have := (numI_bound (xs.take 2)).1
  omega
def secP (xs : List U8) (p : List U8 × List U8 × Int) : List U8 × List U8 × Int := if p.2.2 = 0 then p else ([], xs, p.2.2)
theorem part_second (xs : List U8) (h2 : 2 ≤ xs.length) :
    readI [] (partR xs) xs 0 = secP xs (readI [] (bytesR (numI (xs.take 2)) (xs.drop 2)) (xs.drop 2) 0) := by
  obtain ⟨hn0, hn1⟩ := numI_two_le xs
  have hp : partR xs = if 2 + numI (xs.take 2) ≤ xs.length then .ok ((xs.take (2 + numI (xs.take 2)).toNat).drop 2, xs.drop (2 + numI (xs.take 2)).toNat) else .no 110 := by rw [partR, if_pos h2]
  rw [hp, secP]
  generalize numI (xs.take 2) = n at *
  by_cases hn : 2 + n ≤ xs.length
  · have hn' : n ≤ ((xs.drop 2).length : Int) := by rw [List.length_drop]; omega
    simp only [readI, if_true, if_pos hn, bytesR, if_pos hn0, if_pos hn']
    have e : (2 + n).toNat = 2 + n.toNat := by omega
    rw [e, List.drop_take, List.drop_drop]
    congr 2
    omega
  · have hn' : ¬ n ≤ ((xs.drop 2).length : Int) := by rw [List.length_drop]; omega
    simp only [readI, if_true, if_neg hn, bytesR, if_pos hn0, if_neg hn']
    rfl

theorem Box2.set {w : World} {b : Nat} {t : TypeId} {x y : Value} (h : Box2 w b t x y) (x' y' : Value) : Box2 ((w.setCell ⟨b, 0, none⟩ x').setCell ⟨b, 1, none⟩ y') b t x' y' := by
  have hl := h.lt
  unfold Box2 at h ⊢
  rw [Array.getElem?_eq_getElem hl] at h
  injection h with h
  simp only [World.setCell, Array.getElem?_modify, if_true]
  rw [Array.getElem?_eq_getElem hl]
  simp [h]

set_option maxRecDepth 100000 in
set_option maxHeartbeats 4000000 in
theorem ref_RestPart (lo hi : Nat) (A : Option Addr) (c : Nat) (xs : List U8) (fl : Int) (w : World) (hv : Rd e8 lo hi w (.slice A xs.length c) xs) (hh : hi ≤ w.heap.size) :
    Calls Try.prog 40 #[.agg #[.slice A xs.length c, .int .i64 fl]] w (RestP lo hi (readI [] (partR xs) xs fl) w) := by
  have HV := Lib.hid hv
  have HH := Lib.hid hh
  have hl := hv.len
  have htk := fun W (hn : New w W) => ref_Take lo hi A c xs fl 2 W (hv.new hn)
  have hW0 : New w ((w.alloc (.cells #[.slice A xs.length c, .int .i64 fl] 68)).alloc (.cells #[.slice none 0 0, .int .i64 0] 68)) := (new_alloc _ _).alloc _
  have hb1 := (Box2.new w 68 (.slice A xs.length c) (.int .i64 fl)).later (new_alloc _ (.cells #[.slice none 0 0, .int .i64 0] 68))
  have hb2 := Box2.new (w.alloc (.cells #[.slice A xs.length c, .int .i64 fl] 68)) 68 (.slice none 0 0) (.int .i64 0)
  rw [World.size_alloc] at hb2
  have HW0 := Lib.hid hW0
  have HB1 := Lib.hid hb1
  have HB2 := Lib.hid hb2
  rcases part_first xs fl with ⟨hne, hre⟩ | ⟨rfl, h2, hre⟩
  · rw [hre]
    generalize readI [] (bytesR 2 xs) xs fl = p at *
    obtain ⟨pb, pl, pe⟩ := p
    simp only at *
    have HT := Lib.hid htk
    have hpe : (pe != 0) = true := by simpa using hne
    clear hre hne hb1 hb2 hW0 htk hv
    go_enter Try.func40, Try.ntmps40
    go_wp2_with fail
    refine (HT.out _ HW0.out).mono ?_
    rintro e w1 ⟨hN, A1, c1, A2, c2, rfl, hR1, hR2⟩
    obtain ⟨d0, d1, z0, z1⟩ := ((HB2.out.later hN).later (new_alloc w1 (.cells #[.slice A1 pl.length c1, .int .i64 pe] 68))).cells
    have HN1 := Lib.hid (HW0.out.trans hN)
    have HR1 := Lib.hid hR1
    have HS1 := Lib.hid (show w.heap.size + 2 ≤ w1.heap.size by have := hN.size; simp at this; omega)
    clear hN hR1 hR2
    go_wp2_with fail
    refine bodyPost_ret (v := .tuple #[.agg #[.slice A1 pl.length c1, .int .i64 pe], .slice none 0 0]) ?_ rfl ?_
    · simp [results, Try.results40, go_sem, d0, d1]
    · have hc1 : Chg (fun k => k = w.heap.size + 1) w1 (((w1.alloc (.cells #[.slice A1 pl.length c1, .int .i64 pe] 68)).setCell ⟨w.heap.size + 1, 0, none⟩ (.slice A1 pl.length c1)).setCell ⟨w.heap.size + 1, 1, none⟩ (.int .i64 pe)) :=
        (((Chg.refl (fun k => k = w.heap.size + 1) w1).alloc _).setCell (p := ⟨w.heap.size + 1, 0, none⟩) (.inl rfl) _).setCell (p := ⟨w.heap.size + 1, 1, none⟩) (.inl rfl) _
      exact ⟨HN1.out.trans' hc1 (fun k hk => by omega), _, _, _, _, rfl, HR1.out.chg hc1 (fun k _ hk => by have := HH.out; omega), Rd.nil _ _ _ _⟩
  · rw [part_second xs h2]
    have hn2 := numI_two_le xs
    rw [hre] at htk
    obtain ⟨tw, htw⟩ : ∃ tw, tw = xs.take 2 := ⟨_, rfl⟩
    obtain ⟨tl, htl⟩ : ∃ tl, tl = xs.drop 2 := ⟨_, rfl⟩
    have hts := fun A1 c1 (W : World) (h : Rd e8 lo hi W (.slice A1 tl.length c1) tl) => ref_Take lo hi A1 c1 tl 0 (numI tw) W h
    rw [← htw] at hn2 htk ⊢
    rw [← htl] at htk ⊢
    generalize readI [] (bytesR (numI tw) tl) tl 0 = p at *
    have HTS := Lib.hid hts
    have HT := Lib.hid htk
    have HN2 := Lib.hid hn2
    have hnn0 := hn2.1
    have hnn1 := hn2.2
    clear hre hb1 hb2 hW0 htk hv htw htl h2 hts hn2 hh
    go_enter Try.func40, Try.ntmps40
    go_wp2_with fail
    refine (HT.out _ HW0.out).mono ?_
    rintro e w1 ⟨hN, A1, c1, A2, c2, rfl, hR1, hR2⟩
    have hb4 := Box2.new w1 68 (.slice A1 tl.length c1) (.int .i64 0)
    have hNa := new_alloc w1 (.cells #[.slice A1 tl.length c1, .int .i64 0] 68)
    have hB1 := (HB1.out.later hN).later hNa
    have hB2 := (HB2.out.later hN).later hNa
    have HN1 := Lib.hid ((HW0.out.trans hN).trans hNa)
    have HR1 := Lib.hid (hR1.new hNa)
    have HR2 := Lib.hid (hR2.new hNa)
    have HS1 := Lib.hid (show w.heap.size + 2 ≤ w1.heap.size by have := hN.size; simp at this; omega)
    clear hN hR1 hR2
    go_wp2_with fail
    generalize (w1.alloc (.cells #[.slice A1 tl.length c1, .int .i64 0] 68)) = W2 at *
    obtain ⟨q, hq⟩ : ∃ q, q = w1.heap.size := ⟨_, rfl⟩
    rw [← hq] at hb4 ⊢
    obtain ⟨k0, k1, _, _⟩ := hb4.cells
    have HB4 := Lib.hid hb4
    have HQ := Lib.hid hq
    have HX1 := Lib.hid hB1
    have HX2 := Lib.hid hB2
    clear hb4 hq hNa hB1 hB2
    have hwr : IntKind.i64.wrap (numI tw) = numI tw := by rw [IntKind.wrap_i64]; omega
    obtain ⟨WA, hWA⟩ : ∃ WA, W2.drew.alloc (.cells #[.slice none 0 0, .int .i64 0] 68) = WA := ⟨_, rfl⟩
    have hbx : Box2 WA W2.heap.size 68 (.slice none 0 0) (.int .i64 0) := by rw [← hWA]; exact Box2.new W2.drew 68 (.slice none 0 0) (.int .i64 0)
    have hNA : New W2 WA := by rw [← hWA]; exact (Below.drew (new_refl _)).alloc (by simp) _
    have HBX := Lib.hid hbx
    have HNA := Lib.hid hNA
    obtain ⟨y0, y1, y2, y3⟩ := hbx.cells
    obtain ⟨g0, g1, _, _⟩ := (HB4.out.later hNA).cells
    have HNU1 := Lib.hid (ref_Number lo hi _ tw W2.drew (HR2.out.new (Below.drew (new_refl _))))
    have HNU2 := Lib.hid (ref_Number lo hi _ tw WA (HR2.out.new hNA))
    have HTK1 : Hid (Calls Try.prog 39 #[.agg #[.slice A1 tl.length c1, .int .i64 0], .int .i64 (IntKind.i64.wrap (numI tw))] W2.drew (RestP lo hi p W2.drew)) := Lib.hid (by rw [hwr]; exact HTS.out A1 c1 W2.drew (HR1.out.new (Below.drew (new_refl _))))
    have HTK2 : Hid (Calls Try.prog 39 #[.agg #[.slice A1 tl.length c1, .int .i64 0], .int .i64 (IntKind.i64.wrap (numI tw))] WA (RestP lo hi p WA)) := Lib.hid (by rw [hwr]; exact HTS.out A1 c1 WA (HR1.out.new hNA))
    have hq1 : ¬ q = W2.heap.size := by have := HB4.out.lt; omega
    have hq2 : ¬ W2.heap.size = q := fun h => hq1 h.symm
    clear hbx hNA hwr
    go_region_held3 (fun w' => w'.cell? ⟨q, 0, none⟩ = some (.slice A1 tl.length c1) ∧ w'.cell? ⟨q, 1, none⟩ = some (.int .i64 0))
      (first | exact ⟨k0, k1⟩ | (rw [hWA]; exact ⟨g0, g1⟩) | exact ⟨g0, g1⟩ | (go_split_ands; exact ⟨h0, h1⟩) | assumption | go_keep)
      ((first
        | (go_at_call 17; ((first | (with_reducible refine HNU1.out.mono ?_) | ((try (rw [hWA])); with_reducible refine HNU2.out.mono ?_)); rintro e w' ⟨rfl, rfl⟩))
        | (go_at_call 39; first
          | ((with_reducible refine HTK1.out.mono ?_); rintro e w3 ⟨hN, A5, c5, A6, c6, rfl, hR5, hR6⟩; have HN3 : Hid (New W2 w3) := Lib.hid (Below.trans (Below.drew (new_refl _)) hN); have hq3 : ¬ q = w3.heap.size := (by have := (HB4.out.later HN3.out).lt; omega); have hq4 : ¬ w3.heap.size = q := (fun h => hq3 h.symm); obtain ⟨h0, h1, _, _⟩ := (HB4.out.later HN3.out).cells; have HR5 := Lib.hid hR5; have HR6 := Lib.hid hR6; clear hR5 hR6 hN)
          | ((try (rw [hWA])); (with_reducible refine HTK2.out.mono ?_); rintro e w3 ⟨hN, A5, c5, A6, c6, rfl, hR5, hR6⟩; have HN3 : Hid (New W2 w3) := Lib.hid (HNA.out.trans hN); obtain ⟨h0, h1, _, _⟩ := (HB4.out.later HN3.out).cells; obtain ⟨y0, y1, y2, y3⟩ := (HBX.out.later hN).cells; have hNW := hN; have HR5 := Lib.hid hR5; have HR6 := Lib.hid hR6; clear hR5 hR6 hN))))
    all_goals
      have hfin : ∀ (W5 : World) (x6 : Nat), Box2 W5 x6 68 (.slice A5 p.2.1.length c5) (.int .i64 p.2.2) → Chg (fun k => k = W2.heap.size) w3 W5 → (W5 = W5 ∧ x6 = x6) → Hid (Box2 W5 x6 68 (.slice A5 p.2.1.length c5) (.int .i64 p.2.2) ∧ Chg (fun k => k = W2.heap.size) w3 W5) := fun W5 x6 h1 h2 _ => Lib.hid ⟨h1, h2⟩
      clear HTK1 HTK2 HNU1 HNU2 HTS HT hfin
      first
        | (obtain ⟨W5, hW5⟩ : ∃ W5, w3.alloc (.cells #[.slice A5 p.2.1.length c5, .int .i64 p.2.2] 68) = W5 := ⟨_, rfl⟩
           have hb6 : Box2 W5 w3.heap.size 68 (.slice A5 p.2.1.length c5) (.int .i64 p.2.2) := by rw [← hW5]; exact Box2.new _ _ _ _
           have hc5 : Chg (fun k => k = W2.heap.size) w3 W5 := by rw [← hW5]; exact (Chg.refl _ _).alloc _
           rw [hW5]
           generalize w3.heap.size = x6 at hb6 ⊢
           have HB6 := Lib.hid hb6
           have HC5 := Lib.hid hc5
           clear hW5 hb6 hc5)
        | (obtain ⟨W5, hW5⟩ : ∃ W5, (w3.setCell ⟨W2.heap.size, 0, none⟩ (.slice A5 p.2.1.length c5)).setCell ⟨W2.heap.size, 1, none⟩ (.int .i64 p.2.2) = W5 := ⟨_, rfl⟩
           have hb6 : Box2 W5 W2.heap.size 68 (.slice A5 p.2.1.length c5) (.int .i64 p.2.2) := by rw [← hW5]; exact (HBX.out.later (by assumption)).set _ _
           have hc5 : Chg (fun k => k = W2.heap.size) w3 W5 := by rw [← hW5]; exact ((Chg.refl (fun k => k = W2.heap.size) w3).setCell (p := ⟨W2.heap.size, 0, none⟩) (.inl rfl) _).setCell (p := ⟨W2.heap.size, 1, none⟩) (.inl rfl) _
           rw [hW5]
           have HB6 := Lib.hid hb6
           have HC5 := Lib.hid hc5
           clear hW5 hb6 hc5)
      have hs2 : w.heap.size + 2 ≤ W2.heap.size := by have := HX2.out.lt; omega
      have h1 : Box2 W5 w.heap.size 68 (.slice A xs.length c) (.int .i64 0) := (HX1.out.later HN3.out).chg HC5.out (by omega)
      have h2 : Box2 W5 (w.heap.size + 1) 68 (.slice none 0 0) (.int .i64 0) := (HX2.out.later HN3.out).chg HC5.out (by omega)
      have HN5 := Lib.hid ((HN1.out.trans HN3.out).trans' HC5.out (fun k hk => by omega))
      have HL5 := Lib.hid (HR5.out.chg HC5.out (fun k _ hk => by have := HH.out; omega))
      have HB5 := Lib.hid (HR6.out.chg HC5.out (fun k _ hk => by have := HH.out; omega))
      obtain ⟨e0, e1, _, _⟩ := h1.cells
      obtain ⟨d0, d1, z0, z1⟩ := h2.cells
      obtain ⟨f0, f1, _, _⟩ := HB6.out.cells
      clear h1 h2 HR5 HR6 HC5 HX1 HX2 HBX HNA hWA hs2 HB6 HN3
      obtain ⟨pb, pl, pe⟩ := p
      simp only at *
      by_cases hpe : pe = 0
      · subst hpe
        rw [show secP xs (pb, pl, 0) = (pb, pl, 0) by rw [secP, if_pos rfl]]
        go_wp2_with fail
        refine bodyPost_ret (v := .tuple #[.agg #[.slice A5 pl.length c5, .int .i64 0], .slice A6 pb.length c6]) ?_ rfl ?_
        · simp [results, Try.results40, go_sem, d0, d1]
        · have hc : Chg (fun k => k = w.heap.size + 1) W5 ((W5.setCell ⟨w.heap.size + 1, 0, none⟩ (.slice A5 pl.length c5)).setCell ⟨w.heap.size + 1, 1, none⟩ (.int .i64 0)) := ((Chg.refl (fun k => k = w.heap.size + 1) W5).setCell (p := ⟨w.heap.size + 1, 0, none⟩) (.inl rfl) _).setCell (p := ⟨w.heap.size + 1, 1, none⟩) (.inl rfl) _
          have hm : ∀ k, lo ≤ k → k < hi → ¬ (k = w.heap.size + 1) := fun k _ hk => by have := HH.out; omega
          exact ⟨HN5.out.trans' hc (fun k hk => by omega), _, _, _, _, rfl, HL5.out.chg hc hm, HB5.out.chg hc hm⟩
      · rw [show secP xs (pb, pl, pe) = ([], xs, pe) by rw [secP, if_neg hpe]]
        have hpe2 : (pe != 0) = true := by simpa using hpe
        have HSP := Lib.hid (show secP xs (pb, pl, pe) = ([], xs, pe) by rw [secP, if_neg hpe])
        clear hpe
        go_wp2_with fail
        refine bodyPost_ret (v := .tuple #[.agg #[.slice A xs.length c, .int .i64 pe], .slice none 0 0]) ?_ rfl ?_
        · simp [results, Try.results40, go_sem, d0, d1]
        · have hc : Chg (fun k => k = w.heap.size + 1) W5 ((W5.setCell ⟨w.heap.size + 1, 0, none⟩ (.slice A xs.length c)).setCell ⟨w.heap.size + 1, 1, none⟩ (.int .i64 pe)) := ((Chg.refl (fun k => k = w.heap.size + 1) W5).setCell (p := ⟨w.heap.size + 1, 0, none⟩) (.inl rfl) _).setCell (p := ⟨w.heap.size + 1, 1, none⟩) (.inl rfl) _
          have hm : ∀ k, lo ≤ k → k < hi → ¬ (k = w.heap.size + 1) := fun k _ hk => by have := HH.out; omega
          rw [HSP.out]
          exact ⟨HN5.out.trans' hc (fun k hk => by omega), _, _, _, _, rfl, (HV.out.new HN5.out).chg hc hm, Rd.nil _ _ _ _⟩
end Go.Proofs.Ytcbijmlkkdpheaa
