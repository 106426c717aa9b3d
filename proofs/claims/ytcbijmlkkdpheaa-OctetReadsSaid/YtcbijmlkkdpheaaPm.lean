/- The law OctetRows: what rows of numbers come to, and bytes as rows of them. -/
import Derived.Test.YtcbijmlkkdpheaaPl
set_option linter.unusedVariables false
set_option linter.unusedSimpArgs false
namespace Go.Proofs.Ytcbijmlkkdpheaa
open Go.RowKit

theorem ite_min8 (n m : Nat) (hm : m = min n 8) : (if (8 : Int) < (n : Int) then (8 : Int) else (n : Int)) = (m : Int) := by
  subst hm
  split <;> omega
/-- the value and the error, as they come back -/
def rv {α : Type} : Res (List α) → List α × Int
  | .ok a => (a, 0)
  | .no x => ([], x)
theorem OutT.gen {α : Type} {enc : α → Value} {t : TypeId} {r : Res (List α)} {w w' : World} {e : Ending} (h : OutT (.slice none 0 0) (VO enc t) r w e w') :
    New w w' ∧ ∃ A c, e = .returned (.tuple #[.slice A (rv r).1.length c, .int .i64 (rv r).2]) ∧ Rd enc w.heap.size w'.heap.size w' (.slice A (rv r).1.length c) (rv r).1 := by
  obtain ⟨hn, ⟨a, v, hr, rfl, A, c, rfl, ho⟩ | ⟨x, hr, rfl⟩⟩ := h.split
  · rw [hr.out]
    exact ⟨hn, A, c, rfl, ho.rd (Nat.le_refl _)⟩
  · rw [hr.out]
    exact ⟨hn, none, 0, rfl, Rd.nil _ _ _ _⟩

theorem slice_hv {α : Type} {enc : α → Value} {P : Program} {t e : TypeId} (ht : P.underlying t = some (.slice e)) (hinfo : (P.info? e).map (·.size) = some 1) {lo hi : Nat} {w : World} {A : Option Addr} {c : Nat} {xs : List α} (h : Rd enc lo hi w (.slice A xs.length c) xs) (kh : IntKind) (hh : Int) (h1 : 0 ≤ hh) (h2 : hh ≤ xs.length) :
    ∃ (ys : List α) (A' : Option Addr), (ys = xs.take hh.toNat ∧ (ys.length : Int) = hh ∧ ∀ W, (Instr.slice t (.slice A xs.length c) none (some (.int kh hh)) none).run P W = .ok (.slice A' ys.length c) W) ∧ Rd enc lo hi w (.slice A' ys.length c) ys := by
  obtain ⟨A', hs, hR⟩ := slice_h ht hinfo h kh hh h1 h2
  have hl : (xs.take hh.toNat).length = hh.toNat := by rw [List.length_take]; omega
  rw [← hl] at hR
  have hs2 : ∀ W, (Instr.slice t (.slice A xs.length c) none (some (.int kh hh)) none).run P W = .ok (.slice A' (xs.take hh.toNat).length c) W := fun W => by rw [hs, hl]
  have e : xs.take (xs.take hh.toNat).length = xs.take hh.toNat := by rw [hl]
  rw [e] at hR
  exact ⟨_, A', ⟨rfl, by rw [hl]; omega, hs2⟩, hR⟩

set_option maxRecDepth 100000 in
set_option maxHeartbeats 8000000 in
theorem law_Rows (vx vy vz : Value) (xs : List I64) (ys : List U64) (zs : List U8) (w : World) (hx : Rd ei 0 w.heap.size w vx xs) (hy : Rd e64 0 w.heap.size w vy ys) (hz : Rd e8 0 w.heap.size w vz zs) :
    Calls Try.prog 5 #[vx, vy, vz] w fun e w' => e = .returned (.bool true) ∧ New w w' := by
  obtain ⟨A, c, rfl, h1, h2⟩ := hx.form
  obtain ⟨B, d, rfl, h3, h4⟩ := hy.form
  obtain ⟨C, f, rfl, h5, h6⟩ := hz.form
  obtain ⟨ws, hws, hwl, hRw⟩ := hx.cut 8
  obtain ⟨ns, hns, hnl, hRn⟩ := hy.cut 8
  obtain ⟨bs, hb⟩ : ∃ bs, bs = zs.take 60 := ⟨_, rfl⟩
  have hfew := fun W (hn : New w W) => ref_few 0 w.heap.size _ zs W (hz.new hn)
  rw [← hb] at hfew
  have HF := Lib.hid hfew
  have HB60 := Lib.hid (show bs.length ≤ 60 by rw [hb, List.length_take]; omega)
  have hm1 := ite_min8 xs.length ws.length hwl
  have hm2 := ite_min8 ys.length ns.length hnl
  have HWo := Lib.hid hRw
  have HMo := Lib.hid hRn
  have HWL := Lib.hid (show ws.length ≤ 8 by omega)
  have HNL := Lib.hid (show ns.length ≤ 8 by omega)
  have hwc : ws.length ≤ c := by omega
  have hnd : ns.length ≤ d := by omega
  clear hx hy hz hRw hRn hws hns hwl hnl hb hfew
  go_enter Try.func5, Try.ntmps5
  go_wp2_with fail
  refine (law_wakes w).mono ?_
  rintro e w1 ⟨rfl, hN⟩
  have HN1 := Lib.hid (hN.trans (Below.drew (new_refl w1)))
  clear hN
  go_wp2_with fail
  go_region_held3 (fun w' => Hid (New w w'))
    (first | exact HN1 | (go_split_ands; exact HN4) | (go_split_ands; exact HN3) | (go_split_ands; exact HN2) | assumption | go_keep)
    ((first
      | (go_at_call 25; refine (oc_clonei _ _ _ ws _ (HWo.out.new HN1.out) (by have := HWL.out; omega)).mono ?_; rintro e w2 ⟨A7, c7, rfl, hN, hO⟩; have HN2 := Lib.hid (HN1.out.trans hN); have HO2 := Lib.hid hO; clear hN hO)
      | (go_at_call 26; refine (oc_clone64 _ _ _ ns _ (HMo.out.new HN2.out) (by have := HNL.out; omega)).mono ?_; rintro e w3 ⟨A8, c8, rfl, hN, hO⟩; have HN3 := Lib.hid (HN2.out.trans hN); have HO3 := Lib.hid hO; have HX3 := Lib.hid hN; clear hN hO)
      | (go_at_call 10; refine (HF.out _ HN3.out).mono ?_; rintro e w4 ⟨A9, c9, rfl, hN, hO⟩; have HN4 := Lib.hid (HN3.out.trans hN); have HO4 := Lib.hid hO; have HX4 := Lib.hid hN; clear hN hO)))
  all_goals
    have hW5 := ((HO2.out.rd (Nat.le_refl _)).new (HX3.out.trans HX4.out)).mono (Nat.zero_le _) (Nat.le_trans HX3.out.size HX4.out.size)
    have hM5 := ((HO3.out.rd (Nat.le_refl _)).new HX4.out).mono (Nat.zero_le _) HX4.out.size
    have hB5 := (HO4.out.rd (Nat.le_refl _)).mono (Nat.zero_le _) (Nat.le_refl _)
    have HW := Lib.hid hW5
    have HM := Lib.hid hM5
    have HB := Lib.hid hB5
    clear hW5 hM5 hB5 HO2 HO3 HO4 HX3 HX4 HN3 HN2 HN1 hm1 hm2
    go_wp2_with fail
    refine (oc_Size _ _ _ ws _ HW.out (by have := HWL.out; omega)).mono ?_
    rintro e w5 ho
    by_cases ga : ws.all okW = true
    · have GA := Lib.hid ga
      have hsb := sumW_bound ws ga
      have hs0 : 0 ≤ sumW ws := by omega
      have hs1 : sumW ws ≤ 64 := by have := HWL.out; omega
      obtain ⟨hN, v, rfl, rfl⟩ := ho.ok (a := sumW ws) (by rw [sizeI, if_pos ga])
      have hre : refSize ws = sumW ws := by rw [refSize, if_pos ga]
      have hal : allW ws = true := ga
      have HX5 := Lib.hid hN
      clear hN ho ga hsb
      go_wp2_with fail
      refine (ref_Size _ _ _ ws _ (HW.out.new HX5.out) (by have := HWL.out; omega)).mono ?_
      rw [hre]
      rintro e w' ⟨rfl, rfl⟩
      go_wp2_with fail
      refine (oc_Lay _ _ _ _ _ _ ws ns _ (HW.out.new HX5.out) (HM.out.new HX5.out) (by have := HWL.out; omega)).mono ?_
      rintro e w6 ho
      obtain ⟨hN, A10, c10, rfl, hR⟩ := ho.gen
      have HX6 := Lib.hid (HX5.out.trans hN)
      have HR6 := Lib.hid hR
      clear hN hR ho
      go_wp2_with fail
      refine (ref_Rows _ _ _ _ _ _ ws ns _ (HW.out.new HX6.out) (HM.out.new HX6.out) (by have := HWL.out; omega)).mono ?_
      rintro e w7 ho
      obtain ⟨hN, A11, c11, rfl, hR⟩ := ho.gen
      have HX7 := Lib.hid (HX6.out.trans hN)
      have HR7 := Lib.hid hR
      have HL7 := Lib.hid (HR6.out.new hN)
      clear hN hR ho HR6 HX6
      generalize rv (layI ws ns) = lv at *
      go_wp2_with fail
      refine (oc_Split _ _ _ _ _ _ ws bs _ (HW.out.new HX7.out) (HB.out.new HX7.out) (by have := HWL.out; omega) ⟨HX7.out.size, HX7.out.size⟩).mono ?_
      rintro e w8 ho
      obtain ⟨hN, A12, c12, rfl, hR⟩ := ho.gen
      have HX8 := Lib.hid (HX7.out.trans hN)
      have HL8 := Lib.hid (HL7.out.new hN)
      have HR8 := Lib.hid (HR7.out.new hN)
      have HS8 := Lib.hid hR
      clear hN hR ho HL7 HR7 HX7
      go_wp2_with fail
      refine (ref_Split _ _ _ _ _ _ ws bs _ (HW.out.new HX8.out) (HB.out.new HX8.out) (by have := HWL.out; omega)).mono ?_
      rintro e w9 ho
      obtain ⟨hN, A13, c13, rfl, hR⟩ := ho.gen
      have HX9 := Lib.hid (HX8.out.trans hN)
      have HL9 := Lib.hid (HL8.out.new hN)
      have HR9 := Lib.hid (HR8.out.new hN)
      have HS9 := Lib.hid (HS8.out.new hN)
      have HT9 := Lib.hid hR
      clear hN hR ho HL8 HR8 HS8 HX8
      generalize rv (splitI ws bs) = sv at *
      go_wp2_with fail
      refine (ref_Same _ _ _ _ _ _ lv.1 lv.1 _ HL9.out HR9.out).mono ?_
      rw [decide_eq_true (rfl : lv.1 = lv.1)]
      rintro e w' ⟨rfl, rfl⟩
      go_wp2_with fail
      refine (oc_eq64 _ _ _ _ _ _ sv.1 sv.1 _ HS9.out HT9.out).mono ?_
      rw [decide_eq_true (rfl : sv.1 = sv.1)]
      rintro e w10 ⟨rfl, nd, hd⟩
      have HX10 := Lib.hid (show New w4 w10 by rw [hd]; exact HX9.out.drewN _)
      clear hd HL9 HR9 HS9 HT9 HX9
      by_cases gl : sumW ws ≤ bs.length
      · obtain ⟨us, A14, hs, hR⟩ := slice_hv Try.underlying22 size_u8 (HB.out.new HX10.out) .i64 (sumW ws) hs0 gl
        have HU := Lib.hid hR
        obtain ⟨sv2, hsv⟩ : ∃ x, splitI ws us = .ok x := ⟨_, by rw [splitI, if_pos GA.out, if_pos (by have := hs.2.1; omega), if_pos (by have := hs.2.1; omega)]⟩
        have hsr := hs.2.2
        have HSV := Lib.hid hsv
        clear hs hR hsv
        go_wp2_with fail
        refine (oc_Split _ _ _ _ _ _ ws us _ (HW.out.new HX10.out) HU.out (by have := HWL.out; omega) ⟨HX10.out.size, HX10.out.size⟩).mono ?_
        rintro e w11 ho
        obtain ⟨hN, v, rfl, A15, c15, rfl, hO⟩ := ho.ok HSV.out
        have HX11 := Lib.hid (HX10.out.trans hN)
        have HU11 := Lib.hid (HU.out.new hN)
        have HV11 := Lib.hid (hO.rd (Nat.le_refl _))
        clear hN ho hO HX10 HU
        go_wp2_with fail
        refine (ref_Split _ _ _ _ _ _ ws us _ (HW.out.new HX11.out) HU11.out (by have := HWL.out; omega)).mono ?_
        rintro e w12 ho
        obtain ⟨hN, v, rfl, A16, c16, rfl, hO⟩ := ho.ok HSV.out
        have HX12 := Lib.hid (HX11.out.trans hN)
        have HV12 := Lib.hid (HV11.out.new hN)
        have HY12 := Lib.hid (hO.rd (Nat.le_refl _))
        clear hN ho hO HX11 HV11 HU11
        go_wp2_with fail
        refine (oc_eq64 _ _ _ _ _ _ sv2 sv2 _ HV12.out HY12.out).mono ?_
        rw [decide_eq_true (rfl : sv2 = sv2)]
        rintro e w13 ⟨rfl, nd2, hd⟩
        have HX13 := Lib.hid (show New w4 w13 by rw [hd]; exact HX12.out.drewN _)
        clear hd HX12 HV12 HY12
        go_wp2_with fail
        refine (oc_eqi _ _ _ _ _ _ ws ws _ (HW.out.new HX13.out) (HWo.out.new (HN4.out.trans HX13.out))).mono ?_
        rw [decide_eq_true (rfl : ws = ws)]
        rintro e w21 ⟨rfl, nd3, hd⟩
        have HX21 := Lib.hid (show New w4 w21 by rw [hd]; exact HX13.out.drewN _)
        clear hd HX13
        go_wp2_with fail
        refine (oc_eq64 _ _ _ _ _ _ ns ns _ (HM.out.new HX21.out) (HMo.out.new (HN4.out.trans HX21.out))).mono ?_
        rw [decide_eq_true (rfl : ns = ns)]
        rintro e w22 ⟨rfl, nd4, hd⟩
        have HX22 := Lib.hid (show New w4 w22 by rw [hd]; exact HX21.out.drewN _)
        clear hd HX21
        go_wp2_with fail
        refine (HF.out _ (HN4.out.trans HX22.out)).mono ?_
        rintro e w23 ⟨A23, c23, rfl, hN, hO⟩
        have HX23 := Lib.hid (HX22.out.trans hN)
        have HO23 := Lib.hid (hO.rd (Nat.le_refl _))
        clear hN hO HX22
        go_wp2_with fail
        refine (oc_eq8 _ _ _ _ _ _ bs bs _ (HB.out.new HX23.out) HO23.out).mono ?_
        rw [decide_eq_true (rfl : bs = bs)]
        rintro e w24 ⟨rfl, nd5, hd⟩
        have HX24 := Lib.hid (show New w4 w24 by rw [hd]; exact HX23.out.drewN _)
        clear hd HX23
        go_wp2
        go_ret
        exact ⟨rfl, HN4.out.trans HX24.out⟩
      · have gl2 : decide (sumW ws ≤ (bs.length : Int)) = false := by simpa using gl
        go_wp2_with fail
        refine (oc_eqi _ _ _ _ _ _ ws ws _ (HW.out.new HX10.out) (HWo.out.new (HN4.out.trans HX10.out))).mono ?_
        rw [decide_eq_true (rfl : ws = ws)]
        rintro e w21 ⟨rfl, nd3, hd⟩
        have HX21 := Lib.hid (show New w4 w21 by rw [hd]; exact HX10.out.drewN _)
        clear hd HX10
        go_wp2_with fail
        refine (oc_eq64 _ _ _ _ _ _ ns ns _ (HM.out.new HX21.out) (HMo.out.new (HN4.out.trans HX21.out))).mono ?_
        rw [decide_eq_true (rfl : ns = ns)]
        rintro e w22 ⟨rfl, nd4, hd⟩
        have HX22 := Lib.hid (show New w4 w22 by rw [hd]; exact HX21.out.drewN _)
        clear hd HX21
        go_wp2_with fail
        refine (HF.out _ (HN4.out.trans HX22.out)).mono ?_
        rintro e w23 ⟨A23, c23, rfl, hN, hO⟩
        have HX23 := Lib.hid (HX22.out.trans hN)
        have HO23 := Lib.hid (hO.rd (Nat.le_refl _))
        clear hN hO HX22
        go_wp2_with fail
        refine (oc_eq8 _ _ _ _ _ _ bs bs _ (HB.out.new HX23.out) HO23.out).mono ?_
        rw [decide_eq_true (rfl : bs = bs)]
        rintro e w24 ⟨rfl, nd5, hd⟩
        have HX24 := Lib.hid (show New w4 w24 by rw [hd]; exact HX23.out.drewN _)
        clear hd HX23
        go_wp2
        go_ret
        exact ⟨rfl, HN4.out.trans HX24.out⟩
    · have GA := Lib.hid ga
      obtain ⟨hN, rfl⟩ := ho.bad (x := 111) (by rw [sizeI, if_neg ga])
      have hre : refSize ws = 0 := by rw [refSize, if_neg ga]
      have hal : allW ws = false := by simpa [allW] using ga
      have HX5 := Lib.hid hN
      clear hN ho ga
      go_wp2_with fail
      refine (ref_Size _ _ _ ws _ (HW.out.new HX5.out) (by have := HWL.out; omega)).mono ?_
      rw [hre]
      rintro e w' ⟨rfl, rfl⟩
      go_wp2_with fail
      refine (oc_Lay _ _ _ _ _ _ ws ns _ (HW.out.new HX5.out) (HM.out.new HX5.out) (by have := HWL.out; omega)).mono ?_
      rintro e w6 ho
      obtain ⟨hN, A10, c10, rfl, hR⟩ := ho.gen
      have HX6 := Lib.hid (HX5.out.trans hN)
      have HR6 := Lib.hid hR
      clear hN hR ho
      go_wp2_with fail
      refine (ref_Rows _ _ _ _ _ _ ws ns _ (HW.out.new HX6.out) (HM.out.new HX6.out) (by have := HWL.out; omega)).mono ?_
      rintro e w7 ho
      obtain ⟨hN, A11, c11, rfl, hR⟩ := ho.gen
      have HX7 := Lib.hid (HX6.out.trans hN)
      have HR7 := Lib.hid hR
      have HL7 := Lib.hid (HR6.out.new hN)
      clear hN hR ho HR6 HX6
      generalize rv (layI ws ns) = lv at *
      go_wp2_with fail
      refine (oc_Split _ _ _ _ _ _ ws bs _ (HW.out.new HX7.out) (HB.out.new HX7.out) (by have := HWL.out; omega) ⟨HX7.out.size, HX7.out.size⟩).mono ?_
      rintro e w8 ho
      obtain ⟨hN, A12, c12, rfl, hR⟩ := ho.gen
      have HX8 := Lib.hid (HX7.out.trans hN)
      have HL8 := Lib.hid (HL7.out.new hN)
      have HR8 := Lib.hid (HR7.out.new hN)
      have HS8 := Lib.hid hR
      clear hN hR ho HL7 HR7 HX7
      go_wp2_with fail
      refine (ref_Split _ _ _ _ _ _ ws bs _ (HW.out.new HX8.out) (HB.out.new HX8.out) (by have := HWL.out; omega)).mono ?_
      rintro e w9 ho
      obtain ⟨hN, A13, c13, rfl, hR⟩ := ho.gen
      have HX9 := Lib.hid (HX8.out.trans hN)
      have HL9 := Lib.hid (HL8.out.new hN)
      have HR9 := Lib.hid (HR8.out.new hN)
      have HS9 := Lib.hid (HS8.out.new hN)
      have HT9 := Lib.hid hR
      clear hN hR ho HL8 HR8 HS8 HX8
      generalize rv (splitI ws bs) = sv at *
      go_wp2_with fail
      refine (ref_Same _ _ _ _ _ _ lv.1 lv.1 _ HL9.out HR9.out).mono ?_
      rw [decide_eq_true (rfl : lv.1 = lv.1)]
      rintro e w' ⟨rfl, rfl⟩
      go_wp2_with fail
      refine (oc_eq64 _ _ _ _ _ _ sv.1 sv.1 _ HS9.out HT9.out).mono ?_
      rw [decide_eq_true (rfl : sv.1 = sv.1)]
      rintro e w10 ⟨rfl, nd, hd⟩
      have HX10 := Lib.hid (show New w4 w10 by rw [hd]; exact HX9.out.drewN _)
      clear hd HL9 HR9 HS9 HT9 HX9
      go_wp2_with fail
      refine (oc_eqi _ _ _ _ _ _ ws ws _ (HW.out.new HX10.out) (HWo.out.new (HN4.out.trans HX10.out))).mono ?_
      rw [decide_eq_true (rfl : ws = ws)]
      rintro e w21 ⟨rfl, nd3, hd⟩
      have HX21 := Lib.hid (show New w4 w21 by rw [hd]; exact HX10.out.drewN _)
      clear hd HX10
      go_wp2_with fail
      refine (oc_eq64 _ _ _ _ _ _ ns ns _ (HM.out.new HX21.out) (HMo.out.new (HN4.out.trans HX21.out))).mono ?_
      rw [decide_eq_true (rfl : ns = ns)]
      rintro e w22 ⟨rfl, nd4, hd⟩
      have HX22 := Lib.hid (show New w4 w22 by rw [hd]; exact HX21.out.drewN _)
      clear hd HX21
      go_wp2_with fail
      refine (HF.out _ (HN4.out.trans HX22.out)).mono ?_
      rintro e w23 ⟨A23, c23, rfl, hN, hO⟩
      have HX23 := Lib.hid (HX22.out.trans hN)
      have HO23 := Lib.hid (hO.rd (Nat.le_refl _))
      clear hN hO HX22
      go_wp2_with fail
      refine (oc_eq8 _ _ _ _ _ _ bs bs _ (HB.out.new HX23.out) HO23.out).mono ?_
      rw [decide_eq_true (rfl : bs = bs)]
      rintro e w24 ⟨rfl, nd5, hd⟩
      have HX24 := Lib.hid (show New w4 w24 by rw [hd]; exact HX23.out.drewN _)
      clear hd HX23
      go_wp2
      go_ret
      exact ⟨rfl, HN4.out.trans HX24.out⟩
end Go.Proofs.Ytcbijmlkkdpheaa
