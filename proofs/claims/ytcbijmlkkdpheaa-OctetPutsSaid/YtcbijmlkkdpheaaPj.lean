/- The law OctetPuts: what numbers come to as bytes, and which ones stand there. -/
import Derived.Test.YtcbijmlkkdpheaaPi
import Derived.Test.YtcbijmlkkdpheaaPf
import Derived.Test.YtcbijmlkkdpheaaBd
set_option linter.unusedVariables false
set_option linter.unusedSimpArgs false
namespace Go.Proofs.Ytcbijmlkkdpheaa
open Go.RowKit

theorem RdC.num {lo hi : Nat} {w : World} {A : Option Addr} {c : Nat} {xs : List Num} (h : RdC 3 encN lo hi w (.slice A xs.length c) xs) (k : Nat) (hk : k < xs.length) :
    ∃ b off, A = some ⟨b, off, none⟩ ∧ w.cell? ⟨b, off + k * 3, none⟩ = some (ei xs[k].at_) ∧ w.cell? ⟨b, off + k * 3 + 1, none⟩ = some (ei xs[k].width) ∧ w.cell? ⟨b, off + k * 3 + 2, none⟩ = some (e64 xs[k].n) := by
  obtain ⟨b, off, hA, _, _, hc⟩ := h.at_ k hk
  exact ⟨b, off, hA, hc 0 (by omega), hc 1 (by omega), hc 2 (by omega)⟩


theorem wrap_u8_bound (n : Int) : 0 ≤ n % 256 ∧ n % 256 ≤ 255 := by omega
/-- A variable of three cells. -/
def Box3 (w : World) (b : Nat) (t : TypeId) (x y z : Value) : Prop := w.heap[b]? = some (.cells #[x, y, z] t (0, 0))
theorem Box3.new (w : World) (t : TypeId) (x y z : Value) : Box3 (w.alloc (.cells #[x, y, z] t)) w.heap.size t x y z := heap_alloc_new w _
theorem Box3.chg {M : Nat → Prop} {w w' : World} {b : Nat} {t : TypeId} {x y z : Value} (h : Box3 w b t x y z) (hc : Chg M w w') (hm : ¬ M b) : Box3 w' b t x y z := (hc.block b (Array.getElem?_eq_some_iff.1 h).1 hm).trans h
theorem Box3.later {w w' : World} {b : Nat} {t : TypeId} {x y z : Value} (h : Box3 w b t x y z) (hc : New w w') : Box3 w' b t x y z := (hc.block b (Array.getElem?_eq_some_iff.1 h).1).trans h
theorem Box3.lt {w : World} {b : Nat} {t : TypeId} {x y z : Value} (h : Box3 w b t x y z) : b < w.heap.size := (Array.getElem?_eq_some_iff.1 h).1
theorem Box3.cells {w : World} {b : Nat} {t : TypeId} {x y z : Value} (h : Box3 w b t x y z) : w.cell? ⟨b, 0, none⟩ = some x ∧ w.cell? ⟨b, 1, none⟩ = some y ∧ w.cell? ⟨b, 2, none⟩ = some z := by
  simp [World.cell?, show w.heap[b]? = _ from h]
theorem Rd.le_cap {α : Type} {enc : α → Value} {lo hi : Nat} {w : World} {A : Option Addr} {c : Nat} {xs : List α} (h : Rd enc lo hi w (.slice A xs.length c) xs) : xs.length ≤ c := by
  obtain ⟨A', c', e, h1, h2, h3⟩ := h
  injection e with _ _ e
  omega

set_option maxRecDepth 100000 in
set_option maxHeartbeats 4000000 in
theorem law_Puts (vx vl : Value) (xs : List U8) (ls : List Num) (w : World) (hx : Rd e8 0 w.heap.size w vx xs) (hl : RdC 3 encN 0 w.heap.size w vl ls) :
    Calls Try.prog 3 #[vx, vl] w fun e w' => e = .returned (.bool true) ∧ New w w' := by
  obtain ⟨A, c, rfl, h1, h2⟩ := hx.form
  obtain ⟨B, d, rfl, h3, h4⟩ := hl.form
  have HX := Lib.hid hx
  have HL := Lib.hid hl
  have hl9 : ls.length ≤ 9223372036854775807 := by omega
  obtain ⟨ys, hy⟩ : ∃ ys, ys = xs.take 60 := ⟨_, rfl⟩
  have HY60 := Lib.hid (show ys.length ≤ 60 by rw [hy, List.length_take]; omega)
  have hfew := fun W (hn : New w W) => ref_few 0 w.heap.size _ xs W (hx.new hn)
  rw [← hy] at hfew
  have HF := Lib.hid hfew
  clear hx hl hy hfew
  go_enter Try.func3, Try.ntmps3
  go_wp2_with fail
  refine (law_wakes w).mono ?_
  rintro e w1 ⟨rfl, hN⟩
  have HN1 := Lib.hid hN
  clear hN
  go_wp2_with fail
  refine (HF.out w1 HN1.out).mono ?_
  rintro e w2 ⟨A2, c2, rfl, hN, hO⟩
  have HN2 := Lib.hid (HN1.out.trans hN)
  have HB := Lib.hid (hO.rd (Nat.le_refl _))
  clear hN hO HN1
  go_wp2_with fail
  go_loopw [23] (fun i wr => ∃ k : Nat, k ≤ ls.length ∧ i = .int .i64 k ∧ Hid (New w2 wr)) (fun i _ => ls.length - (intOf i).toNat)
  case atStart => exact ⟨0, Nat.zero_le _, rfl, Lib.hid (new_refl _)⟩
  case round =>
    obtain ⟨k, hk, rfl, HN⟩ := hrel
    by_cases hlt : k < ls.length
    · by_cases hk12 : k = 12
      · have hk12' : ((k : Int) == 12) = true := by simp [hk12]
        obtain ⟨b, off, e, c0, c1, c2'⟩ := ((HL.out.new HN2.out).new HN.out).num k hlt
        subst e
        clear hk12
        go_wp2
        go_ret
        exact ⟨rfl, HN2.out.trans (HN.out.alloc _)⟩
      · have hk12' : ((k : Int) == 12) = false := by simp; omega
        obtain ⟨b, off, e, c0, c1, c2'⟩ := ((HL.out.new HN2.out).new HN.out).num k hlt
        subst e
        clear hk12
        generalize ls[k] = m at *
        have hBx := Box3.new wr 28 (.int .i64 m.at_.1) (.int .i64 m.width.1) (.int .u64 m.n.1)
        have HNa := Lib.hid (HN.out.alloc (.cells #[.int .i64 m.at_.1, .int .i64 m.width.1, .int .u64 m.n.1] 28))
        go_wp2_with fail
        obtain ⟨W3, hW3⟩ : ∃ W3, wr.alloc (.cells #[.int .i64 m.at_.1, .int .i64 m.width.1, .int .u64 m.n.1] 28) = W3 := ⟨_, rfl⟩
        rw [hW3] at hBx HNa ⊢
        obtain ⟨bx, hbx⟩ : ∃ bx, wr.heap.size = bx := ⟨_, rfl⟩
        rw [hbx] at hBx ⊢
        have HW2 := Lib.hid HN2.out.size
        have hys : ys.length ≤ 60 := HY60.out
        have hyc : ys.length ≤ c2 := HB.out.le_cap
        have HBX := Lib.hid hBx
        have hn0 := m.n.2.1
        have hn1 := Lib.hid m.n.2.2
        clear hW3 hbx c0 c1 c2' hBx HN
        refine (oc_Put _ _ _ ys m.width.1 m.n.1 _ (HB.out.new HNa.out) (by omega) hn0 hn1.out).mono ?_
        rintro e w4 ho
        by_cases hw : isWB m.width.1 = true
        · obtain ⟨wb1, wb2⟩ := (isWB_iff _).1 hw
          by_cases hf : m.n.1 < 256 ^ m.width.1.toNat
          · obtain ⟨px, hpx⟩ : ∃ px, px = ys ++ beI m.width.1.toNat m.n.1 := ⟨_, rfl⟩
            obtain ⟨hN, v, rfl, A5, c5, rfl, hO⟩ := ho.ok (a := px) (by rw [putI, laidI, if_pos hw, if_pos (.inr hf), hpx])
            have HT4 := Lib.hid hN
            have HPX := Lib.hid hO
            obtain ⟨c0, c1, c2'⟩ := (HBX.out.later hN).cells
            have HW := Lib.hid hw
            have HFT := Lib.hid hf
            have HPE := Lib.hid hpx
            have hpl : px.length ≤ 68 := by rw [hpx, List.length_append, beI_length]; omega
            clear hN ho hw hf hO hpx
            go_wp2_with (go_at_call 12; refine (ref_Width _ _).mono ?_; rw [HW.out]; rintro e w' ⟨rfl, rfl⟩)
            refine (ref_Fits m.width.1 m.n.1 _ (by omega) (by omega) hn0 hn1.out).mono ?_
            rw [decide_eq_true HFT.out]
            rintro e w' ⟨rfl, rfl⟩
            go_wp2_with fail
            refine (ref_Lay m.width.1 m.n.1 _ (by omega) (by omega) hn0 hn1.out).mono ?_
            rintro e w5 ⟨A6, c6, rfl, hN, hO⟩
            have HT5 := Lib.hid (HT4.out.trans hN)
            have HPX5 := Lib.hid (HPX.out.new hN)
            have HLA := Lib.hid (hO.rd (Nat.le_refl _))
            obtain ⟨c0, c1, c2'⟩ := (HBX.out.later HT5.out).cells
            clear hN hO HPX
            go_wp2_with fail
            refine (ref_Behind _ _ _ _ _ _ ys (beI m.width.1.toNat m.n.1) _ (HB.out.new (HNa.out.trans HT5.out)) HLA.out (by rw [beI_length]; omega)).mono ?_
            rw [← HPE.out]
            rintro e w6 ⟨A7, c7, rfl, hN, hO⟩
            have HT6 := Lib.hid (HT5.out.trans hN)
            have HPX := Lib.hid (HPX5.out.new hN)
            have HWT := Lib.hid (hO.rd (Nat.le_refl _))
            have HW6 : Hid (w6 = w6) := Lib.hid rfl
            obtain ⟨c0, c1, c2'⟩ := (HBX.out.later HT6.out).cells
            clear hN hO HPX5 HLA HT5 HT4
            go_wp2_with fail
            refine (oc_Get _ _ _ ys m.at_.1 m.width.1 _ (HB.out.new (HNa.out.trans HT6.out))).mono ?_
            rintro e w8 ho
            by_cases ga : 0 ≤ m.at_.1 ∧ m.at_.1 ≤ ys.length
            · obtain ⟨ga1, ga2⟩ := ga
              by_cases gs : m.width.1 ≤ ys.length - m.at_.1
              · obtain ⟨hN, v, rfl, rfl⟩ := ho.ok (a := numI ((ys.drop m.at_.1.toNat).take m.width.1.toNat)) (by rw [getI, if_pos HW.out, if_pos ⟨ga1, ga2⟩, if_pos gs])
                have HT8 := Lib.hid (HT6.out.trans hN)
                have hn68 := hN
                obtain ⟨c0, c1, c2'⟩ := (HBX.out.later HT8.out).cells
                obtain ⟨A8, hs8, hR8⟩ := slice_lh Try.underlying22 size_u8 (HB.out.new (HNa.out.trans HT8.out)) .i64 .i64 m.at_.1 (m.at_.1 + m.width.1) ga1 (by omega) (by omega)
                have HR8 := Lib.hid hR8
                have hz1 : (m.at_.1 + m.width.1).toNat - m.at_.1.toNat = m.width.1.toNat := by omega
                rw [hz1] at hs8 hR8
                have HR8 := Lib.hid hR8
                clear hN ho hR8
                go_wp2_with (first | (go_at_call 12; refine (ref_Width _ _).mono ?_; rw [HW.out]; rintro e w' ⟨rfl, rfl⟩) | (go_at_call 17; refine (ref_Number _ _ _ _ _ HR8.out).mono ?_; rintro e w' ⟨rfl, rfl⟩))
                have hW68 : New w6 w8 := hn68
                have HPX8 := Lib.hid (HPX.out.new hn68)
                go_wp2_with (go_at_call 18; refine (ref_Same _ _ _ _ _ _ px px _ (HPX8.out.rd (Nat.le_refl _)) (HWT.out.new hn68)).mono ?_; rw [decide_eq_true (rfl : px = px)]; rintro e w' ⟨rfl, rfl⟩)
                have HPL := Lib.hid hpl
                clear hpl HWT HPX hn68 hW68 HPE HFT HT6
                go_loopw [115, 16] (fun i _ W => ∃ (j : Nat) (zs : List U8), j ≤ px.length ∧ i = .int .i64 j ∧ Hid (zs.length = px.length) ∧ Hid (Own e8 5 W3.heap.size W (.slice A5 px.length c5) zs) ∧ Hid (Below W3.heap.size w8 W)) (fun i _ _ => px.length - (intOf i).toNat)
                case atStart => exact ⟨0, px, Nat.zero_le _, rfl, Lib.hid rfl, HPX8, Lib.hid (Below.refl _ _)⟩
                case round =>
                  obtain ⟨j, zs, hj, rfl, HZL, HZO, HZB⟩ := hrel
                  by_cases hjl : j < px.length
                  · obtain ⟨g, rfl, hlo, hgl, hcell, hfr, hst⟩ := HZO.out.store (HZL.out).symm j (by rw [HZL.out]; exact hjl)
                    have hpl : px.length ≤ 68 := HPL.out
                    have hjz : j < zs.length := by rw [HZL.out]; exact hjl
                    have HST := Lib.hid (hst ⟨(zs[j].1 + 1) % 256, wrap_u8_bound _⟩)
                    have HLO := Lib.hid hlo
                    clear hst hlo
                    go_wp2
                    go_roundw
                    case rel => exact ⟨j + 1, zs.set j ⟨(zs[j].1 + 1) % 256, wrap_u8_bound _⟩, by omega, by go_num, Lib.hid (by rw [List.length_set]; exact HZL.out), HST, Lib.hid (HZB.out.setCell (p := ⟨g, j, none⟩) HLO.out _)⟩
                    case measure => simp [intOf]; omega
                  · have HT7 : Hid (New W3 wr) := Lib.hid (Below.trans HT8.out HZB.out)
                    clear HZL HZO HZB HT8 HPX8
                    go_wp2_with fail
                    refine (HF.out _ (HN2.out.trans (HNa.out.trans HT7.out))).mono ?_
                    rintro e w9 ⟨A9, c9, rfl, hN, hO⟩
                    have HT9 := Lib.hid (HT7.out.trans hN)
                    have HO9 := Lib.hid (hO.rd (Nat.le_refl _))
                    clear hN hO HT7
                    go_wp2_with fail
                    refine (oc_eq8 _ _ _ _ _ _ ys ys _ (HB.out.new (HNa.out.trans HT9.out)) HO9.out).mono ?_
                    rw [decide_eq_true (rfl : ys = ys)]
                    rintro e w10 ⟨rfl, nd, hd⟩
                    have HN10 := Lib.hid (show New w2 w10 by rw [hd]; exact (HNa.out.trans HT9.out).drewN _)
                    clear hd HT9 HO9
                    go_wp2
                    go_roundw
                    case rel => exact ⟨k + 1, by omega, by go_num, HN10⟩
                    case measure => simp [intOf]; omega
              · obtain ⟨hN, rfl⟩ := ho.bad (x := 110) (by rw [getI, if_pos HW.out, if_pos ⟨ga1, ga2⟩, if_neg gs])
                have HT8 := Lib.hid (HT6.out.trans hN)
                have hn68 := hN
                obtain ⟨c0, c1, c2'⟩ := (HBX.out.later HT8.out).cells
                clear hN ho
                go_wp2_with (go_at_call 12; refine (ref_Width _ _).mono ?_; rw [HW.out]; rintro e w' ⟨rfl, rfl⟩)
                have hW68 : New w6 w8 := hn68
                have HPX8 := Lib.hid (HPX.out.new hn68)
                go_wp2_with (go_at_call 18; refine (ref_Same _ _ _ _ _ _ px px _ (HPX8.out.rd (Nat.le_refl _)) (HWT.out.new hn68)).mono ?_; rw [decide_eq_true (rfl : px = px)]; rintro e w' ⟨rfl, rfl⟩)
                have HPL := Lib.hid hpl
                clear hpl HWT HPX hn68 hW68 HPE HFT HT6
                go_loopw [115, 16] (fun i _ W => ∃ (j : Nat) (zs : List U8), j ≤ px.length ∧ i = .int .i64 j ∧ Hid (zs.length = px.length) ∧ Hid (Own e8 5 W3.heap.size W (.slice A5 px.length c5) zs) ∧ Hid (Below W3.heap.size w8 W)) (fun i _ _ => px.length - (intOf i).toNat)
                case atStart => exact ⟨0, px, Nat.zero_le _, rfl, Lib.hid rfl, HPX8, Lib.hid (Below.refl _ _)⟩
                case round =>
                  obtain ⟨j, zs, hj, rfl, HZL, HZO, HZB⟩ := hrel
                  by_cases hjl : j < px.length
                  · obtain ⟨g, rfl, hlo, hgl, hcell, hfr, hst⟩ := HZO.out.store (HZL.out).symm j (by rw [HZL.out]; exact hjl)
                    have hpl : px.length ≤ 68 := HPL.out
                    have hjz : j < zs.length := by rw [HZL.out]; exact hjl
                    have HST := Lib.hid (hst ⟨(zs[j].1 + 1) % 256, wrap_u8_bound _⟩)
                    have HLO := Lib.hid hlo
                    clear hst hlo
                    go_wp2
                    go_roundw
                    case rel => exact ⟨j + 1, zs.set j ⟨(zs[j].1 + 1) % 256, wrap_u8_bound _⟩, by omega, by go_num, Lib.hid (by rw [List.length_set]; exact HZL.out), HST, Lib.hid (HZB.out.setCell (p := ⟨g, j, none⟩) HLO.out _)⟩
                    case measure => simp [intOf]; omega
                  · have HT7 : Hid (New W3 wr) := Lib.hid (Below.trans HT8.out HZB.out)
                    clear HZL HZO HZB HT8 HPX8
                    go_wp2_with fail
                    refine (HF.out _ (HN2.out.trans (HNa.out.trans HT7.out))).mono ?_
                    rintro e w9 ⟨A9, c9, rfl, hN, hO⟩
                    have HT9 := Lib.hid (HT7.out.trans hN)
                    have HO9 := Lib.hid (hO.rd (Nat.le_refl _))
                    clear hN hO HT7
                    go_wp2_with fail
                    refine (oc_eq8 _ _ _ _ _ _ ys ys _ (HB.out.new (HNa.out.trans HT9.out)) HO9.out).mono ?_
                    rw [decide_eq_true (rfl : ys = ys)]
                    rintro e w10 ⟨rfl, nd, hd⟩
                    have HN10 := Lib.hid (show New w2 w10 by rw [hd]; exact (HNa.out.trans HT9.out).drewN _)
                    clear hd HT9 HO9
                    go_wp2
                    go_roundw
                    case rel => exact ⟨k + 1, by omega, by go_num, HN10⟩
                    case measure => simp [intOf]; omega
            · obtain ⟨hN, rfl⟩ := ho.bad (x := 2) (by rw [getI, if_pos HW.out, if_neg ga])
              have HT8 := Lib.hid (HT6.out.trans hN)
              have hn68 := hN
              obtain ⟨c0, c1, c2'⟩ := (HBX.out.later HT8.out).cells
              clear hN ho
              by_cases gb : 0 ≤ m.at_.1
              · have gc : decide (m.at_.1 ≤ (ys.length : Int)) = false := by simp; omega
                go_wp2_with (go_at_call 12; refine (ref_Width _ _).mono ?_; rw [HW.out]; rintro e w' ⟨rfl, rfl⟩)
                have hW68 : New w6 w8 := hn68
                have HPX8 := Lib.hid (HPX.out.new hn68)
                go_wp2_with (go_at_call 18; refine (ref_Same _ _ _ _ _ _ px px _ (HPX8.out.rd (Nat.le_refl _)) (HWT.out.new hn68)).mono ?_; rw [decide_eq_true (rfl : px = px)]; rintro e w' ⟨rfl, rfl⟩)
                have HPL := Lib.hid hpl
                clear hpl HWT HPX hn68 hW68 HPE HFT HT6
                go_loopw [115, 16] (fun i _ W => ∃ (j : Nat) (zs : List U8), j ≤ px.length ∧ i = .int .i64 j ∧ Hid (zs.length = px.length) ∧ Hid (Own e8 5 W3.heap.size W (.slice A5 px.length c5) zs) ∧ Hid (Below W3.heap.size w8 W)) (fun i _ _ => px.length - (intOf i).toNat)
                case atStart => exact ⟨0, px, Nat.zero_le _, rfl, Lib.hid rfl, HPX8, Lib.hid (Below.refl _ _)⟩
                case round =>
                  obtain ⟨j, zs, hj, rfl, HZL, HZO, HZB⟩ := hrel
                  by_cases hjl : j < px.length
                  · obtain ⟨g, rfl, hlo, hgl, hcell, hfr, hst⟩ := HZO.out.store (HZL.out).symm j (by rw [HZL.out]; exact hjl)
                    have hpl : px.length ≤ 68 := HPL.out
                    have hjz : j < zs.length := by rw [HZL.out]; exact hjl
                    have HST := Lib.hid (hst ⟨(zs[j].1 + 1) % 256, wrap_u8_bound _⟩)
                    have HLO := Lib.hid hlo
                    clear hst hlo
                    go_wp2
                    go_roundw
                    case rel => exact ⟨j + 1, zs.set j ⟨(zs[j].1 + 1) % 256, wrap_u8_bound _⟩, by omega, by go_num, Lib.hid (by rw [List.length_set]; exact HZL.out), HST, Lib.hid (HZB.out.setCell (p := ⟨g, j, none⟩) HLO.out _)⟩
                    case measure => simp [intOf]; omega
                  · have HT7 : Hid (New W3 wr) := Lib.hid (Below.trans HT8.out HZB.out)
                    clear HZL HZO HZB HT8 HPX8
                    go_wp2_with fail
                    refine (HF.out _ (HN2.out.trans (HNa.out.trans HT7.out))).mono ?_
                    rintro e w9 ⟨A9, c9, rfl, hN, hO⟩
                    have HT9 := Lib.hid (HT7.out.trans hN)
                    have HO9 := Lib.hid (hO.rd (Nat.le_refl _))
                    clear hN hO HT7
                    go_wp2_with fail
                    refine (oc_eq8 _ _ _ _ _ _ ys ys _ (HB.out.new (HNa.out.trans HT9.out)) HO9.out).mono ?_
                    rw [decide_eq_true (rfl : ys = ys)]
                    rintro e w10 ⟨rfl, nd, hd⟩
                    have HN10 := Lib.hid (show New w2 w10 by rw [hd]; exact (HNa.out.trans HT9.out).drewN _)
                    clear hd HT9 HO9
                    go_wp2
                    go_roundw
                    case rel => exact ⟨k + 1, by omega, by go_num, HN10⟩
                    case measure => simp [intOf]; omega
              · have gc : decide (0 ≤ m.at_.1) = false := by simp; omega
                go_wp2_with (go_at_call 12; refine (ref_Width _ _).mono ?_; rw [HW.out]; rintro e w' ⟨rfl, rfl⟩)
                have hW68 : New w6 w8 := hn68
                have HPX8 := Lib.hid (HPX.out.new hn68)
                go_wp2_with (go_at_call 18; refine (ref_Same _ _ _ _ _ _ px px _ (HPX8.out.rd (Nat.le_refl _)) (HWT.out.new hn68)).mono ?_; rw [decide_eq_true (rfl : px = px)]; rintro e w' ⟨rfl, rfl⟩)
                have HPL := Lib.hid hpl
                clear hpl HWT HPX hn68 hW68 HPE HFT HT6
                go_loopw [115, 16] (fun i _ W => ∃ (j : Nat) (zs : List U8), j ≤ px.length ∧ i = .int .i64 j ∧ Hid (zs.length = px.length) ∧ Hid (Own e8 5 W3.heap.size W (.slice A5 px.length c5) zs) ∧ Hid (Below W3.heap.size w8 W)) (fun i _ _ => px.length - (intOf i).toNat)
                case atStart => exact ⟨0, px, Nat.zero_le _, rfl, Lib.hid rfl, HPX8, Lib.hid (Below.refl _ _)⟩
                case round =>
                  obtain ⟨j, zs, hj, rfl, HZL, HZO, HZB⟩ := hrel
                  by_cases hjl : j < px.length
                  · obtain ⟨g, rfl, hlo, hgl, hcell, hfr, hst⟩ := HZO.out.store (HZL.out).symm j (by rw [HZL.out]; exact hjl)
                    have hpl : px.length ≤ 68 := HPL.out
                    have hjz : j < zs.length := by rw [HZL.out]; exact hjl
                    have HST := Lib.hid (hst ⟨(zs[j].1 + 1) % 256, wrap_u8_bound _⟩)
                    have HLO := Lib.hid hlo
                    clear hst hlo
                    go_wp2
                    go_roundw
                    case rel => exact ⟨j + 1, zs.set j ⟨(zs[j].1 + 1) % 256, wrap_u8_bound _⟩, by omega, by go_num, Lib.hid (by rw [List.length_set]; exact HZL.out), HST, Lib.hid (HZB.out.setCell (p := ⟨g, j, none⟩) HLO.out _)⟩
                    case measure => simp [intOf]; omega
                  · have HT7 : Hid (New W3 wr) := Lib.hid (Below.trans HT8.out HZB.out)
                    clear HZL HZO HZB HT8 HPX8
                    go_wp2_with fail
                    refine (HF.out _ (HN2.out.trans (HNa.out.trans HT7.out))).mono ?_
                    rintro e w9 ⟨A9, c9, rfl, hN, hO⟩
                    have HT9 := Lib.hid (HT7.out.trans hN)
                    have HO9 := Lib.hid (hO.rd (Nat.le_refl _))
                    clear hN hO HT7
                    go_wp2_with fail
                    refine (oc_eq8 _ _ _ _ _ _ ys ys _ (HB.out.new (HNa.out.trans HT9.out)) HO9.out).mono ?_
                    rw [decide_eq_true (rfl : ys = ys)]
                    rintro e w10 ⟨rfl, nd, hd⟩
                    have HN10 := Lib.hid (show New w2 w10 by rw [hd]; exact (HNa.out.trans HT9.out).drewN _)
                    clear hd HT9 HO9
                    go_wp2
                    go_roundw
                    case rel => exact ⟨k + 1, by omega, by go_num, HN10⟩
                    case measure => simp [intOf]; omega
          · obtain ⟨hN, rfl⟩ := ho.bad (x := 112) (by rw [putI, laidI, if_pos hw, if_neg (by
              rintro (h | h)
              · rw [h] at hf
                have := hn1.out
                exact hf (by
                  have : (256 : Int) ^ (8 : Int).toNat = 18446744073709551616 := by decide
                  omega)
              · exact hf h)])
            have HT4 := Lib.hid hN
            obtain ⟨c0, c1, c2'⟩ := (HBX.out.later hN).cells
            have HW := Lib.hid hw
            have HFT := Lib.hid hf
            clear hN ho hw hf
            go_wp2_with (go_at_call 12; refine (ref_Width _ _).mono ?_; rw [HW.out]; rintro e w' ⟨rfl, rfl⟩)
            refine (ref_Fits m.width.1 m.n.1 _ (by omega) (by omega) hn0 hn1.out).mono ?_
            rw [decide_eq_false (by have := HFT.out; omega)]
            rintro e w' ⟨rfl, rfl⟩
            go_wp2_with fail
            refine (oc_Get _ _ _ ys m.at_.1 m.width.1 _ (HB.out.new (HNa.out.trans HT4.out))).mono ?_
            rintro e w8 ho
            by_cases ga : 0 ≤ m.at_.1 ∧ m.at_.1 ≤ ys.length
            · obtain ⟨ga1, ga2⟩ := ga
              by_cases gs : m.width.1 ≤ ys.length - m.at_.1
              · obtain ⟨hN, v, rfl, rfl⟩ := ho.ok (a := numI ((ys.drop m.at_.1.toNat).take m.width.1.toNat)) (by rw [getI, if_pos HW.out, if_pos ⟨ga1, ga2⟩, if_pos gs])
                have HT8 := Lib.hid (HT4.out.trans hN)
                have hn68 := hN
                obtain ⟨c0, c1, c2'⟩ := (HBX.out.later HT8.out).cells
                obtain ⟨A8, hs8, hR8⟩ := slice_lh Try.underlying22 size_u8 (HB.out.new (HNa.out.trans HT8.out)) .i64 .i64 m.at_.1 (m.at_.1 + m.width.1) ga1 (by omega) (by omega)
                have HR8 := Lib.hid hR8
                have hz1 : (m.at_.1 + m.width.1).toNat - m.at_.1.toNat = m.width.1.toNat := by omega
                rw [hz1] at hs8 hR8
                have HR8 := Lib.hid hR8
                clear hN ho hR8
                go_wp2_with (first | (go_at_call 12; refine (ref_Width _ _).mono ?_; rw [HW.out]; rintro e w' ⟨rfl, rfl⟩) | (go_at_call 17; refine (ref_Number _ _ _ _ _ HR8.out).mono ?_; rintro e w' ⟨rfl, rfl⟩))
                go_wp2_with (go_at_call 18; refine (ref_Same 0 0 0 0 _ _ [] [] _ (Rd.nil _ _ _ _) (Rd.nil _ _ _ _)).mono ?_; rw [decide_eq_true (rfl : ([] : List U8) = [])]; rintro e w' ⟨rfl, rfl⟩)
                refine wp_loop_rounds 1 ?_
                rw [rounds_succ]
                go_wp2_with fail
                refine (HF.out _ (HN2.out.trans (HNa.out.trans HT8.out))).mono ?_
                rintro e w9 ⟨A9, c9, rfl, hN, hO⟩
                have HT9 := Lib.hid (HT8.out.trans hN)
                have HO9 := Lib.hid (hO.rd (Nat.le_refl _))
                clear hN hO HT8
                go_wp2_with fail
                refine (oc_eq8 _ _ _ _ _ _ ys ys _ (HB.out.new (HNa.out.trans HT9.out)) HO9.out).mono ?_
                rw [decide_eq_true (rfl : ys = ys)]
                rintro e w10 ⟨rfl, nd, hd⟩
                have HN10 := Lib.hid (show New w2 w10 by rw [hd]; exact (HNa.out.trans HT9.out).drewN _)
                clear hd HT9 HO9
                go_wp2
                go_roundw
                case rel => exact ⟨k + 1, by omega, by go_num, HN10⟩
                case measure => simp [intOf]; omega
              · obtain ⟨hN, rfl⟩ := ho.bad (x := 110) (by rw [getI, if_pos HW.out, if_pos ⟨ga1, ga2⟩, if_neg gs])
                have HT8 := Lib.hid (HT4.out.trans hN)
                have hn68 := hN
                obtain ⟨c0, c1, c2'⟩ := (HBX.out.later HT8.out).cells
                clear hN ho
                go_wp2_with (go_at_call 12; refine (ref_Width _ _).mono ?_; rw [HW.out]; rintro e w' ⟨rfl, rfl⟩)
                go_wp2_with (go_at_call 18; refine (ref_Same 0 0 0 0 _ _ [] [] _ (Rd.nil _ _ _ _) (Rd.nil _ _ _ _)).mono ?_; rw [decide_eq_true (rfl : ([] : List U8) = [])]; rintro e w' ⟨rfl, rfl⟩)
                refine wp_loop_rounds 1 ?_
                rw [rounds_succ]
                go_wp2_with fail
                refine (HF.out _ (HN2.out.trans (HNa.out.trans HT8.out))).mono ?_
                rintro e w9 ⟨A9, c9, rfl, hN, hO⟩
                have HT9 := Lib.hid (HT8.out.trans hN)
                have HO9 := Lib.hid (hO.rd (Nat.le_refl _))
                clear hN hO HT8
                go_wp2_with fail
                refine (oc_eq8 _ _ _ _ _ _ ys ys _ (HB.out.new (HNa.out.trans HT9.out)) HO9.out).mono ?_
                rw [decide_eq_true (rfl : ys = ys)]
                rintro e w10 ⟨rfl, nd, hd⟩
                have HN10 := Lib.hid (show New w2 w10 by rw [hd]; exact (HNa.out.trans HT9.out).drewN _)
                clear hd HT9 HO9
                go_wp2
                go_roundw
                case rel => exact ⟨k + 1, by omega, by go_num, HN10⟩
                case measure => simp [intOf]; omega
            · obtain ⟨hN, rfl⟩ := ho.bad (x := 2) (by rw [getI, if_pos HW.out, if_neg ga])
              have HT8 := Lib.hid (HT4.out.trans hN)
              have hn68 := hN
              obtain ⟨c0, c1, c2'⟩ := (HBX.out.later HT8.out).cells
              clear hN ho
              by_cases gb : 0 ≤ m.at_.1
              · have gc : decide (m.at_.1 ≤ (ys.length : Int)) = false := by simp; omega
                go_wp2_with (go_at_call 12; refine (ref_Width _ _).mono ?_; rw [HW.out]; rintro e w' ⟨rfl, rfl⟩)
                go_wp2_with (go_at_call 18; refine (ref_Same 0 0 0 0 _ _ [] [] _ (Rd.nil _ _ _ _) (Rd.nil _ _ _ _)).mono ?_; rw [decide_eq_true (rfl : ([] : List U8) = [])]; rintro e w' ⟨rfl, rfl⟩)
                refine wp_loop_rounds 1 ?_
                rw [rounds_succ]
                go_wp2_with fail
                refine (HF.out _ (HN2.out.trans (HNa.out.trans HT8.out))).mono ?_
                rintro e w9 ⟨A9, c9, rfl, hN, hO⟩
                have HT9 := Lib.hid (HT8.out.trans hN)
                have HO9 := Lib.hid (hO.rd (Nat.le_refl _))
                clear hN hO HT8
                go_wp2_with fail
                refine (oc_eq8 _ _ _ _ _ _ ys ys _ (HB.out.new (HNa.out.trans HT9.out)) HO9.out).mono ?_
                rw [decide_eq_true (rfl : ys = ys)]
                rintro e w10 ⟨rfl, nd, hd⟩
                have HN10 := Lib.hid (show New w2 w10 by rw [hd]; exact (HNa.out.trans HT9.out).drewN _)
                clear hd HT9 HO9
                go_wp2
                go_roundw
                case rel => exact ⟨k + 1, by omega, by go_num, HN10⟩
                case measure => simp [intOf]; omega
              · have gc : decide (0 ≤ m.at_.1) = false := by simp; omega
                go_wp2_with (go_at_call 12; refine (ref_Width _ _).mono ?_; rw [HW.out]; rintro e w' ⟨rfl, rfl⟩)
                go_wp2_with (go_at_call 18; refine (ref_Same 0 0 0 0 _ _ [] [] _ (Rd.nil _ _ _ _) (Rd.nil _ _ _ _)).mono ?_; rw [decide_eq_true (rfl : ([] : List U8) = [])]; rintro e w' ⟨rfl, rfl⟩)
                refine wp_loop_rounds 1 ?_
                rw [rounds_succ]
                go_wp2_with fail
                refine (HF.out _ (HN2.out.trans (HNa.out.trans HT8.out))).mono ?_
                rintro e w9 ⟨A9, c9, rfl, hN, hO⟩
                have HT9 := Lib.hid (HT8.out.trans hN)
                have HO9 := Lib.hid (hO.rd (Nat.le_refl _))
                clear hN hO HT8
                go_wp2_with fail
                refine (oc_eq8 _ _ _ _ _ _ ys ys _ (HB.out.new (HNa.out.trans HT9.out)) HO9.out).mono ?_
                rw [decide_eq_true (rfl : ys = ys)]
                rintro e w10 ⟨rfl, nd, hd⟩
                have HN10 := Lib.hid (show New w2 w10 by rw [hd]; exact (HNa.out.trans HT9.out).drewN _)
                clear hd HT9 HO9
                go_wp2
                go_roundw
                case rel => exact ⟨k + 1, by omega, by go_num, HN10⟩
                case measure => simp [intOf]; omega
        · obtain ⟨hN, rfl⟩ := ho.bad (x := 111) (by rw [putI, laidI, if_neg hw])
          have HT4 := Lib.hid hN
          obtain ⟨c0, c1, c2'⟩ := (HBX.out.later hN).cells
          have HW := Lib.hid hw
          clear hN ho hw
          go_wp2_with (go_at_call 12; refine (ref_Width _ _).mono ?_; rw [show isWB m.width.1 = false by simpa using HW.out]; rintro e w' ⟨rfl, rfl⟩)
          refine (oc_Get _ _ _ ys m.at_.1 m.width.1 _ (HB.out.new (HNa.out.trans HT4.out))).mono ?_
          rintro e w8 ho
          obtain ⟨hN, rfl⟩ := ho.bad (x := 111) (by rw [getI, if_neg HW.out])
          have HT8 := Lib.hid (HT4.out.trans hN)
          obtain ⟨c0, c1, c2'⟩ := (HBX.out.later HT8.out).cells
          clear hN ho
          go_wp2_with (go_at_call 12; refine (ref_Width _ _).mono ?_; rw [show isWB m.width.1 = false by simpa using HW.out]; rintro e w' ⟨rfl, rfl⟩)
          go_wp2_with (go_at_call 18; refine (ref_Same 0 0 0 0 _ _ [] [] _ (Rd.nil _ _ _ _) (Rd.nil _ _ _ _)).mono ?_; rw [decide_eq_true (rfl : ([] : List U8) = [])]; rintro e w' ⟨rfl, rfl⟩)
          refine wp_loop_rounds 1 ?_
          rw [rounds_succ]
          go_wp2_with fail
          refine (HF.out _ (HN2.out.trans (HNa.out.trans HT8.out))).mono ?_
          rintro e w9 ⟨A9, c9, rfl, hN, hO⟩
          have HT9 := Lib.hid (HT8.out.trans hN)
          have HO9 := Lib.hid (hO.rd (Nat.le_refl _))
          clear hN hO HT8
          go_wp2_with fail
          refine (oc_eq8 _ _ _ _ _ _ ys ys _ (HB.out.new (HNa.out.trans HT9.out)) HO9.out).mono ?_
          rw [decide_eq_true (rfl : ys = ys)]
          rintro e w10 ⟨rfl, nd, hd⟩
          have HN10 := Lib.hid (show New w2 w10 by rw [hd]; exact (HNa.out.trans HT9.out).drewN _)
          clear hd HT9 HO9
          go_wp2
          go_roundw
          case rel => exact ⟨k + 1, by omega, by go_num, HN10⟩
          case measure => simp [intOf]; omega
    · go_wp2
      go_ret
      exact ⟨rfl, HN2.out.trans HN.out⟩

theorem numerals_of_trod {H : Type} {henc : TypeId × Value → H} {W : World} {base : Nat} {v : Value} {d : DataW H} {p : List MemPlace} (hv : Value.okWide Try.prog W .any base 23 v)
    (h : DataW.Trod henc Try.prog W 0 (fun _ => true) true 23 v d p) : ∃ xs : List Num, RdC 3 encN 0 W.heap.size W v xs := by
  refine rdc_of_trod (by omega) Try.underlying23 (by kernel_rfl) ?_ hv h
  intro n cs y hy
  obtain ⟨y0, y1, y2, m, _, hl, e0, e1, e2⟩ := Deep.trod_struct3 Try.underlying28 hy
  have hc : Try.prog.cellsOf 28 = 3 := by kernel_rfl
  have hci : Try.prog.cellsOf 3 = 1 := by kernel_rfl
  have hcu : Try.prog.cellsOf 26 = 1 := by kernel_rfl
  rw [hc] at hl
  simp only [hci, hcu] at e0 e1 e2
  match cs, hl with
  | [a, b, c], _ =>
    obtain ⟨n0, h0, _, w0⟩ := DataW.trod_int Try.underlying3 e0
    obtain ⟨n1, h1, _, w1⟩ := DataW.trod_int Try.underlying3 e1
    obtain ⟨n2, h2, _, w2⟩ := DataW.trod_int Try.underlying26 e2
    obtain ⟨x0, f0⟩ := wf_int n0 w0
    obtain ⟨x1, f1⟩ := wf_int n1 w1
    obtain ⟨x2, f2⟩ := wf_u64 n2 w2
    simp at h0 h1 h2
    exact ⟨⟨x0, x1, x2⟩, by simp only [encN]; rw [f0, f1, f2, h0, h1, h2]⟩
end Go.Proofs.Ytcbijmlkkdpheaa
