/- The law OctetBack: what is laid is split so, and read so; bytes that are split, laid again, are the same. -/
import Derived.Test.YtcbijmlkkdpheaaPe
set_option linter.unusedVariables false
set_option linter.unusedSimpArgs false
namespace Go.Proofs.Ytcbijmlkkdpheaa
open Go.RowKit

theorem size_u64 : (Try.prog.info? 26).map (·.size) = some 1 := by kernel_rfl
theorem size_int : (Try.prog.info? 3).map (·.size) = some 1 := by kernel_rfl

theorem ite_min12 (n m : Nat) (hm : m = min n 12) : (if (12 : Int) < (n : Int) then (12 : Int) else (n : Int)) = (m : Int) := by
  subst hm
  split <;> omega
theorem Rd.cut {α : Type} {enc : α → Value} {lo hi : Nat} {w : World} {A : Option Addr} {c : Nat} {xs : List α} (h : Rd enc lo hi w (.slice A xs.length c) xs) (K : Nat) : ∃ ys : List α, ys = xs.take K ∧ ys.length = min xs.length K ∧ Rd enc lo hi w (.slice A ys.length c) ys := by
  have hyl : (xs.take K).length = min xs.length K := by rw [List.length_take, Nat.min_comm]
  obtain ⟨A', c', e, h1, h2, h3⟩ := h
  injection e with e1 e2 e3
  subst e1 e3
  refine ⟨xs.take K, rfl, hyl, A, c, rfl, by omega, h2, ?_⟩
  rcases h3 with h3 | ⟨b, off, rfl, hl, hh, hs, hc⟩
  · exact .inl (by rw [h3]; simp)
  · exact .inr ⟨b, off, rfl, hl, hh, hs, fun i hi => by rw [List.getElem_take]; exact hc i (by omega)⟩


set_option maxRecDepth 100000 in
set_option maxHeartbeats 4000000 in
theorem law_Back (vx vy vz : Value) (xs : List I64) (ys : List U64) (zs : List U8) (w : World) (hx : Rd ei 0 w.heap.size w vx xs) (hy : Rd e64 0 w.heap.size w vy ys) (hz : Rd e8 0 w.heap.size w vz zs) :
    Calls Try.prog 6 #[vx, vy, vz] w fun e w' => e = .returned (.bool true) ∧ New w w' := by
  obtain ⟨A, c, rfl, h1, h2⟩ := hx.form
  obtain ⟨B, d, rfl, h3, h4⟩ := hy.form
  obtain ⟨C, f, rfl, h5, h6⟩ := hz.form
  obtain ⟨ws, hws, hwl, hRw⟩ := hx.cut 12
  obtain ⟨ns, hns, hnl, hRn⟩ := hy.cut 12
  have hm1 := ite_min12 xs.length ws.length hwl
  have hm2 := ite_min12 ys.length ns.length hnl
  have HM := Lib.hid (And.intro hm1 hm2)
  have HW := Lib.hid hRw
  have HN := Lib.hid hRn
  have HZ := Lib.hid hz
  have HWo := HW
  have HMo := HN
  have HZo := HZ
  have HWL := Lib.hid (show ws.length ≤ 12 by omega)
  have HNL := Lib.hid (show ns.length ≤ 12 by omega)
  clear hx hy hz hRw hRn hws hns hwl hnl hm1 hm2
  go_enter Try.func6, Try.ntmps6
  go_wp2_with fail
  refine (law_wakes w).mono ?_
  rintro e w1 ⟨rfl, hN⟩
  have HN1 := Lib.hid hN
  have HW1 := Lib.hid (HW.out.new hN)
  have HM1 := Lib.hid (HN.out.new hN)
  have HZ1 := Lib.hid (HZ.out.new hN)
  clear hN HW HN HZ
  go_wp2_with fail
  go_quiet (fail)
  obtain ⟨hm1, hm2⟩ := HM.out
  simp only [hm1, hm2, Int.toNat_natCast]
  obtain ⟨W2, hW2⟩ : ∃ W2, w1.drewN nq = W2 := ⟨_, rfl⟩
  rw [hW2]
  have hn2 : New w1 W2 := by rw [← hW2]; exact (new_refl w1).drewN nq
  have HN2 := Lib.hid (HN1.out.trans hn2)
  have HW2 := Lib.hid (HW1.out.new hn2)
  have HM2 := Lib.hid (HM1.out.new hn2)
  have HZ2 := Lib.hid (HZ1.out.new hn2)
  have HS2 := Lib.hid HN2.out.size
  clear hn2 hW2 HN1 HW1 HM1 HZ1 hm1 hm2 HM
  go_wp2_with fail
  refine (oc_Lay _ _ _ _ _ _ ws ns _ HW2.out HM2.out (by have := HWL.out; omega)).mono ?_
  rintro e w3 ho
  cases hL : layI ws ns with
  | no x =>
    obtain ⟨hN, rfl⟩ := ho.bad hL
    have hx0 := layI_no hL
    have HN3 := Lib.hid (HN2.out.trans hN)
    have HW3 := Lib.hid (HW2.out.new hN)
    have HM3 := Lib.hid (HM2.out.new hN)
    have HZ3 := Lib.hid (HZ2.out.new hN)
    have HS3 := Lib.hid HN3.out.size
    clear hN ho hL HN2 HW2 HM2 HZ2 HS2
    go_wp2_with fail
    refine (oc_Split _ _ _ _ _ _ ws zs _ HW3.out HZ3.out (by have := HWL.out; omega) ⟨HS3.out, HS3.out⟩).mono ?_
    rintro e wt ho
    cases hS : splitI ws zs with
    | no x =>
      obtain ⟨hN, rfl⟩ := ho.bad hS
      have hx0 := splitI_no hS
      have HNt := Lib.hid (HN3.out.trans hN)
      clear hN ho hS HW3 HZ3 HM3 HN3 HS3
      go_wp2
      go_ret
      exact ⟨rfl, HNt.out⟩
    | ok ss =>
      obtain ⟨hN, v, rfl, A5, c5, rfl, hO⟩ := ho.ok hS
      have HLY := Lib.hid (lay_of_split hS)
      have HNt := Lib.hid (HN3.out.trans hN)
      have HWt := Lib.hid (HW3.out.new hN)
      have HZt := Lib.hid (HZ3.out.new hN)
      have HSt := Lib.hid (hO.rd (Nat.le_refl _))
      clear hN ho hS hO HW3 HZ3 HM3 HN3 HS3
      go_wp2_with fail
      refine (oc_Lay _ _ _ _ _ _ ws ss _ HWt.out HSt.out (by have := HWL.out; omega)).mono ?_
      rintro e wu ho
      obtain ⟨hN, v, rfl, A6, c6, rfl, hO⟩ := ho.ok HLY.out
      have HNu := Lib.hid (HNt.out.trans hN)
      have HZu := Lib.hid (HZt.out.new hN)
      have HBu := Lib.hid (hO.rd (Nat.le_refl _))
      clear hN ho hO HWt HZt HNt HSt HLY
      go_wp2_with fail
      refine (oc_eq8 _ _ _ _ _ _ zs zs _ HBu.out HZu.out).mono ?_
      rw [decide_eq_true (rfl : zs = zs)]
      rintro e wv ⟨rfl, nd, hd⟩
      have HNv := Lib.hid (show New w wv by rw [hd]; exact HNu.out.drewN _)
      clear hd HNu HZu HBu
      go_wp2
      go_ret
      exact ⟨rfl, HNv.out⟩
  | ok bs =>
    obtain ⟨hN, v, rfl, A3, c3, rfl, hO⟩ := ho.ok hL
    obtain ⟨l1, l2, l3, l4, l5⟩ := split_of_lay hL
    have HSP := Lib.hid l1
    have HSI := Lib.hid l2
    have HAL := Lib.hid l3
    have HSW := Lib.hid l4
    have HNU := Lib.hid l5
    have HBL := Lib.hid (show bs.length ≤ 96 by have := (sumW_bound ws l3).2; have := HWL.out; omega)
    have HN3 := Lib.hid (HN2.out.trans hN)
    have HW3 := Lib.hid (HW2.out.new hN)
    have HM3 := Lib.hid (HM2.out.new hN)
    have HZ3 := Lib.hid (HZ2.out.new hN)
    have HB3 := Lib.hid (hO.rd (Nat.le_refl _))
    have HS3 := Lib.hid HN3.out.size
    clear hN ho hO hL l1 l2 l3 l4 l5 HN2 HW2 HM2 HZ2 HS2
    go_wp2_with fail
    refine (oc_Split _ _ _ _ _ _ ws bs _ HW3.out HB3.out (by have := HWL.out; omega) ⟨HS3.out, Nat.le_refl _⟩).mono ?_
    rintro e w4 ho
    obtain ⟨hN, v, rfl, A4, c4, rfl, hO⟩ := ho.ok HSP.out
    have HN4 := Lib.hid (HN3.out.trans hN)
    have HW4 := Lib.hid (HW3.out.new hN)
    have HM4 := Lib.hid (HM3.out.new hN)
    have HZ4 := Lib.hid (HZ3.out.new hN)
    have HB4 := Lib.hid (HB3.out.new hN)
    have HK4 := Lib.hid (hO.rd (Nat.le_refl _))
    clear hN ho hO HN3 HW3 HM3 HZ3 HB3 HS3
    go_wp2_with fail
    refine (oc_Size _ _ _ ws _ HW4.out (by have := HWL.out; omega)).mono ?_
    rintro e w5 ho
    obtain ⟨hN, v, rfl, rfl⟩ := ho.ok HSI.out
    have HN5 := Lib.hid (HN4.out.trans hN)
    have HW5 := Lib.hid (HW4.out.new hN)
    have HM5 := Lib.hid (HM4.out.new hN)
    have HZ5 := Lib.hid (HZ4.out.new hN)
    have HB5 := Lib.hid (HB4.out.new hN)
    have HK5 := Lib.hid (HK4.out.new hN)
    clear hN ho HN4 HW4 HM4 HZ4 HB4 HK4
    go_wp2_with fail
    refine (oc_Open _ _ _ bs _ HB5.out).mono ?_
    rintro e w6 ⟨hN, ⟨hlong, _⟩ | ⟨_, g, Z, hZ, hg, rfl, hI⟩⟩
    · exact absurd hlong (by have := HBL.out; omega)
    have HN6 := Lib.hid (HN5.out.trans hN)
    have HW6 := Lib.hid (HW5.out.new hN)
    have HM6 := Lib.hid (HM5.out.new hN)
    have HZ6 := Lib.hid (HZ5.out.new hN)
    have HK6 := Lib.hid (HK5.out.new hN)
    have HI6 := Lib.hid hI
    have HG := Lib.hid (show w.heap.size ≤ g from Nat.le_trans HN5.out.size hg)
    clear hN hZ hg hI HN5 HW5 HM5 HZ5 HB5 HK5
    go_wp2_with fail
    refine (oc_eq64 _ _ _ _ _ _ ns ns _ HK6.out HM6.out).mono ?_
    rw [decide_eq_true (rfl : ns = ns)]
    rintro e w7 ⟨rfl, nd, hd⟩
    have hN : New w6 w7 := by rw [hd]; exact (new_refl _).drewN _
    have HN7 := Lib.hid (HN6.out.trans hN)
    have HW7 := Lib.hid (HW6.out.new hN)
    have HM7 := Lib.hid (HM6.out.new hN)
    have HZ7 := Lib.hid (HZ6.out.new hN)
    have HI7 := Lib.hid (HI6.out.new hN)
    clear hN hd HN6 HW6 HM6 HZ6 HI6 HK6
    have hwl9 : ws.length ≤ 9223372036854775807 := by have := HWL.out; omega
    go_wp2
    go_loopw [83, 17, 18] (fun i _ _ wr => ∃ k : Nat, k ≤ ws.length ∧ i = .int .i64 k ∧ Hid (New w wr) ∧ Hid (IsR Z wr g (bs.drop (sumW (ws.take k)).toNat) 0)) (fun i _ _ _ => ws.length - (intOf i).toNat)
    case atStart => exact ⟨0, Nat.zero_le _, rfl, HN7, HI7⟩
    case round =>
      obtain ⟨k, hk, rfl, HN8, HI8⟩ := hrel
      have hm : Chg (fun _ => False) w wr := HN8.out.chg _
      have HW8 : Hid (Rd ei 0 w.heap.size wr (.slice A ws.length c) ws) := Lib.hid (HWo.out.new HN8.out)
      have HM8 : Hid (Rd e64 0 w.heap.size wr (.slice B ns.length d) ns) := Lib.hid (HMo.out.new HN8.out)
      have HZ8 : Hid (Rd e8 0 w.heap.size wr (.slice C zs.length f) zs) := Lib.hid (HZo.out.new HN8.out)
      have HS8 := Lib.hid HN8.out.size
      by_cases hlt : k < ws.length
      · have hlt2 : k < ns.length := by rw [← HNU.out, numsU_length]; exact hlt
        obtain ⟨b, off, c', e, _, _, _, _, _, hc⟩ := HW8.out.at_ k hlt
        obtain ⟨b2, off2, c2', e2, _, _, _, _, _, hc2⟩ := HM8.out.at_ k hlt2
        injection e with e1 e2' e3
        injection e2 with e4 e5 e6
        subst e1 e4
        have hcell : wr.cell? ⟨b, off + k, none⟩ = some (ei ws[k]) := hc k hlt
        have hcell2 : wr.cell? ⟨b2, off2 + k, none⟩ = some (e64 ns[k]) := hc2 k hlt2
        clear hc hc2 e2' e3 e5 e6
        have hsum := sumW_take_le ws k hlt HAL.out
        have hwd := (isWB_iff _).1 (all_at ws HAL.out k hlt)
        have hat : ns[k].1 = numI ((bs.drop (sumW (ws.take k)).toNat).take ws[k].1.toNat) := by
          have := numsU_at ws bs k hlt HAL.out
          simp only [HNU.out] at this
          rw [this]
          rfl
        have hen : numR ws[k].1 (bs.drop (sumW (ws.take k)).toNat) = .ok (ns[k].1, bs.drop (sumW (ws.take (k + 1))).toNat) := by
          rw [numR, if_pos (all_at ws HAL.out k hlt), if_pos (by have := HSW.out; simp only [List.length_drop]; omega), hat, List.drop_drop]
          congr 3
          omega
        have hnum : readI 0 (numR ws[k].1 (bs.drop (sumW (ws.take k)).toNat)) (bs.drop (sumW (ws.take k)).toNat) 0 = (ns[k].1, bs.drop (sumW (ws.take (k + 1))).toNat, 0) := by
          simp only [readI, if_true, hen]
        have hn := fun W (hI : IsR Z W g (bs.drop (sumW (ws.take k)).toNat) 0) => oc_rNumber g _ 0 ws[k].1 W hI
        rw [hnum] at hn
        have HR := Lib.hid hn
        have hbl : b2 < w.heap.size := by
          obtain ⟨b3, off3, c3', e3', _, h9, _⟩ := HMo.out.at_ k hlt2
          simp at e3'
          omega
        have HBL2 := Lib.hid hbl
        clear hn hnum hen hat hsum hwd hm hbl
        generalize hnk : ns[k] = num at *
        go_wp2_with fail
        go_region_held3 (fun w' => w'.cell? ⟨b2, off2 + k, none⟩ = some (e64 num) ∧ Hid (New w w'))
          (first | exact ⟨hcell2, Lib.hid (HN8.out.trans (Below.drew (new_refl wr)))⟩ | (go_split_ands; exact ⟨hc9, HN9⟩) | assumption | go_keep)
          ((first | (go_at_call 35; refine (HR.out _ (HI8.out.new (Below.drew (new_refl wr)))).mono ?_; rintro e w9 ⟨hC, v', rfl, rfl, hI⟩; have HI9 := Lib.hid hI; have HN9 := Lib.hid ((HN8.out.trans (Below.drew (new_refl wr))).trans' hC (fun j hj => by have := HG.out; omega)); have hc9 : w9.cell? ⟨b2, off2 + k, none⟩ = some (e64 num) := (World.cell?_of_block (hC.block b2 (by have := HBL2.out; have := HS8.out; simp; omega) (by have := HBL2.out; have := HG.out; omega))).trans hcell2; clear hC hI)))
        go_split_ands
        go_wp2
        go_roundw
        case rel => exact ⟨k + 1, by omega, by go_num, HN9, HI9⟩
        case measure => simp [intOf]; omega
      · obtain rfl : k = ws.length := by omega
        have hI := HI8.out
        rw [List.take_length, HSW.out, Int.toNat_natCast, List.drop_length] at hI
        have HI9 := Lib.hid hI
        clear hI HI8 hm hlt
        go_wp2_with fail
        refine (oc_rEnd g [] 0 _ HI9.out).mono ?_
        rintro e w9 ⟨rfl, rfl⟩
        rw [show endI [] 0 = 0 from rfl]
        clear HI9
        go_wp2_with fail
        refine (oc_Split _ _ _ _ _ _ ws zs _ HW8.out HZ8.out (by have := HWL.out; omega) ⟨HS8.out, HS8.out⟩).mono ?_
        rintro e wt ho
        cases hS : splitI ws zs with
        | no x =>
          obtain ⟨hN, rfl⟩ := ho.bad hS
          have hx0 := splitI_no hS
          have HNt := Lib.hid (HN8.out.trans hN)
          clear hN ho hS HW8 HZ8 HM8 HN8 HS8
          go_wp2
          go_ret
          exact ⟨rfl, HNt.out⟩
        | ok ss =>
          obtain ⟨hN, v, rfl, A5, c5, rfl, hO⟩ := ho.ok hS
          have HLY := Lib.hid (lay_of_split hS)
          have HNt := Lib.hid (HN8.out.trans hN)
          have HWt := Lib.hid (HW8.out.new hN)
          have HZt := Lib.hid (HZ8.out.new hN)
          have HSt := Lib.hid (hO.rd (Nat.le_refl _))
          clear hN ho hS hO HW8 HZ8 HM8 HN8 HS8
          go_wp2_with fail
          refine (oc_Lay _ _ _ _ _ _ ws ss _ HWt.out HSt.out (by have := HWL.out; omega)).mono ?_
          rintro e wu ho
          obtain ⟨hN, v, rfl, A6, c6, rfl, hO⟩ := ho.ok HLY.out
          have HNu := Lib.hid (HNt.out.trans hN)
          have HZu := Lib.hid (HZt.out.new hN)
          have HBu := Lib.hid (hO.rd (Nat.le_refl _))
          clear hN ho hO HWt HZt HNt HSt HLY
          go_wp2_with fail
          refine (oc_eq8 _ _ _ _ _ _ zs zs _ HBu.out HZu.out).mono ?_
          rw [decide_eq_true (rfl : zs = zs)]
          rintro e wv ⟨rfl, nd, hd⟩
          have HNv := Lib.hid (show New w wv by rw [hd]; exact HNu.out.drewN _)
          clear hd HNu HZu HBu
          go_wp2
          go_ret
          exact ⟨rfl, HNv.out⟩
end Go.Proofs.Ytcbijmlkkdpheaa
