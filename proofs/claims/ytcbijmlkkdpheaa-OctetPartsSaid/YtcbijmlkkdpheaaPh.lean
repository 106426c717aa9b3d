/- The law OctetParts: parts, one behind the other, are read as they were; of less than all of them the last one is short. -/
import Derived.Test.YtcbijmlkkdpheaaPg
set_option linter.unusedVariables false
set_option linter.unusedSimpArgs false
namespace Go.Proofs.Ytcbijmlkkdpheaa
open Go.RowKit

theorem ite_min40 (n m : Nat) (hm : m = min n 40) : (if (40 : Int) < (n : Int) then (40 : Int) else (n : Int)) = (m : Int) := by
  subst hm
  split <;> omega
theorem part_at (qs : List (List U8)) (h40 : ∀ q ∈ qs, q.length ≤ 40) (h6 : qs.length ≤ 6) (k : Nat) (hk : k < qs.length) (g : Nat) {Z : Nat × Nat} (W : World) (hI : IsR Z W g (catP (qs.drop k)) 0) :
    Calls Try.prog 22 #[.pointer (some ⟨g, 0, none⟩)] W (RdR Z (VO e8 5) g (qs[k], catP (qs.drop (k + 1)), 0) W) := by
  have h1 := catP_length (qs.drop k) 40 (fun q hq => h40 q (List.mem_of_mem_drop hq))
  rw [List.length_drop] at h1
  have := oc_rPart g _ 0 W (by omega) hI
  rw [catP_at qs k hk, partR_part _ _ (by have := h40 _ (List.getElem_mem hk); omega)] at this
  simpa only [readI, if_true] using this
theorem rem_cut (cut : I64) (n : Nat) (h0 : 0 < n) (h1 : n ≤ 9223372036854775807) : ∃ m : Nat, m < n ∧ (cut.1 % 18446744073709551616) % (n : Int) = m :=
  ⟨((cut.1 % 18446744073709551616) % (n : Int)).toNat, by
    have h2 := Int.emod_nonneg (cut.1 % 18446744073709551616) (show (n : Int) ≠ 0 by omega)
    have h3 := Int.emod_lt_of_pos (cut.1 % 18446744073709551616) (show (0 : Int) < n by omega)
    constructor <;> omega⟩

set_option maxRecDepth 100000 in
set_option maxHeartbeats 4000000 in
theorem law_Parts (vl : Value) (ls : List (List U8)) (cut : I64) (w : World) (hl : RdS 0 w.heap.size w vl ls) :
    Calls Try.prog 4 #[vl, .int .i64 cut.1] w fun e w' => e = .returned (.bool true) ∧ New w w' := by
  obtain ⟨A, c, rfl, h1, h2⟩ := hl.form
  obtain ⟨ps, hps, hpl, hR⟩ := hl.cut 6
  obtain ⟨qs, hq⟩ : ∃ qs, qs = ps.map (List.take 40) := ⟨_, rfl⟩
  have hql : qs.length = ps.length := by rw [hq, List.length_map]
  have hqk : ∀ k (h : k < ps.length) (h' : k < qs.length), qs[k] = ps[k].take 40 := fun k h h' => by subst hq; simp
  have HPS := Lib.hid hR
  have HPL := Lib.hid hpl
  have HP6 := Lib.hid (show ps.length ≤ 6 by omega)
  have HQL := Lib.hid hql
  have HQK := Lib.hid hqk
  have HQ40 := Lib.hid (show ∀ q ∈ qs, q.length ≤ 40 from fun q hx => by
    subst hq
    obtain ⟨x, _, rfl⟩ := List.mem_map.1 hx
    simp
    omega)
  have hpc : ps.length ≤ c := by omega
  clear hl hps hpl hR hq hql hqk
  have hp9 : ps.length ≤ 9223372036854775807 := by have := HP6.out; omega
  go_enter Try.func4, Try.ntmps4
  go_wp2_with fail
  refine (law_wakes w).mono ?_
  rintro e w1 ⟨rfl, hN⟩
  have HN1 := Lib.hid hN
  clear hN
  go_wp2_with ((with_reducible change wpList _ _ _ (⟨some 21, _, _, _, _, _⟩ :: _) _ _); refine wpl_min rfl (.tmp 20) 6 rfl rfl HPL.out ?_)
  go_loopw [25, 5, 7, 8, 9] (fun i o _ _ _ wr => ∃ (k : Nat) (acc : List U8) (A1 : Option Addr) (c1 : Nat), k ≤ ps.length ∧ i = .int .i64 k ∧ o = .slice A1 acc.length c1 ∧ Hid (acc = catP (qs.take k)) ∧ Hid (Rd e8 w.heap.size wr.heap.size wr (.slice A1 acc.length c1) acc) ∧ Hid (New w wr)) (fun i _ _ _ _ _ => ps.length - (intOf i).toNat)
  case atStart => exact ⟨0, [], none, 0, Nat.zero_le _, rfl, rfl, Lib.hid rfl, Lib.hid (Rd.nil _ _ _ _), HN1⟩
  case round =>
    obtain ⟨k, acc, A1, c1, hk, rfl, rfl, HA, HR, HN⟩ := hrel
    have hal : acc.length ≤ 252 := by
      rw [HA.out]
      have := catP_length (qs.take k) 40 (fun q hx => HQ40.out q (List.mem_of_mem_take hx))
      rw [List.length_take] at this
      have := HQL.out
      have := HP6.out
      omega
    have HAL := Lib.hid hal
    by_cases hlt : k < ps.length
    · have hlt2 : k < qs.length := by have := HQL.out; omega
      obtain ⟨b, off, B, d, e, hcell, hRk, hd1, hd2⟩ := (HPS.out.new HN.out).at_ k hlt
      subst e
      have HRk := hRk.cut 40
      obtain ⟨q, hq, hql, hRq⟩ := HRk
      have HRQ := Lib.hid hRq
      have HQ := Lib.hid (hq.trans (HQK.out k hlt hlt2).symm)
      have HQL2 := Lib.hid hql
      have hqd : q.length ≤ d := by omega
      have HST := Lib.hid (take_snoc qs k hlt2)
      clear hRk hq hRq hql hal
      generalize ps[k] = pk at *
      go_wp2_with ((with_reducible change wpList _ _ _ (⟨some 32, _, _, _, _, _⟩ :: _) _ _); refine wpl_min rfl (.tmp 31) 40 rfl rfl HQL2.out ?_)
      refine (oc_Part _ _ _ _ _ _ acc q _ HR.out HRQ.out (by have := HAL.out; omega)).mono ?_
      rintro e w2 ho
      obtain ⟨acc2, hac⟩ : ∃ acc2, acc2 = acc ++ beI 2 q.length ++ q := ⟨_, rfl⟩
      obtain ⟨hN, v, rfl, A2, c2, rfl, hO⟩ := ho.ok (a := acc2) (by rw [partI, if_neg (by have := HQL2.out; omega), hac])
      have hbl : (beI 2 (q.length : Int)).length = 2 := beI_length _ _
      have hal2 : ((acc2.length : Int) != (acc.length : Int) + 2 + (q.length : Int)) = false := by
        rw [hac]
        simp only [List.length_append, hbl]
        simp
      have HN2 := Lib.hid (HN.out.trans hN)
      have HR2 := Lib.hid ((hO.rd (Nat.le_refl _)).mono HN.out.size (Nat.le_refl _))
      have HA2 : Hid (acc2 = catP (qs.take (k + 1))) := Lib.hid (by rw [HST.out, catP_snoc, ← HA.out, ← HQ.out, hac])
      have hb1 : acc.length ≤ 252 := HAL.out
      have hb2 : q.length ≤ 40 := by have := HQL2.out; omega
      clear hN ho hO hbl hac HN HR HA HRQ
      go_wp2
      go_roundw
      case rel => exact ⟨k + 1, acc2, A2, c2, by omega, by go_num, rfl, HA2, HR2, HN2⟩
      case measure => simp [intOf]; omega
    · obtain rfl : k = ps.length := by omega
      have hA := HA.out
      rw [← HQL.out, List.take_length] at hA
      have HA2 := Lib.hid hA
      clear hA HA hlt hal
      go_wp2_with fail
      refine (oc_Open _ _ _ acc _ HR.out).mono ?_
      rintro e w2 ⟨hN, ⟨hlong, _⟩ | ⟨_, g, Z, hZ, hg, rfl, hI⟩⟩
      · exact absurd hlong (by have := HAL.out; omega)
      have HN2 := Lib.hid (HN.out.trans hN)
      have HR2 : Hid (Rd e8 w.heap.size g w2 (.slice A1 acc.length c1) acc) := Lib.hid ((HR.out.new hN).mono (Nat.le_refl _) hg)
      have HI2 := Lib.hid hI
      have HG := Lib.hid (Nat.le_trans HN.out.size hg)
      have hal : acc.length ≤ 252 := HAL.out
      clear hN hZ hg hI HN HR
      go_wp2_with fail
      go_loopw [64, 13] (fun i _ W => ∃ k : Nat, k ≤ ps.length ∧ i = .int .i64 k ∧ Hid (Chg (fun j => j = g) w2 W) ∧ Hid (IsR Z W g (catP (qs.drop k)) 0)) (fun i _ _ => ps.length - (intOf i).toNat)
      case atStart => exact ⟨0, Nat.zero_le _, rfl, Lib.hid (Chg.refl _ _), by have := HI2.out; rw [HA2.out] at this; exact Lib.hid this⟩
      case round =>
        obtain ⟨k, hk2, rfl, HC, HI⟩ := hrel
        have HN3 := Lib.hid (HN2.out.trans' HC.out (fun j hj => by have := HG.out; omega))
        by_cases hlt : k < ps.length
        · have hlt2 : k < qs.length := by have := HQL.out; omega
          obtain ⟨b, off, B, d, e, hcell, hRk, hd1, hd2⟩ := (HPS.out.new HN3.out).at_ k hlt
          subst e
          obtain ⟨q, hq, hql, hRq⟩ := hRk.cut 40
          have HRQ := Lib.hid hRq
          have HQE := Lib.hid (ite_min40 _ _ hql)
          have hqd : q.length ≤ d := by omega
          have hpt := fun W' hI => part_at qs HQ40.out (by have := HQL.out; have := HP6.out; omega) k hlt2 g (Z := Z) W' hI
          rw [← (hq.trans (HQK.out k hlt hlt2).symm)] at hpt
          have HPT := Lib.hid hpt
          have hqe := HQE.out
          clear hRk hq hRq hql hpt HQE
          generalize ps[k] = pk at *
          go_wp2_with fail
          go_region_held3 (fun w' => Hid (New w w'))
            (first | exact Lib.hid (HN3.out.trans (Below.drew (new_refl _))) | (go_split_ands; exact HN10) | (go_split_ands; exact HN9) | assumption | go_keep)
            ((first
              | (go_at_call 22; refine (HPT.out _ (HI.out.new (Below.drew (new_refl _)))).mono ?_; rintro e w9 ⟨hC, v', rfl, ⟨A9, c9, rfl, hO⟩, hI⟩; have HI9 := Lib.hid hI; have HO9 := Lib.hid (hO.rd (Nat.le_refl _)); have HC9 := Lib.hid hC; have HN9 := Lib.hid ((HN3.out.trans (Below.drew (new_refl _))).trans' hC (fun j hj => by have := HG.out; omega)); clear hC hI hO)
              | (go_at_call 19; refine (oc_eq8 _ _ _ _ _ _ q q _ HO9.out (HRQ.out.chg ((Chg.refl _ _).drew.trans HC9.out) (fun j _ hj => by have := HG.out; omega))).mono ?_; rw [decide_eq_true (rfl : q = q)]; rintro e w10 ⟨rfl, nd, hd⟩; have HD10 := Lib.hid hd; have HN10 := Lib.hid (show New w w10 by rw [hd]; exact HN9.out.drewN _); clear hd)))
          all_goals
            go_split_ands
            have hx : New w9 w10 := by rw [HD10.out]; exact (new_refl w9).drewN _
            have HI10 := Lib.hid (HI9.out.new hx)
            have HC10 := Lib.hid ((HC.out.trans ((Chg.refl _ _).drew.trans HC9.out)).new hx)
            clear hx
            go_wp2
            go_roundw
            case rel => exact ⟨k + 1, by omega, by go_num, HC10, HI10⟩
            case measure => simp [intOf]; omega
        · obtain rfl : k = ps.length := by omega
          have hI := HI.out
          rw [← HQL.out, List.drop_length] at hI
          have HI3 := Lib.hid (show IsR Z wr g [] 0 from hI)
          have HR3 := Lib.hid ((HR2.out.chg HC.out (fun j _ hj => by omega)))
          clear hI HI HR2 HC HI2 hlt
          go_wp2_with fail
          refine (oc_rEnd g [] 0 _ HI3.out).mono ?_
          rintro e w4 ⟨rfl, rfl⟩
          rw [show endI [] 0 = 0 from rfl]
          clear HI3
          by_cases hz : acc.length = 0
          · have hz2 : ((acc.length : Int) == 0) = true := by simp [hz]
            clear hz
            go_wp2
            go_ret
            exact ⟨rfl, HN3.out⟩
          · have hz2 : ((acc.length : Int) == 0) = false := by simpa using hz
            obtain ⟨m, hm, hrem⟩ := rem_cut cut acc.length (by omega) (by omega)
            have hmc : m ≤ acc.length := by omega
            obtain ⟨xs, hxs⟩ : ∃ xs, xs = acc.take m := ⟨_, rfl⟩
            have hxl : xs.length = m := by rw [hxs, List.length_take]; omega
            have hrem2 : wrap64 ((IntKind.u64.wrap cut.1).tmod (acc.length : Int)) = (xs.length : Int) := by
              have h0 := Int.emod_nonneg cut.1 (show (18446744073709551616 : Int) ≠ 0 by decide)
              rw [IntKind.wrap_u64, Int.tmod_eq_emod_of_nonneg h0, hrem, hxl]
              unfold wrap64
              omega
            have hxc : xs.length ≤ c1 := by
              obtain ⟨_, c', e', h3, h4⟩ := HR3.out.form
              injection e' with _ _ e'
              omega
            obtain ⟨ys, hy, hyl, hRy⟩ := HR3.out.cut m
            obtain rfl : xs = ys := by rw [hxs, hy]
            have HX := Lib.hid hRy
            have HXS := Lib.hid hxs
            have HM := Lib.hid hm
            have HXL := Lib.hid hxl
            have hx252 : xs.length ≤ 252 := by omega
            clear hy hyl hRy hxs HR3 hrem hmc hm hxl
            go_wp2_with fail
            refine (oc_Open _ _ _ xs _ HX.out).mono ?_
            rintro e w5 ⟨hN, ⟨hlong, _⟩ | ⟨_, g5, Z5, hZ, hg, rfl, hI⟩⟩
            · exact absurd hlong (by omega)
            have HN5 := Lib.hid (HN3.out.trans hN)
            have HG5 := Lib.hid (Nat.le_trans HN3.out.size hg)
            have hI5 : ∃ zs j, IsR Z5 w5 g5 zs 0 ∧ zs = (catP (qs.drop 0)).take j ∧ j < (catP (qs.drop 0)).length :=
              ⟨xs, m, hI, by rw [HXS.out, HA2.out]; rfl, by have := HM.out; rw [HA2.out] at this; exact this⟩
            have HI5 := Lib.hid hI5
            clear hN hZ hg hI HX HXS HM HXL hrem2 hI5 HN3
            go_wp2_with fail
            go_loopw [99, 15] (fun i o W => ∃ (k n : Nat), k ≤ ps.length ∧ n ≤ k ∧ i = .int .i64 k ∧ o = .int .i64 n ∧ Hid (New w W) ∧ Hid ((n = k ∧ ∃ zs j, IsR Z5 W g5 zs 0 ∧ zs = (catP (qs.drop k)).take j ∧ j < (catP (qs.drop k)).length) ∨ (n < k ∧ ∃ zs, zs.length ≤ 252 ∧ IsR Z5 W g5 zs 110))) (fun i _ _ => ps.length - (intOf i).toNat)
            case atStart => exact ⟨0, 0, Nat.zero_le _, Nat.le_refl _, rfl, rfl, HN5, Lib.hid (.inl ⟨rfl, HI5.out⟩)⟩
            case round =>
              obtain ⟨k, n, hk, hn, rfl, rfl, HN6, HI6⟩ := hrel
              by_cases hlt : k < ps.length
              · have hlt2 : k < qs.length := by have := HQL.out; omega
                have hq40 := HQ40.out _ (List.getElem_mem hlt2)
                have hca := catP_at qs k hlt2
                have hcl : (catP (qs.drop k)).length ≤ 252 := by
                  have := catP_length (qs.drop k) 40 (fun q hq => HQ40.out q (List.mem_of_mem_drop hq))
                  rw [List.length_drop] at this
                  have := HQL.out
                  have := HP6.out
                  omega
                have hm : ∀ j, j < w.heap.size → ¬ (j = g5) := fun j hj => by have := HG5.out; omega
                have HM := Lib.hid hm
                rcases HI6.out with ⟨rfl, zs, j, hI, hz, hj⟩ | ⟨hnk, zs, hzl, hI⟩
                · have hzl : zs.length ≤ 252 := by rw [hz, List.length_take]; omega
                  have hp := oc_rPart g5 zs 0 wr (by omega) hI
                  by_cases hj2 : 2 + qs[n].length ≤ j
                  · rw [hz, hca, part_split _ _ _ hj2, partR_part _ _ (by omega)] at hp
                    simp only [readI, if_true] at hp
                    have hj3 : j - (2 + qs[n].length) < (catP (qs.drop (n + 1))).length := by
                      rw [hca] at hj
                      have hbl : (beI 2 (qs[n].length : Int)).length = 2 := beI_length _ _
                      simp only [List.length_append, hbl] at hj
                      omega
                    have HP := Lib.hid hp
                    have HJ := Lib.hid hj3
                    clear hp hj3 hj hz hI hca hcl hj2 hzl hm HI6 hq40
                    go_wp2_with fail
                    refine HP.out.mono ?_
                    rintro e w7 ⟨hC, v', rfl, hV, hI⟩
                    have HN7 := Lib.hid (HN6.out.trans' hC HM.out)
                    have HI7 := Lib.hid hI
                    clear hC hV hI HP HN6
                    go_wp2_with fail
                    refine (oc_rErr g5 _ 0 _ HI7.out).mono ?_
                    rintro e w8 ⟨rfl, rfl⟩
                    go_wp2
                    go_roundw
                    case rel => exact ⟨n + 1, n + 1, by omega, by omega, by go_num, by go_num, HN7, Lib.hid (.inl ⟨rfl, _, _, HI7.out, rfl, HJ.out⟩)⟩
                    case measure => simp [intOf]; omega
                  · rw [hz, hca, partR_cut _ _ _ (by omega) (by omega)] at hp
                    simp only [readI, if_true] at hp
                    have HZL := Lib.hid (show (List.take j (beI 2 qs[n].length ++ qs[n] ++ catP (List.drop (n + 1) qs))).length ≤ 252 by rw [← hca, ← hz]; exact hzl)
                    have HP := Lib.hid hp
                    clear hp hj hz hI hca hcl hj2 hzl hm HI6 hq40
                    generalize (List.take j (beI 2 qs[n].length ++ qs[n] ++ catP (List.drop (n + 1) qs))) = zs2 at *
                    go_wp2_with fail
                    refine HP.out.mono ?_
                    rintro e w7 ⟨hC, v', rfl, hV, hI⟩
                    have HN7 := Lib.hid (HN6.out.trans' hC HM.out)
                    have HI7 := Lib.hid hI
                    clear hC hV hI HP HN6
                    go_wp2_with fail
                    refine (oc_rErr g5 _ 110 _ HI7.out).mono ?_
                    rintro e w8 ⟨rfl, rfl⟩
                    go_wp2
                    go_roundw
                    case rel => exact ⟨n + 1, n, by omega, by omega, by go_num, by go_num, HN7, Lib.hid (.inr ⟨by omega, _, HZL.out, HI7.out⟩)⟩
                    case measure => simp [intOf]; omega
                · have hp := oc_rPart g5 zs 110 wr (by omega) hI
                  simp only [readI, if_neg (show ¬ ((110 : Int) = 0) by decide)] at hp
                  have HP := Lib.hid hp
                  have HZL := Lib.hid hzl
                  clear hp hI hca hcl hzl hm HI6 hq40
                  go_wp2_with fail
                  refine HP.out.mono ?_
                  rintro e w7 ⟨hC, v', rfl, hV, hI⟩
                  have HN7 := Lib.hid (HN6.out.trans' hC HM.out)
                  have HI7 := Lib.hid hI
                  clear hC hV hI HP HN6
                  go_wp2_with fail
                  refine (oc_rErr g5 _ 110 _ HI7.out).mono ?_
                  rintro e w8 ⟨rfl, rfl⟩
                  go_wp2
                  go_roundw
                  case rel => exact ⟨k + 1, n, by omega, by omega, by go_num, by go_num, HN7, Lib.hid (.inr ⟨by omega, _, HZL.out, HI7.out⟩)⟩
                  case measure => simp [intOf]; omega
              · obtain rfl : k = ps.length := by omega
                rcases HI6.out with ⟨_, zs, j, _, _, hj⟩ | ⟨hnk, zs, hzl, hI⟩
                · rw [← HQL.out, List.drop_length] at hj
                  simp [catP] at hj
                · have HI7 := Lib.hid hI
                  clear HI6 hI
                  go_wp2_with fail
                  refine (oc_rErr g5 _ 110 _ HI7.out).mono ?_
                  rintro e w8 ⟨rfl, rfl⟩
                  go_wp2
                  go_ret
                  exact ⟨rfl, HN6.out⟩
end Go.Proofs.Ytcbijmlkkdpheaa
