/- Contract of the reference of split rows. -/
import Derived.Test.YtcbijmlkkdpheaaPk
set_option linter.unusedVariables false
set_option linter.unusedSimpArgs false
namespace Go.Proofs.Ytcbijmlkkdpheaa
open Go.RowKit

set_option maxRecDepth 100000 in
set_option maxHeartbeats 4000000 in
theorem ref_Split (lo hi lo' hi' : Nat) (v u : Value) (ws : List I64) (xs : List U8) (w : World) (hv : Rd ei lo hi w v ws) (hu : Rd e8 lo' hi' w u xs) (hl : ws.length ≤ 1099511627776) :
    Calls Try.prog 32 #[v, u] w (OutT (.slice none 0 0) (VO e64 26) (splitI ws xs) w) := by
  obtain ⟨A, c, rfl, h1, h2⟩ := hv.form
  obtain ⟨B, d, rfl, h3, h4⟩ := hu.form
  have HV := Lib.hid hv
  have HU := Lib.hid hu
  have HL := Lib.hid hl
  have hl9 : ws.length ≤ 9223372036854775807 := hv.len
  have hsz := ref_Size lo hi _ ws w hv (by omega)
  have HSZ := Lib.hid hsz
  clear hv hu hl hsz
  by_cases g1 : allW ws = true
  · have G1 : Hid (ws.all okW = true) := Lib.hid g1
    have hse : refSize ws = sumW ws := by rw [refSize, if_pos G1.out]
    rw [hse] at HSZ
    by_cases g2 : sumW ws = xs.length
    · have G2 := Lib.hid g2
      rw [show splitI ws xs = .ok (numsU ws xs) by rw [splitI, if_pos G1.out, if_pos (by omega), if_pos g2]]
      rw [g2] at HSZ
      clear g2 hse
      go_enter Try.func32, Try.ntmps32
      go_wp2_with fail
      refine HSZ.out.mono ?_
      rintro e w' ⟨rfl, rfl⟩
      go_wp2_with fail
      go_loopw [31, 8, 1, 10] (fun i o r _ wr => ∃ (k : Nat) (acc : List U64) (A1 : Option Addr) (c1 : Nat) (rest : List U8) (B1 : Option Addr) (d1 : Nat), k ≤ ws.length ∧ i = .int .i64 k ∧ o = .slice A1 acc.length c1 ∧ r = .slice B1 rest.length d1 ∧
        Hid (acc = (numsU ws xs).take k) ∧ Hid (rest = xs.drop (sumW (ws.take k)).toNat) ∧ Hid (Own e64 26 w.heap.size wr (.slice A1 acc.length c1) acc) ∧ Hid (Rd e8 lo' hi' w (.slice B1 rest.length d1) rest) ∧ Hid (New w wr)) (fun i _ _ _ _ => ws.length - (intOf i).toNat)
      case atStart => exact ⟨0, [], none, 0, xs, B, d, Nat.zero_le _, rfl, rfl, rfl, Lib.hid (by simp), Lib.hid (by simp [sumW]), Lib.hid (Own.nil _ _ _ _), HU, Lib.hid (new_refl _)⟩
      case round =>
        obtain ⟨k, acc, A1, c1', rest, B1, d1, hk, rfl, rfl, rfl, HA, HE, HO, HR, HN⟩ := hrel
        by_cases hlt : k < ws.length
        · obtain ⟨b, off, c', e, _, _, _, _, _, hc⟩ := HV.out.at_ k hlt
          injection e with e1 e2' e3
          subst e1
          have hcell : wr.cell? ⟨b, off + k, none⟩ = some (ei ws[k]) := cell_later HN.out (hc k hlt)
          have hnl : k < (numsU ws xs).length := by rw [numsU_length]; exact hlt
          have hwb := (isWB_iff _).1 (List.all_eq_true.1 G1.out _ (List.getElem_mem hlt))
          have hsum := sumW_take_le ws k hlt G1.out
          have hat := numsU_at ws xs k hlt G1.out
          have hle : ws[k].1 ≤ rest.length := by have := G2.out; rw [HE.out, List.length_drop]; omega
          obtain ⟨A5, hs5, hR5⟩ := slice_h Try.underlying22 size_u8 HR.out .i64 ws[k].1 (by omega) hle
          obtain ⟨A6, hs6, hR6⟩ := slice_l Try.underlying22 size_u8 HR.out .i64 ws[k].1 (by omega) hle
          obtain ⟨rest2, hr2⟩ : ∃ rest2, rest2 = rest.drop ws[k].1.toNat := ⟨_, rfl⟩
          have hl2 : rest.length - ws[k].1.toNat = rest2.length := by rw [hr2, List.length_drop]
          rw [← hr2, hl2] at hR6
          rw [hl2] at hs6
          have HR5 := Lib.hid (hR5.new HN.out)
          have HR6 := Lib.hid hR6
          have HE2 : Hid (rest2 = xs.drop (sumW (ws.take (k + 1))).toNat) := Lib.hid (by
            rw [hr2, HE.out, List.drop_drop]
            congr 1
            omega)
          have HNK : Hid ((numsU ws xs)[k].1 = numI (rest.take ws[k].1.toNat)) := Lib.hid (by rw [hat, HE.out]; rfl)
          have HTS := Lib.hid (take_snoc _ k hnl)
          have hal : acc.length = k := by rw [HA.out, List.length_take]; omega
          have HAL := Lib.hid hal
          have hwl := hwb.1
          clear hc e2' e3 hsum hat hR5 hR6 hr2 hl2 hal
          generalize (numsU ws xs)[k] = num at *
          have HO5 := Lib.hid (HO.out.new (new_alloc wr (.cells #[e64 num] 26)))
          go_wp2_with (first | (go_at_call 17; refine (ref_Number _ _ _ _ _ HR5.out).mono ?_; rw [← HNK.out]; rintro e w' ⟨rfl, rfl⟩) | (at_builtin; refine wpl_append1 (enc := e64) rfl (.tmp 35) (.tmp 40) rfl Try.underlying51 info_u64 rfl (fun _ => rfl) num rfl rfl HO.out (by have := HL.out; have := HAL.out; omega) (by have := HL.out; have := HAL.out; omega) HN.out.size ?_))
          intro A3 c3 w2 hO hg _
          have HO2 := Lib.hid hO
          have HN2 := Lib.hid (Below.grown HN.out hg HN.out.size (fun k hk => (HO.out.lt k hk).1))
          have HA2 : Hid (acc ++ [num] = (numsU ws xs).take (k + 1)) := Lib.hid (by rw [HTS.out, HA.out])
          clear hO hg
          go_wp2
          go_roundw
          case rel => exact ⟨k + 1, acc ++ [num], A3, c3, rest2, A6, _, by omega, by go_num, by simp, rfl, HA2, HE2, by simpa using HO2, HR6, HN2⟩
          case measure => simp [intOf]; omega
        · go_wp2
          go_ret2
          have hk' : k = ws.length := by omega
          subst hk'
          refine .yes rfl HN.out ⟨A1, c1', ?_, ?_⟩
          · have h := HA.out
            rw [← numsU_length ws xs, List.take_length] at h
            rw [← h]
            rfl
          · have h := HA.out
            rw [← numsU_length ws xs, List.take_length] at h
            rw [← h]
            exact HO.out
    · have G2 := Lib.hid g2
      clear hse
      by_cases g3 : sumW ws ≤ xs.length
      · rw [show splitI ws xs = .no 113 by rw [splitI, if_pos G1.out, if_pos g3, if_neg g2]]
        have hlt : decide ((xs.length : Int) < sumW ws) = false := by simpa using g3
        have hgt : decide (sumW ws < (xs.length : Int)) = true := by simp; omega
        clear g2 g3
        go_enter Try.func32, Try.ntmps32
        go_wp2_with fail
        refine HSZ.out.mono ?_
        rintro e w' ⟨rfl, rfl⟩
        go_wp2
        go_ret2
        exact .no rfl (new_refl _)
      · rw [show splitI ws xs = .no 110 by rw [splitI, if_pos G1.out, if_neg g3]]
        have hlt : decide ((xs.length : Int) < sumW ws) = true := by simp; omega
        clear g2 g3
        go_enter Try.func32, Try.ntmps32
        go_wp2_with fail
        refine HSZ.out.mono ?_
        rintro e w' ⟨rfl, rfl⟩
        go_wp2
        go_ret2
        exact .no rfl (new_refl _)
  · have G1 : Hid (¬ ws.all okW = true) := Lib.hid g1
    have g1' : allW ws = false := by simpa using g1
    clear g1
    rw [show splitI ws xs = .no 111 by rw [splitI, if_neg G1.out]]
    go_enter Try.func32, Try.ntmps32
    go_wp2_with fail
    refine HSZ.out.mono ?_
    rintro e w' ⟨rfl, rfl⟩
    go_wp2
    go_ret2
    exact .no rfl (new_refl _)
end Go.Proofs.Ytcbijmlkkdpheaa
