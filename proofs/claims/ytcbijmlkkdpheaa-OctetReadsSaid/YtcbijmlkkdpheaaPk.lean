/- Contracts of the reference of rows. -/
import Derived.Test.YtcbijmlkkdpheaaPf
set_option linter.unusedVariables false
set_option linter.unusedSimpArgs false
namespace Go.Proofs.Ytcbijmlkkdpheaa
open Go.RowKit

def allW (xs : List I64) : Bool := xs.all okW
def refSize (xs : List I64) : Int := if xs.all okW = true then sumW xs else 0
theorem ref_Size (lo hi : Nat) (v : Value) (xs : List I64) (w : World) (hv : Rd ei lo hi w v xs) (hl : xs.length ≤ 140737488355328) :
    Calls Try.prog 28 #[v] w fun e w' => e = .returned (.tuple #[.int .i64 (refSize xs), .bool (allW xs)]) ∧ w = w' := by
  obtain ⟨A, c, rfl, h1, h2⟩ := hv.form
  have HR := Lib.hid hv
  have HL := Lib.hid hl
  clear hv hl
  have hl : xs.length ≤ 9223372036854775807 := by omega
  go_enter Try.func28, Try.ntmps28
  go_wp2_with fail
  go_loop [4, 9, 6] (fun n i _ => ∃ k : Nat, k ≤ xs.length ∧ i = .int .i64 k ∧ n = .int .i64 (sumW (xs.take k)) ∧ Hid ((xs.take k).all okW = true)) (fun _ i _ => xs.length - (intOf i).toNat)
  case atStart => exact ⟨0, Nat.zero_le _, rfl, rfl, by show _ = _; simp⟩
  case round =>
    obtain ⟨k, hk, rfl, rfl, HA⟩ := hrel
    by_cases hlt : k < xs.length
    · obtain ⟨b, off, c', e, _, _, _, _, _, hc⟩ := HR.out.at_ k hlt
      injection e with e1 e2 e3
      subst e1
      have hcell : w.cell? ⟨b, off + k, none⟩ = some (ei xs[k]) := hc k hlt
      have hb := sumW_bound (xs.take k) HA.out
      have hb1 : 0 ≤ sumW (xs.take k) := by omega
      have hb2 : sumW (xs.take k) ≤ 1125899906842624 := by have := HL.out; rw [List.length_take] at hb; omega
      have HTS := Lib.hid (take_snoc xs k hlt)
      clear hc e2 e3 hb
      by_cases hw : isWB xs[k].1 = true
      · have hwd := (isWB_iff _).1 hw
        have HW := Lib.hid hw
        clear hw
        have hsum : sumW (xs.take k) + xs[k].1 = sumW (xs.take (k + 1)) := by rw [HTS.out, sumW_append]; simp [sumW]
        have HS := Lib.hid hsum
        have HA2 : Hid ((xs.take (k + 1)).all okW = true) := Lib.hid (by rw [HTS.out, List.all_append, HA.out]; simp [okW, HW.out])
        clear hsum
        go_wp2_with (go_at_call 12; refine (ref_Width _ _).mono ?_; rw [HW.out]; rintro e w' ⟨rfl, rfl⟩)
        go_round
        case rel => exact ⟨k + 1, by omega, by go_num, by rw [← HS.out], HA2⟩
        case measure => simp [intOf]; omega
      · have hf : isWB xs[k].1 = false := by simpa using hw
        have hall : xs.all okW = false := by
          rw [Bool.eq_false_iff]
          intro h
          exact hw (List.all_eq_true.1 h _ (List.getElem_mem hlt))
        have HF := Lib.hid hf
        have HALL := Lib.hid hall
        clear hw hf hall
        go_wp2_with (go_at_call 12; refine (ref_Width _ _).mono ?_; rw [HF.out]; rintro e w' ⟨rfl, rfl⟩)
        go_ret2
        refine ⟨?_, rfl⟩
        rw [refSize, allW, HALL.out]
        rfl
    · go_wp2
      go_ret2
      obtain rfl : k = xs.length := by omega
      have hA := HA.out
      rw [List.take_length] at hA
      refine ⟨?_, rfl⟩
      rw [refSize, allW, if_pos hA, hA, List.take_length]
      rfl

theorem laidI_fits {width n : Int} (hw : isWB width = true) (hn' : n ≤ 18446744073709551615) : laidI width n = if n < 256 ^ width.toNat then .ok (beI width.toNat n) else .no 112 := by
  rw [laidI, if_pos hw]
  by_cases h : n < 256 ^ width.toNat
  · rw [if_pos (.inr h), if_pos h]
  · rw [if_neg h, if_neg]
    rintro (h1 | h1)
    · subst h1
      exact h (by
        have : (256 : Int) ^ (8 : Int).toNat = 18446744073709551616 := by decide
        omega)
    · exact h h1

set_option maxRecDepth 100000 in
set_option maxHeartbeats 4000000 in
theorem ref_Rows (lo hi lo' hi' : Nat) (v u : Value) (ws : List I64) (ns : List U64) (w : World) (hv : Rd ei lo hi w v ws) (hu : Rd e64 lo' hi' w u ns) (hl : ws.length ≤ 1099511627776) :
    Calls Try.prog 30 #[v, u] w (OutT (.slice none 0 0) (VO e8 5) (layI ws ns) w) := by
  obtain ⟨A, c, rfl, h1, h2⟩ := hv.form
  obtain ⟨B, d, rfl, h3, h4⟩ := hu.form
  have HV := Lib.hid hv
  have HU := Lib.hid hu
  have HL := Lib.hid hl
  have hl9 : ws.length ≤ 9223372036854775807 := hv.len
  have hsz := ref_Size lo hi _ ws w hv (by omega)
  have HSZ := Lib.hid hsz
  clear hv hu hl hsz
  by_cases g1 : allW ws = true
  · have G1 : Hid (ws.all okW = true) := Lib.hid g1
    by_cases g2 : ns.length = ws.length
    · have G2 := Lib.hid g2
      have d2 : ((ns.length : Int) != (ws.length : Int)) = false := by simp [g2]
      clear g2
      rw [show layI ws ns = layN ws ns ws.length by rw [layI, if_pos G1.out, if_pos G2.out]]
      go_enter Try.func30, Try.ntmps30
      go_wp2_with fail
      refine HSZ.out.mono ?_
      rintro e w' ⟨rfl, rfl⟩
      go_wp2_with fail
      go_loopw [25, 8, 9, 10] (fun i o _ _ wr => ∃ (k : Nat) (acc : List U8) (A1 : Option Addr) (c1 : Nat), k ≤ ws.length ∧ i = .int .i64 k ∧ o = .slice A1 acc.length c1 ∧ Hid (layN ws ns k = .ok acc) ∧ Hid (Own e8 5 w.heap.size wr (.slice A1 acc.length c1) acc) ∧ Hid (New w wr)) (fun i _ _ _ _ => ws.length - (intOf i).toNat)
      case atStart => exact ⟨0, [], none, 0, Nat.zero_le _, rfl, rfl, Lib.hid rfl, Lib.hid (Own.nil _ _ _ _), Lib.hid (new_refl _)⟩
      case round =>
        obtain ⟨k, acc, A1, c1', hk, rfl, rfl, HA, HO, HN⟩ := hrel
        by_cases hlt : k < ws.length
        · have hlt2 : k < ns.length := by have := G2.out; omega
          obtain ⟨b, off, c', e, _, _, _, _, _, hc⟩ := HV.out.at_ k hlt
          obtain ⟨b2, off2, c2', e2, _, _, _, _, _, hc2⟩ := HU.out.at_ k hlt2
          injection e with e1 e2' e3
          injection e2 with e4 e5 e6
          subst e1 e4
          have hcell : wr.cell? ⟨b, off + k, none⟩ = some (ei ws[k]) := cell_later HN.out (hc k hlt)
          have hcell2 : wr.cell? ⟨b2, off2 + k, none⟩ = some (e64 ns[k]) := cell_later HN.out (hc2 k hlt2)
          clear hc hc2 e2' e3 e5 e6
          have HAL : Hid (acc.length ≤ 8 * k) := Lib.hid (layN_len HA.out)
          have hwk : isWB ws[k].1 = true := List.all_eq_true.1 G1.out _ (List.getElem_mem hlt)
          have hwb := (isWB_iff _).1 hwk
          have hstep : layN ws ns (k + 1) = match laidI ws[k].1 ns[k].1 with | .no x => .no x | .ok xs => .ok (acc ++ xs) := by
            simp only [layN, HA.out]
            rw [List.getD_eq_getElem?_getD, List.getD_eq_getElem?_getD, List.getElem?_eq_getElem hlt, List.getElem?_eq_getElem hlt2]
            rfl
          rw [laidI_fits hwk ns[k].2.2] at hstep
          have hfc := fun W => ref_Fits ws[k].1 ns[k].1 W (by omega) (by omega) ns[k].2.1 ns[k].2.2
          have hlc := fun W => ref_Lay ws[k].1 ns[k].1 W (by omega) (by omega) ns[k].2.1 ns[k].2.2
          have HFC := Lib.hid hfc
          have HLC := Lib.hid hlc
          clear hfc hlc
          by_cases hf : ns[k].1 < 256 ^ ws[k].1.toNat
          · rw [if_pos hf] at hstep
            have HS3 := Lib.hid hstep
            have HFT := Lib.hid hf
            clear hstep hf hwk
            go_wp2_with fail
            refine (HFC.out _).mono ?_
            rw [decide_eq_true HFT.out]
            rintro e w' ⟨rfl, rfl⟩
            go_wp2_with fail
            refine (HLC.out _).mono ?_
            rintro e w1 ⟨A2, c2, rfl, hN1, hO1⟩
            have HN1 := Lib.hid (HN.out.trans hN1)
            have HO1 := Lib.hid (HO.out.new hN1)
            have HR2 := Lib.hid (hO1.rd (Nat.le_refl _))
            have HBL : Hid ((beI ws[k].1.toNat ns[k].1).length ≤ 8) := Lib.hid (by rw [beI_length]; omega)
            clear hN1 hO1
            generalize (beI ws[k].1.toNat ns[k].1) = bs at *
            go_wp2_with (at_builtin; refine wpl_append (enc := e8) rfl (.tmp 37) (.tmp 43) rfl Try.underlying22 info_u8 rfl (fun _ => rfl) rfl rfl HO1.out HR2.out (by have := HL.out; have := HAL.out; have := HBL.out; omega) (by have := HL.out; have := HAL.out; have := HBL.out; omega) HN1.out.size ?_)
            intro A3 c3 w2 hO hg _
            have HO2 := Lib.hid hO
            have HN2 := Lib.hid (Below.grown HN1.out hg HN1.out.size (fun k hk => (HO1.out.lt k hk).1))
            clear hO hg
            go_wp2
            go_roundw
            case rel => exact ⟨k + 1, acc ++ bs, A3, c3, by omega, by go_num, by simp, HS3, by simpa using HO2, HN2⟩
            case measure => simp [intOf]; omega
          · rw [if_neg hf] at hstep
            have HX := Lib.hid (layN_no hstep ws.length (by omega))
            have HFT := Lib.hid hf
            clear hstep hf hwk
            go_wp2_with fail
            refine (HFC.out _).mono ?_
            rw [decide_eq_false (by have := HFT.out; omega)]
            rintro e w' ⟨rfl, rfl⟩
            go_wp2
            go_ret2
            exact .no HX.out HN.out
        · go_wp2
          go_ret2
          have hk' : k = ws.length := by omega
          subst hk'
          exact .yes HA.out HN.out ⟨A1, c1', rfl, HO.out⟩
    · have G2 := Lib.hid g2
      have d2 : ((ns.length : Int) != (ws.length : Int)) = true := by simp; omega
      clear g2
      rw [show layI ws ns = .no 2 by rw [layI, if_pos G1.out, if_neg G2.out]]
      go_enter Try.func30, Try.ntmps30
      go_wp2_with fail
      refine HSZ.out.mono ?_
      rintro e w' ⟨rfl, rfl⟩
      go_wp2
      go_ret2
      exact .no rfl (new_refl _)
  · have G1 : Hid (¬ ws.all okW = true) := Lib.hid g1
    have g1' : allW ws = false := by simpa using g1
    clear g1
    rw [show layI ws ns = .no 111 by rw [layI, if_neg G1.out]]
    go_enter Try.func30, Try.ntmps30
    go_wp2_with fail
    refine HSZ.out.mono ?_
    rintro e w' ⟨rfl, rfl⟩
    go_wp2
    go_ret2
    exact .no rfl (new_refl _)
end Go.Proofs.Ytcbijmlkkdpheaa
