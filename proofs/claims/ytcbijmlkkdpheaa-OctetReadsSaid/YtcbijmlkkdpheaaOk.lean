/- Contracts of octet.Lay. -/
import Derived.Test.YtcbijmlkkdpheaaOj
set_option linter.unusedVariables false
set_option linter.unusedSimpArgs false
namespace Go.Proofs.Ytcbijmlkkdpheaa
open Go.RowKit

/-- the bytes of the first k numbers -/
def layN (ws : List I64) (ns : List U64) : Nat → Res (List U8)
  | 0 => .ok []
  | k + 1 => match layN ws ns k with
    | .no x => .no x
    | .ok acc => match laidI (ws.getD k ⟨0, by omega⟩).1 (ns.getD k ⟨0, by omega⟩).1 with
      | .no x => .no x
      | .ok xs => .ok (acc ++ xs)
def layI (ws : List I64) (ns : List U64) : Res (List U8) := if ws.all okW = true then (if ns.length = ws.length then layN ws ns ws.length else .no 2) else .no 111
theorem layN_no {ws : List I64} {ns : List U64} {k : Nat} {x : Int} (h : layN ws ns k = .no x) : ∀ j, k ≤ j → layN ws ns j = .no x := by
  intro j hj
  induction j with
  | zero => have : k = 0 := by omega
            subst this; exact h
  | succ j ih =>
    rcases Nat.lt_or_ge j k with hlt | hge
    · have : k = j + 1 := by omega
      subst this; exact h
    · simp only [layN, ih hge]
theorem laidI_len {width n : Int} {xs : List U8} (h : laidI width n = .ok xs) : xs.length ≤ 8 := by
  by_cases h1 : isWB width = true
  · have := (isWB_iff _).1 h1
    rw [laidI, if_pos h1] at h
    by_cases h2 : width = 8 ∨ n < 256 ^ width.toNat
    · rw [if_pos h2] at h
      injection h with h
      rw [← h, beI_length]
      omega
    · rw [if_neg h2] at h
      cases h
  · rw [laidI, if_neg h1] at h
    cases h
theorem layN_len {ws : List I64} {ns : List U64} : ∀ {k : Nat} {acc : List U8}, layN ws ns k = .ok acc → acc.length ≤ 8 * k := by
  intro k
  induction k with
  | zero => intro acc h; simp [layN] at h; subst h; simp
  | succ k ih =>
    intro acc h
    simp only [layN] at h
    cases h1 : layN ws ns k with
    | no x => rw [h1] at h; cases h
    | ok a =>
      rw [h1] at h
      simp only at h
      cases h2 : laidI (ws.getD k ⟨0, by omega⟩).1 (ns.getD k ⟨0, by omega⟩).1 with
      | no x => rw [h2] at h; cases h
      | ok xs =>
        rw [h2] at h
        injection h with h
        have := ih h1
        have := laidI_len h2
        rw [← h]
        simp
        omega

set_option maxRecDepth 100000 in
set_option maxHeartbeats 4000000 in
theorem oc_Lay1 (lo hi lo' hi' : Nat) (v u : Value) (ws : List I64) (ns : List U64) (w : World) (p q : Nat) (hv : Rd ei lo hi w v ws) (hu : Rd e64 lo' hi' w u ns) (hl : ws.length ≤ 1099511627776)
    (hp : Box w p 50 v) (hq : Box w q 51 u) :
    Calls Try.prog 59 #[.pointer (some ⟨p, 0, none⟩), .pointer (some ⟨q, 0, none⟩)] w (OutP (VO e8 5) (layI ws ns) w) := by
  obtain ⟨A, c, rfl, h1, h2⟩ := hv.form
  obtain ⟨B, d, rfl, h3, h4⟩ := hu.form
  have HV := Lib.hid hv
  have HU := Lib.hid hu
  have HL := Lib.hid hl
  have HP := Lib.hid hp
  have HQ := Lib.hid hq
  have cp := hp.cell
  have cq := hq.cell
  have hl9 : ws.length ≤ 9223372036854775807 := hv.len
  clear hv hu hl hp hq
  by_cases g1 : ws.all okW = true
  · have G1 := Lib.hid g1
    clear g1
    by_cases g2 : ns.length = ws.length
    · have G2 := Lib.hid g2
      have d2 : ((ns.length : Int) == (ws.length : Int)) = true := by simp [g2]
      clear g2
      rw [show layI ws ns = layN ws ns ws.length by rw [layI, if_pos G1.out, if_pos G2.out]]
      go_enter Try.func59, Try.ntmps59
      go_wp2_with (first | (go_at_call 58; ((with_reducible refine (oc_size_yes _ _ _ ws _ HV.out (by have := HL.out; omega) G1.out).mono ?_); rintro e w' ⟨rfl, rfl⟩)) | (go_at_call 50; ((with_reducible refine (oc_need_yes _ _).mono ?_); rintro e w' ⟨rfl, rfl⟩)))
      go_loopw [16, 3, 4, 5] (fun i o _ _ wr => ∃ (k : Nat) (acc : List U8) (A1 : Option Addr) (c1 : Nat), k ≤ ws.length ∧ i = .int .i64 k ∧ o = .slice A1 acc.length c1 ∧ Hid (layN ws ns k = .ok acc) ∧ Hid (Own e8 5 w.heap.size wr (.slice A1 acc.length c1) acc) ∧ Hid (New w wr)) (fun i _ _ _ _ => ws.length - (intOf i).toNat)
      case atStart => exact ⟨0, [], none, 0, Nat.zero_le _, rfl, rfl, Lib.hid rfl, Lib.hid (Own.nil _ _ _ _), Lib.hid (new_refl _)⟩
      case round =>
        obtain ⟨k, acc, A1, c1', hk, rfl, rfl, HA, HO, HN⟩ := hrel
        by_cases hlt : k < ws.length
        · have hlt2 : k < ns.length := by have := G2.out; omega
          obtain ⟨b, off, c', e, _, _, _, _, _, hc⟩ := HV.out.at_ k hlt
          obtain ⟨b2, off2, c2', e2, _, _, _, _, _, hc2⟩ := HU.out.at_ k hlt2
          injection e with e1 e2' e3
          injection e2 with e4 e5 e6
          subst e1 e4
          have hcell : wr.cell? ⟨b, off + k, none⟩ = some (ei ws[k]) := cell_later HN.out (hc k hlt)
          have hcell2 : wr.cell? ⟨b2, off2 + k, none⟩ = some (e64 ns[k]) := cell_later HN.out (hc2 k hlt2)
          have cp' := cell_later HN.out cp
          have cq' := cell_later HN.out cq
          clear hc hc2 e2' e3 e5 e6
          have HAL : Hid (acc.length ≤ 8 * k) := Lib.hid (layN_len HA.out)
          have hstep : layN ws ns (k + 1) = match laidI ws[k].1 ns[k].1 with | .no x => .no x | .ok xs => .ok (acc ++ xs) := by
            simp only [layN, HA.out]
            rw [List.getD_eq_getElem?_getD, List.getD_eq_getElem?_getD, List.getElem?_eq_getElem hlt, List.getElem?_eq_getElem hlt2]
            rfl
          have HS := Lib.hid hstep
          clear hstep
          have hlp := oc_laidP ws[k].1 ns[k].1 wr ns[k].2.1 ns[k].2.2
          cases hR : laidI ws[k].1 ns[k].1 with
          | no x =>
            rw [hR] at hlp
            have HS2 := HS.out
            rw [hR] at HS2
            have HX := Lib.hid (layN_no HS2 ws.length (by omega))
            have HLP := Lib.hid hlp
            clear hlp hR HS HS2
            go_wp2_with (go_at_call 47; refine HLP.out.mono ?_; rintro e w1 ⟨hN1, rfl⟩)
            exact ⟨rfl, .no HX.out (HN.out.trans hN1)⟩
          | ok xs =>
            rw [hR] at hlp
            have HS2 := HS.out
            rw [hR] at HS2
            have HXL := Lib.hid (laidI_len hR)
            have HLP := Lib.hid hlp
            have HS3 := Lib.hid HS2
            clear hlp hR HS HS2
            go_wp2_with fail
            refine HLP.out.mono ?_
            rintro e w1 ⟨hN1, v1, rfl, A2, c2, rfl, hR2⟩
            have HN1 := Lib.hid (HN.out.trans hN1)
            have HO1 := Lib.hid (HO.out.new hN1)
            have HR2 := Lib.hid hR2
            clear hN1 hR2
            go_wp2_with (at_builtin; refine wpl_append (enc := e8) rfl (.tmp 21) (.tmp 27) rfl Try.underlying22 info_u8 rfl (fun _ => rfl) rfl rfl HO1.out HR2.out (by have := HL.out; have := HAL.out; have := HXL.out; omega) (by have := HL.out; have := HAL.out; have := HXL.out; omega) HN1.out.size ?_)
            intro A3 c3 w2 hO hg _
            have HO2 := Lib.hid hO
            have HN2 := Lib.hid (Below.grown HN1.out hg HN1.out.size (fun k hk => (HO1.out.lt k hk).1))
            clear hO hg
            go_wp2
            go_roundw
            case rel => exact ⟨k + 1, acc ++ xs, A3, c3, by omega, by go_num, by simp, HS3, by simpa using HO2, HN2⟩
            case measure => simp [intOf]; omega
        · go_wp2
          go_ret
          have hk' : k = ws.length := by omega
          subst hk'
          exact .yes HA.out HN.out ⟨A1, c1', rfl, HO.out⟩
    · have G2 := Lib.hid g2
      have d2 : ((ns.length : Int) == (ws.length : Int)) = false := by simp; omega
      clear g2
      rw [show layI ws ns = .no 2 by rw [layI, if_pos G1.out, if_neg G2.out]]
      go_enter Try.func59, Try.ntmps59
      go_wp2_with (first | (go_at_call 58; ((with_reducible refine (oc_size_yes _ _ _ ws _ HV.out (by have := HL.out; omega) G1.out).mono ?_); rintro e w' ⟨rfl, rfl⟩)) | (go_at_call 50; ((with_reducible refine (oc_need_no _ _).mono ?_); rintro e w' ⟨rfl, rfl⟩)))
      exact ⟨rfl, .no rfl (new_refl _)⟩
  · have G1 := Lib.hid g1
    clear g1
    rw [show layI ws ns = .no 111 by rw [layI, if_neg G1.out]]
    go_enter Try.func59, Try.ntmps59
    go_wp2_with (go_at_call 58; ((with_reducible refine (oc_size_no _ _ _ ws _ HV.out (by have := HL.out; omega) G1.out).mono ?_); rintro e w' ⟨rfl, rfl⟩))
    exact ⟨rfl, .no rfl (new_refl _)⟩
end Go.Proofs.Ytcbijmlkkdpheaa
